/- Part 7 of the proof of matches_lifted: FnPs, FnSm, FnSn, FnSo, FnLr, FnLexA, FnQa, FnWa, FnWb, FnWc, FnWd, FnWe, FnWf, FnQb, FnQd, FnQg, FnXa, FnRepS, FnRepO, FnRepB, FnRepN, FnRepR. -/
import Derived.Lib.Builder
import Derived.Test.YtohlogbnpfofpaaGreatDoorPX06
set_option linter.all false
set_option maxHeartbeats 100000000
set_option maxRecDepth 100000
namespace Go.Proofs.YtohlogbnpfofpaaGreatDoor
open Go StillVC
def xR (I:Item):List aVs->List It->Prop
 | [],[]=>True
 | c::cs,x::xs=>itR I c x/\xR I cs xs
 | _,_=>False
theorem itR.mono {I J:Item}(hm:∀ h,J.sat h->I.sat h) {c:aVs}{x:It}(r:itR I c x):itR J c x:=by
 obtain⟨vc,vn,vt,vf,vv,vd,e0,e1,e2,e3,e4,e5,e6,e7,e8,h,r1,r2,r3,r4,r5,r6,rx⟩:=r
 exact⟨vc,vn,vt,vf,vv,vd,e0,e1,e2,e3,e4,e5,e6,e7,e8,h,r1.mono hm,r2.mono hm,r3.mono hm,r4.mono hm,r5.mono hm,r6.mono hm,rx.mono hm⟩
theorem itR.len {I:Item}{c:aVs}{x:It}(r:itR I c x):c.length=25:=by
 obtain⟨vc,vn,vt,vf,vv,vd,e0,e1,e2,e3,e4,e5,e6,e7,e8,rfl,_⟩:=r
 rfl
theorem itR.one {I:Item}{h:Heap}(hI:I.sat h) {c:aVs}{x:It}(r:itR I c x):∀ u∈c,u.oneCell'=true:=by
 obtain⟨vc,vn,vt,vf,vv,vd,e0,e1,e2,e3,e4,e5,e6,e7,e8,rfl,r1,r2,r3,r4,r5,r6,rx⟩:=r
 obtain⟨y1,z1,rfl⟩:=r1.isS hI
 obtain⟨y2,z2,rfl⟩:=r2.isS hI
 obtain⟨y3,z3,rfl⟩:=r3.isS hI
 obtain⟨y4,z4,rfl⟩:=r4.isS hI
 obtain⟨y5,z5,rfl⟩:=r5.isS hI
 obtain⟨y6,z6,rfl⟩:=r6.isS hI
 have he:=aD4.1 (fY hI rx);intro u hu;unfold itC at hu;have e:[Value.int .i64 x.kind,sv x.name,iv x.off,sv x.table,sv x.attr,.slice y1 x.cols.length z1,.slice y2 x.names.length z2,iv x.by_,iv x.n,iv x.m,.slice y3 x.terms.length z3,sv x.other,sv x.oattr,.slice y4 x.fixed.length z4,.slice y5 x.vars.length z5,.slice y6 x.conds.length z6,e0,e1,e2,e3,e4,e5,e6,e7,e8]=[Value.int .i64 x.kind,sv x.name,iv x.off,sv x.table,sv x.attr,.slice y1 x.cols.length z1,.slice y2 x.names.length z2,iv x.by_,iv x.n,iv x.m,.slice y3 x.terms.length z3,sv x.other,sv x.oattr,.slice y4 x.fixed.length z4,.slice y5 x.vars.length z5,.slice y6 x.conds.length z6]++[e0,e1,e2,e3,e4,e5,e6,e7,e8]:=rfl
 rw[e]at hu
 rcases aEH.1 hu with hu|hu
 ·have ha:∀(l:aVs),l.all (λu=>u.oneCell')=true->u∈l->u.oneCell'=true:=λl h k=>aD4.1 h u k
  exact ha _ rfl hu
 ·exact he u hu
theorem xR.mono {I J:Item}(hm:∀ h,J.sat h->I.sat h):∀ {cs:List aVs}{xs:List It},xR I cs xs->xR J cs xs
 | [],[],_=>trivial
 | _::_,_::_,h=>⟨h.1.mono hm,xR.mono hm h.2⟩
 | [],_::_,h=>h.elim
 | _::_,[],h=>h.elim
theorem xR.snoc {I:Item}:∀ {cs:List aVs}{xs:List It}{c:aVs}{x:It},xR I cs xs->itR I c x->xR I (cs++[c]) (xs++[x])
 | [],[],_,_,_,k=>⟨k,trivial⟩
 | _::_,_::_,_,_,h,k=>⟨h.1,xR.snoc h.2 k⟩
 | [],_::_,_,_,h,_=>h.elim
 | _::_,[],_,_,h,_=>h.elim
def aAK (I:Item)(v:Value)(xs:List It):Prop:=∃ cs,Reads I 25 v xs.length cs.flatten/\xR I cs xs
def kA (h:Heap)(t:aBs)(v:Value)(h':Heap):Prop :=
 if 20000<t.length then v=.tuple ⟨[.agg ⟨[aP]⟩,iv 3,iv (-1)]⟩/\Own h [] h'
 else match oU t with
  | .error (e,i)=>v=.tuple ⟨[.agg ⟨[aP]⟩,.int .i64 e,.int .i64 i]⟩/\Own h [] h'
  | .ok xs=>∃ u I,v=.tuple ⟨[.agg ⟨[u]⟩,.int .i64 0,.int .i64 0]⟩/\aAK I u xs/\Own h [I] h'
theorem readR_num {l:aBs}{kd n:Int}{x:aBs}{len:Nat}(h:jQ l=.tok kd x n len):0<=n/\n<=10000000000:=by
 cases l with
 | nil=>cases h
 | cons c r =>
  cases hlet:eZ c with
  | true =>
   rw[vR hlet]at h
   split at h<;>cases h
   decide
  | false =>
   cases hdig:dH c with
   | true =>
    rw[yP hlet hdig]at h
    split at h
    ·cases h
    ·rename_i hn
     cases h
     have h1:=undec_lt ((c::r).take (cP dH (c::r))) (wU dH (c::r));have h2:((c::r).take (cP dH (c::r))).length<=10:=by rw[aEC];omega
     have h3:10 ^ ((c::r).take (cP dH (c::r))).length<=10 ^ 10:=Nat.pow_le_pow_right zD h2
     omega
   | false =>
    by_cases h34:c.toNat=34
    ·rw[yO hlet hdig h34]at h
     have:=(aAG _ _ _ h).2
     omega
    ·rw[vQ hlet hdig h34]at h
     split at h<;>cases h
     decide
theorem yW:∀(f:Nat)(l:aBs)(i k:Nat),(∀ e j,mF f l i k=.error (e,j)->e≠0)/\(∀ ts,k<=5000->mF f l i k=.ok ts->k+ts.length<=5000/\TokOK ts)
 | 0,l,i,k=>⟨λ_ _ h=>(by cases h),λts hk h=>(by cases h;exact⟨by simpa using hk,(λ_ h=>by cases h)⟩)⟩
 | f+1,[],i,k=>⟨λ_ _ h=>(by cases h),λts hk h=>(by cases h;exact⟨by simpa using hk,(λ_ h=>by cases h)⟩)⟩
 | f+1,c::r,i,k=>by
  cases hr:jQ (c::r) with
  | err e =>
   rw[xP zS hr]
   refine⟨λe' j h=>?_,λts _ h=>(by cases h)⟩
   cases h
   have:=readR_err hr
   omega
  | none=>exact absurd hr (readR_some _)
  | tok kd x n len =>
   by_cases hk:k=5000
   ·subst hk
    rw[aAX zS hr]
    exact⟨λe' j h=>(by cases h;decide),λts _ h=>(by cases h)⟩
   ·have hE:=aB5 (f:=f) (i:=i) (k:=k) zS hr hk []
    obtain⟨ih1,ih2⟩:=yW f ((c::r).drop (len+gO false ((c::r).drop len))) (i+(len+gO false ((c::r).drop len))) (k+1)
    generalize mF f ((c::r).drop (len+gO false ((c::r).drop len))) (i+(len+gO false ((c::r).drop len))) (k+1)=G at *
    generalize mF (f+1) (c::r) i k=H at *
    cases G with
    | error y =>
     cases H with
     | error y'=>simp only[zL]at hE;cases hE;exact⟨λe j h=>ih1 e j h,λts _ h=>(by cases h)⟩
     | ok ts=>cases hE
    | ok us =>
     cases H with
     | error y'=>cases hE
     | ok ts =>
      simp only[zL,lnA,Except.ok.injEq]at hE
      subst hE
      refine⟨λ_ _ h=>(by cases h),λts hk' h=>?_⟩
      cases h
      obtain⟨q1,q2⟩:=ih2 us zO rfl
      refine⟨by simp;omega,λt ht=>?_⟩
      simp only[lcA,lnA,aEd]at ht
      rcases ht with rfl|ht
      ·exact readR_num hr
      ·exact q2 t ht
theorem uV {t:aBs}:(∀ e j,xO t=.error (e,j)->e≠0)/\(∀ ts,xO t=.ok ts->ts.length<=5000/\TokOK ts):=by
 obtain⟨h1,h2⟩:=yW t.length (t.drop (gO false t)) (gO false t) 0
 exact⟨h1,λts h=>by have:=h2 ts zD h;exact⟨by omega,this.2⟩⟩
def leftP (bp:Nat)(h:Heap):Nat:=match bI h ⟨bp,0,none⟩ with
 | some (.slice _ n _)=>n
 | _=>0
theorem leftP_of {B:Base}{L:List Item}{h:Heap}{bp n:Nat}{cs:aVs}{t:TypeId}{a:Option Addr}{c:Nat}(o:Own B L h)(k:Nat)(hk:L[k]?=some (box bp cs t))(hc:cs[0]?=some (.slice a n c)):leftP bp h=n:=by
 unfold leftP
 rw[(o.cellB k hk 0).trans hc]
theorem zC {z f:Nat}{acc:List It}{t:Tok}{r:List Tok}(h:acc.length=200):kF z (f+1) acc (t::r)=.error (3,t.off):=by
 rw[kF,if_pos h]
theorem aA2 {z f:Nat}{acc:List It}{t:Tok}{r:List Tok}{e:Int×Nat}(h:acc.length≠200)(hi:pN z (t::r)=.error e):kF z (f+1) acc (t::r)=.error e:=by
 rw[kF,if_neg h,hi]
theorem aB6 {z f:Nat}{acc:List It}{t:Tok}{r q:List Tok}{x:It}(h:acc.length≠200)(hi:pN z (t::r)=.ok (x,q)):kF z (f+1) acc (t::r)=kF z f (acc++[x]) q:=by
 rw[kF,if_neg h,hi]
theorem item_call {s:aVs}{h:Heap}{K:KK}{Q:QQ}{B:Base}{L:List Item}{bp z:Nat}{tk:Item}{w:Value}{t0:Tok}{r0:List Tok}(hW:lX B.h)(o:Own B L h)(e:pick L [0,1]=PSt bp z w tk)(hR:dC tk w (t0::r0))(hl:(t0::r0).length<=5000)
  (hret:∀ a r w' v I h',pN z (t0::r0)=.ok (a,r)->itV a v I->r.length<=(t0::r0).length->dC tk w' r->Own B ([box bp [w',iv z] 72,tk,I]++uH L) h'->K v false h')
  (hpan:∀ e w' h',pN z (t0::r0)=.error e->Own B (PSt bp z w' tk++uH L) h'->Q (.panic (mG e)) s h'):CallVC Tryz.prog 28 [pv bp 0] s h K Q:=by
 have ol:=o.lend [0,1] [2,3,4,5,6,7,8,9] rfl
 rw[e]at ol
 exact dP.call (item_spec t0 r0 ⟨B.h,uH L++B.T⟩ bp z tk w h hW ol hR hl) (λa r w' v I h' h1 h2 h3 h4 h5=>hret a r w' v I h' h1 h2 h3 h4 h5.back) (λe w' h' h1 h2=>hpan e w' h' h1 h2.back)
theorem itemP_lt {z:Nat}{ts:List Tok}{x:It}{r:List Tok}(h:pN z ts=.ok (x,r)):r.length<ts.length:=by
 cases ts with
 | nil=>exact absurd h (by intro e;cases e)
 | cons t q =>
  rw[itemP_eq]at h
  cases hq:iJ z cU 1 (t::q) with
  | error e=>rw[aC9 hq]at h;cases h
  | ok p =>
   obtain⟨k,w⟩:=p
   rw[aDa hq]at h
   have h1:=(wN _ _ _ hq).2.2;have h2:=(Dec.bind (Dec.ifP (Dec.name z)) λnm=>Dec.bind (Dec.part z k (x0 k nm t.off)) λ_=>Dec.bind (show Dec (if k=4 then cO z [[125]] else cO z [[59]]) by split<;>exact Dec.need _ _) λ_=>Dec.pure _) _ _ _ h
   omega
theorem parse_spec (t:aBs)(h:Heap)(hl:t.length<=9223372036854775807)(hW:lX h) :
  bG Tryz.prog 13 [sv t] h (kA h t):=by
 refine Spec.enterD2 Tryz.func13 rfl (n:=44) k_ k_ ?_;have o0:=Own.refl h;refine aDH o0 uD λb10 m10 o10=>?_;refine aDH o10 jM λb11 m11 o11=>?_;refine aDH o11 aK λb12 m12 o12=>?_;refine aDN (lex_spec t _ hl) ?_;rintro v h1 hv;have key:(∃ e i:Int,e≠0/\v=.tuple ⟨[.slice none 0 0,iv e,iv i]⟩/\Own m12 [] h1/\∀ h',Own h [] h'->kA h t (.tuple ⟨[.agg ⟨[aP]⟩,iv e,iv i]⟩) h') ∨
   (∃ ts u,xO t=.ok ts/\¬ 20000<t.length/\v=.tuple ⟨[u,iv 0,iv 0]⟩/\Own m12 [row u 112 4 ts.length (ts.flatMap sC)] h1):=by
  unfold mT at hv;by_cases hbig:20000<t.length
  ·rw[if_pos hbig]at hv
   exact .inl ⟨3,-1,by decide,hv.1,hv.2,λh' o'=>by rw[kA,if_pos hbig];exact⟨rfl,o'⟩⟩
  ·rw[if_neg hbig]at hv
   cases hL:xO t with
   | error e =>
    obtain⟨e,i⟩:=e
    rw[hL]at hv
    exact .inl ⟨e,i,uV.1 e i hL,hv.1,hv.2,λh' o'=>by rw[kA,if_neg hbig,oU,hL];exact⟨rfl,o'⟩⟩
   | ok ts =>
    rw[hL]at hv
    obtain⟨u,h2,h3⟩:=hv
    exact .inr ⟨ts,u,rfl,hbig,h2,h3⟩
 clear hv
 rcases key with ⟨e,i,hne,rfl,oc,hpost⟩|⟨ts,u,hL,hbig,rfl,oc⟩
 ·have o1:=oc.thenE zA
  clear oc;(refine sA o1 1 jM ?_;intro m50 o50);(refine sA o50 2 aK ?_;intro m51 o51);refine oB o51 1 jM ?_;refine bD λc53=>?_;refine DrawVC.introG (λh h'=>h'[b11]?=h[b11]?/\h'[b12]?=h[b12]?) (λa=>a.block=b11∨a.block=b12) (λ_=>⟨rfl,rfl⟩) (λh h' a v he ha hc=>by rcases ha with rfl|rfl;rw[iW he.1];exact hc;rw[iW he.2];exact hc) [0] [1,2] [5] [0,1,2,3,4,5] mixed k_ rfl (λ_ _ _ _ h=>h) ?_;refine aDd mD ?_;refine StillVCA.load1 jM rfl (.inl rfl) ((Own.cellB zA 1 rfl _).trans rfl) ?_;refine StillVCA.load1 aK rfl (.inr rfl) ((Own.cellB zA 2 rfl _).trans rfl) ?_;(refine sA o51 0 uD ?_;intro m63 o63)
  refine⟨⟨(Own.satK o63 1 rfl).trans (Own.satK o51 1 rfl).symm,(Own.satK o63 2 rfl).trans (Own.satK o51 2 rfl).symm⟩,?_⟩
  (refine sB o63 1 jM ?_;intro m70 o70)
  refine⟨⟨(Own.satK o70 1 rfl).trans (Own.satK o63 1 rfl).symm,(Own.satK o70 2 rfl).trans (Own.satK o63 2 rfl).symm⟩,?_⟩
  (refine sB o70 2 aK ?_;intro m80 o80);exact RetVC.cell3A rfl uD rfl jM aK rfl rfl rfl (o80.cellB 0 rfl 0) (o80.cellB 1 rfl 0) (o80.cellB 2 rfl 0) (hpost _ (o80.sel [] rfl))
 ·have hP:∀ v h',kA h t v h'=_:=λv h'=>by rw[kA,if_neg hbig]
  unfold oU at hP
  simp only[hL]at hP
  obtain⟨hts,hok⟩:=uV.2 ts hL
  have o1:=Own.call zA oc
  simp only[lcA,lnA]at o1
  clear oc
  obtain⟨ua,uc,rfl⟩:=o1.rowIs 3 rfl
  (refine sA o1 1 jM ?_;intro m100 o100);(refine sA o100 2 aK ?_;intro m101 o101);refine oB o101 1 jM ?_;refine aDL ?_;generalize hT:kF t.length (ts.length+1) [] ts=T at hP;refine DeferVC.closureP (λc s hh=>∃(e:Int×Nat) (x:Value),c=mG e/\T=.error e/\sget s 2=pv b10 0/\sget s 3=pv b11 0/\sget s 4=pv b12 0/\Own h [box b10 [x] 24,box b11 [iv 0] 27,box b12 [iv 0] 3] hh) zS ?_;refine aI ?_ ?_
  ·rintro c s hh ⟨e,x,rfl,hTe,s2,s3,s4,oo⟩
   refine pleave_err _ _ _ _ b10 b11 b12 _ _ _ e oo s2 s3 s4 λh' o'=>?_;show kA h t _ _
   rw[hP,hTe]
   exact⟨rfl,o'⟩
  refine rR (aDn rfl cE ?_);refine rR (aDd gV ?_);refine aI rfl ?_;refine aI rfl ?_;refine xB o101 λb122 m122 o122=>?_;have on:Own h [box b122 [.slice ua ts.length uc,iv t.length] 72,row (.slice ua ts.length uc) 112 4 ts.length (ts.flatMap sC),box b10 [.slice none 0 0] 24,box b11 [iv 0] 27,box b12 [iv 0] 3,row (.slice none 0 0) 44 25 0 [],iV] m122:=((o122.nilRow 44 25).emptyI').sel [5,4,1,2,3,6,0] rfl;refine aDT [24,25,26,27,28,29,30,31,32,33,34,35,36,37,38,39,40,41,42] [] (λ_ hh=>∃(f:Nat) (acc:List It) (q:List Tok) (w:Value) (va:Option Addr) (vc:Nat) (I:Item) (cs:List aVs),kF t.length f acc q=T/\q.length<f/\acc.length<=200/\q.length<=5000/\dC (row (.slice ua ts.length uc) 112 4 ts.length (ts.flatMap sC)) w q/\xR I cs acc/\Own h [box b122 [w,iv t.length] 72,row (.slice ua ts.length uc) 112 4 ts.length (ts.flatMap sC),box b10 [.slice va acc.length vc] 24,box b11 [iv 0] 27,box b12 [iv 0] 3,row (.slice va acc.length vc) 44 25 acc.length cs.flatten,I] hh) (λ_ hh=>leftP b122 hh) ?_ ?_
  ·exact⟨ts.length+1,[],ts,.slice ua ts.length uc,none,0,iV,[],hT,by omega,by simp,hts,⟨eG,hok⟩,trivial,on⟩
  ·rintro _ junk hh ⟨f,acc,q,w,va,vc,I,cs,hQ,hf,hacc,hq5,hR,hI,oh⟩
   obtain⟨f,rfl⟩:∃ f',f=f'+1:=⟨f - 1,by omega⟩
   obtain⟨wa,wc,rfl⟩:=hR.1.isS (Own.satK oh 1 rfl)
   have hm0:=leftP_of oh 0 rfl rfl;cases q with
   | nil =>
    have hQ':T=.ok acc:=by rw[← hQ];rfl
    refine cB ?_;refine fB gV ?_;refine oB oh 0 fS ?_;refine lB gW ?_;refine aDL (nB oh 2 uD ?_);(refine sB oh 2 uD ?_;intro m205 o205);(refine sA o205 3 jM ?_;intro m206 o206);(refine sA o206 4 aK ?_;intro m207 o207);refine pleave_ok _ _ _ _ _ _ ?_;refine RetVC.cell3A rfl uD rfl jM aK rfl rfl rfl (o207.cellB 2 rfl 0) (o207.cellB 3 rfl 0) (o207.cellB 4 rfl 0) ?_;show kA h t _ _
    rw[hP,hQ']
    exact⟨_,_,rfl,⟨cs,eG.inl,hI.mono (λ_ (s:(fE _ _).sat _)=>s.2)⟩,(o207.sel [5,6] rfl).join⟩
   | cons tk0 r0 =>
    have hln:(tk0::r0).length=r0.length+1:=rfl;refine cB ?_;refine fB gV ?_;refine oB oh 0 fS ?_;refine lB gW ?_;refine bB λc304=>fB mD ?_;refine oB oh 2 nQ ?_;refine lB mW ?_;by_cases hfull:acc.length=200
    ·refine bB λc320=>?_
     refine aDO (mL 3 b122 t.length _ (tk0::r0) _ (Own.cellB zA 0 rfl 0) (Own.cellB zA 0 rfl 1) (Own.reads zA 1 hR.1 rfl)) (λ_ _ h=>h.elim) (λc h4 ⟨hc,ho⟩=>?_);subst hc
     exact⟨(3,tk0.off),_,rfl,by rw[← hQ,zC hfull],rfl,rfl,rfl,(ho.thenE zA).sel [2,3,4] rfl⟩
    ·refine bA λc340=>?_
     refine DrawVC.introBP b10 [0,2,6] [1] [5,7] [0,1,2,3,4,5,6,7] mixed k_ rfl (aC8.of [36,37,38,39,40,41,42] rfl λd hd c s v h ⟨e,x,g1,g2,s2,s3,s4,oo⟩=>⟨e,x,g1,g2,(pH (by rintro rfl;cases hd)).symm.trans s2,(pH (by rintro rfl;cases hd)).symm.trans s3,(pH (by rintro rfl;cases hd)).symm.trans s4,oo⟩) ?_;refine fC mD ?_;refine StillVCA.load1 nQ rfl rfl ((oh.cellB 2 rfl _).trans rfl) ?_;refine item_call hW zA rfl hR zO (λx q2 w2 v J h3 hm hv hle hR2 oq=>?_) (λe w2 h3 hm o2=>?_)
     ·obtain⟨c,rfl,hc⟩:=hv
      have hlt:=itemP_lt hm
      rw[aB6 hfull hm]at hQ
      have o9:=oq
      simp only[PSt,pick,l_]at o9
      clear oq
      refine⟨(Own.satK o9 3 rfl).trans (Own.satK (x:=box b10 _ _) zA 2 rfl).symm,?_⟩
      obtain⟨wa2,wc2,rfl⟩:=hR2.1.isS (Own.satK o9 1 rfl)
      have hcl:=hc.len;have hc1:=hc.one (Own.satK o9 2 rfl);(refine aDt o9 mW bU rfl rfl zD ?_);refine aI (by rw[hcl];exact(aD4.2 hc1)) ?_;refine Eq.mpr (lappV_eq c [] _) ?_
      rw[aD7]
      intro b905 m905 o905
      refine⟨(Own.satK o905 3 rfl).trans (Own.satK o9 3 rfl).symm,?_⟩
      refine aDI zA 6 rfl mW bU zD (Own.boxArrN zA 8 rfl (n:=1) (by simpa using hcl) zO) (by simpa using hc1) (by simp only[maxLen];omega) zO ?_;intro v915 m915 o915
      obtain⟨xa,xc,rfl⟩:=o915.rowIs 6 rfl
      refine fC mD ?_;(refine sB o915 3 nQ ?_;intro m921 o921)
      refine⟨rfl,?_⟩
      have e2:(acc++[x]).length=acc.length+1:=by simp
      have e1:(cs++[c]).flatten=cs.flatten++c:=by simp
      refine⟨⟨f,acc++[x],q2,_,xa,xc,fE J I,cs++[c],hQ,by omega,by omega,by omega,hR2,xR.snoc (hI.mono (λ_ (s:(fE _ _).sat _)=>s.2)) (hc.mono (λ_ (s:(fE _ _).sat _)=>s.1)),?_⟩,?_⟩
      ·rw[e1,e2]
       exact(o_ [2,7,0,1,3,4,5,6]).join.sel [1,2,3,4,5,6,0] rfl
      ·have hm1:=leftP_of (bp:=b122) zA 0 rfl rfl
       rw[hm0,hm1]
       omega
     ·refine⟨e,_,rfl,by rw[← hQ,aA2 hfull hm],rfl,rfl,rfl,Own.sel o2 [2,3,4] rfl⟩
theorem dp_cond:tM Tryz.prog 5 142=some (true,[3,3,1,2,2,3,2,3,3,1,2,2,3,2]):=by kernel_rfl
theorem eg_cond:Tryz.prog.eqGuardType Tryz.prog.depth 142=false:=by kernel_rfl
theorem dp_col:tM Tryz.prog 5 132=some (true,[3,2,2,2,3]):=by kernel_rfl
theorem eg_col:Tryz.prog.eqGuardType Tryz.prog.depth 132=false:=by kernel_rfl
theorem dp_term:tM Tryz.prog 5 136=some (true,[3,2,2,2,2,2,2]):=by kernel_rfl
theorem eg_term:Tryz.prog.eqGuardType Tryz.prog.depth 136=false:=by kernel_rfl
theorem jC:∀(l:List aBs),l.flatMap sD=strs l
 | []=>rfl
 | x::l=>by
  rw[aEf,jC l]
  rfl
mutual
def eL:Ex->Nat
 | .mk _ _ ks _ _ _ _ _ _=>iF ks+1
def iF:List Ex->Nat
 | []=>0
 | x::xs=>max (eL x) (iF xs)
end
theorem fX:∀ {l:List Ex}{i:Nat}{x:Ex},l[i]?=some x->eL x<=iF l
 | [],_,_,h=>by simp at h
 | y::l,0,x,h=>by simp at h;subst h;rw[iF];exact Nat.le_max_left _ _
 | y::l,i+1,x,h=>by
  have:=fX (l:=l) (i:=i) (x:=x) (by simpa using h)
  rw[iF]
  exact aEc this (Nat.le_max_right _ _)
theorem exsQ_get {Q:Nat->Nat->Prop}:∀ {l m:List Ex}{i:Nat}{x:Ex},wM Q l m->l[i]?=some x->∃ y,m[i]?=some y/\ExQ Q x y
 | [],_,_,_,_,h=>by simp at h
 | a::l,b::m,0,x,hq,h=>by simp at h;subst h;exact⟨b,rfl,hq.1⟩
 | a::l,b::m,i+1,x,hq,h=>exsQ_get (l:=l) (m:=m) (i:=i) hq.2 (by simpa using h)
 | a::l,[],_,_,hq,_=>hq.elim
theorem exsQ_len {Q:Nat->Nat->Prop}:∀ {l m:List Ex},wM Q l m->l.length=m.length
 | [],[],_=>rfl
 | a::l,b::m,hq=>by simp[exsQ_len hq.2]
 | a::l,[],hq=>hq.elim
 | [],b::m,hq=>hq.elim
theorem flat_getS {α:Type}{f:α->aVs}{sz i off m:Nat}{ys:List α}{y:α}(hf:∀ y,(f y).length=sz)(hy:ys[i]?=some y)(hm:off+m<=sz):((ys.flatMap f).drop (i*sz+off)).take m=((f y).drop off).take m:=by
 obtain⟨hi,he⟩:=aDZ.1 hy
 rw[← aEP,xT hf,aD8 hi,he,aEf,List.drop_append_of_le_length (by rw[hf];omega),List.take_append_of_le_length (by rw[List.length_drop,hf];omega)]
theorem StillVC.aDD {P:Program}{ty:TypeId}{s:aVs}{h:Heap}{K:KK}{α:Type}{t:TypeId}{x:Operand}{zero vs:aVs}{by_ n i off sz:Nat}{v:Value}{f:α->aVs}{ys:List α}{y:α}(hT:TyI P t true zero by_)(hA:aY sz h v n (ys.flatMap f))(hf:∀ y,(f y).length=sz)
  (hz:0<zero.length) (hm:off+zero.length<=sz) (hx:ev s x=adr v (i*sz+off)) (hy:ys[i]?=some y) (hv:((f y).drop off).take zero.length=vs) (hk:K (.agg ⟨vs⟩) false h):StillVC false P (.load t x) ty s h K :=
 .loadAN hA hT hx ((flat_getS hf hy hm).trans hv) (by rw[← hv,aEC,List.length_drop,hf];omega) hz hk
abbrev kB:={c:aVs // c.length=25}
theorem aA0 {I:Item}:∀ {cs:List aVs}{xs:List It},xR I cs xs->∃ ds:List kB,cs.flatten=ds.flatMap Subtype.val/\∀(i:Nat)(x:It),xs[i]?=some x->∃ d:kB,ds[i]?=some d/\itR I d.1 x
 | [],[],_=>⟨[],rfl,λi x h=>by simp at h⟩
 | c::cs,x::xs,h=>by
  obtain⟨ds,h1,h2⟩:=aA0 h.2
  refine⟨⟨c,h.1.len⟩::ds,by rw[aEz,aEf,h1],λi y hy=>?_⟩
  cases i with
  | zero=>simp at hy;subst hy;exact⟨_,rfl,h.1⟩
  | succ i=>exact h2 i y (by simpa using hy)
 | [],_::_,h=>h.elim
 | _::_,[],h=>h.elim
section
variable {Q : Nat -> Nat -> Prop}
theorem itemP_nil (z:Nat):pN z []=.error (7,z):=rfl
inductive Its (z : Nat) : List Tok -> List It -> Prop
 | nil:Its z [] []
 | cons {ts r:List Tok} {x:It} {xs:List It}:pN z ts=.ok (x,r)->Its z r xs->Its z ts (x::xs)
theorem aA1 (z:Nat):∀(f:Nat)(acc:List It)(ts:List Tok)(l:List It),ts.length<f->acc.length<=200->(kF z f acc ts=.ok l↔∃ xs,l=acc++xs/\Its z ts xs/\acc.length+xs.length<=200)
 | 0,_,_,_,h,_=>absurd h (Nat.not_lt_zero _)
 | f+1,acc,[],l,_,ha=>by
  constructor
  ·intro h;cases h;exact⟨[],by simp,.nil,by simpa using ha⟩
  ·rintro⟨xs,rfl,hi,_⟩
   cases hi with
   | nil=>rw[kF,aD7]
   | cons h _=>rw[itemP_nil]at h;cases h
 | f+1,acc,t::q,l,hl,ha=>by
  by_cases hfull:acc.length=200
  ·rw[zC hfull]
   constructor
   ·intro h;cases h
   ·rintro⟨xs,_,hi,hle⟩
    cases hi with
    | cons _ _=>simp at hle;omega
  ·cases hp:pN z (t::q) with
   | error e =>
    rw[aA2 hfull hp]
    constructor
    ·intro h;cases h
    ·rintro⟨xs,_,hi,_⟩
     cases hi with
     | cons h _=>rw[hp]at h;cases h
   | ok y =>
    obtain⟨x,r⟩:=y
    have hlt:=itemP_lt hp
    simp only[aD1]at hl hlt
    rw[aB6 hfull hp,aA1 z f (acc++[x]) r l zO v_]
    constructor
    ·rintro⟨xs,rfl,hi,hle⟩
     exact⟨x::xs,by simp,.cons hp hi,by simp at hle ⊢;omega⟩
    ·rintro⟨xs,rfl,hi,hle⟩
     cases hi with
     | @cons _ r' x' xs' h hi =>
      rw[hp]at h
      cases h
      exact⟨xs',by simp,hi,by simp at hle ⊢;omega⟩
theorem parseM_ok {s:aBs}{ts:List Tok}{l:List It}(h:xO s=.ok ts):oU s=.ok l↔Its s.length ts l/\l.length<=200:=by
 unfold oU
 rw[h]
 simp only
 rw[aA1 _ _ _ _ _ (Nat.lt_succ_self _) zS]
 constructor
 ·rintro⟨xs,rfl,hi,hle⟩;simp at hle ⊢;exact⟨hi,hle⟩
 ·rintro⟨hi,hle⟩;exact⟨l,rfl,hi,by simpa using hle⟩
end
def spc (c:UInt8):Bool:=decide (c=34∨c=92∨c=10)
def zU (c:UInt8):aBs:=if c=34 then[92,34] else if c=92 then[92,92] else if c=10 then[92,110] else[c]
def kO (s:aBs):aBs:=s.flatMap zU
def nS (s:aBs):Nat:=s.countP spc
theorem esc1_len (c:UInt8):(zU c).length=1+(if spc c=true then 1 else 0):=by
 unfold zU spc;by_cases h1:c=34
 ·rw[if_pos h1,if_pos (by simp[h1])];rfl
 ·by_cases h2:c=92
  ·rw[if_neg h1,if_pos h2,if_pos (by simp[h2])];rfl
  ·by_cases h3:c=10
   ·rw[if_neg h1,if_neg h2,if_pos h3,if_pos (by simp[h3])];rfl
   ·rw[if_neg h1,if_neg h2,if_neg h3,if_neg (by simp[h1,h2,h3])];rfl
theorem uZ {c:UInt8}(h:spc c=false):zU c=[c]:=by
 unfold spc at h
 have:=of_decide_eq_false h
 unfold zU
 rw[if_neg (λe=>this (.inl e)),if_neg (λe=>this (.inr (.inl e))),if_neg (λe=>this (.inr (.inr e)))]
theorem aBd:∀(s:aBs),(kO s).length=s.length+nS s
 | []=>rfl
 | c::s=>by
  have ih:=aBd s;unfold kO nS at ih ⊢
  rw[aEf,aDX,ih,esc1_len,List.countP_cons]
  simp
  omega
theorem aCi {s:aBs}{i:Nat}{c:UInt8}(h:s[i]?=some c):kO (s.take (i+1))=kO (s.take i)++zU c:=by
 unfold kO
 rw[aEr,h,aEy]
 simp
theorem nY (s:aBs)(i:Nat):(kO (s.take i)).length<=(kO s).length:=by
 conv=>rhs;rw[← aEw i s]
 unfold kO
 rw[aEy,aDX]
 omega
theorem aAb (s:aBs):(kO s).length<=2*s.length:=by
 have h1:=aBd s;have h2:nS s<=s.length:=List.countP_le_length
 omega
def wr (x:Tok):aBs:=if x.kind=3 then[34]++kO x.text++[34] else x.text
structure Pc where
 b:aBs
 t:Tok
def gX (p:Pc):aBs:=p.b++wr p.t
def bX (l:List Pc):aBs:=l.flatMap gX
def aS (b s:aBs):Pc:=⟨b,⟨4,s,0,0⟩⟩
def aG (b s:aBs):Pc:=⟨b,⟨1,s,0,0⟩⟩
def cI (b:aBs)(n:Int):Pc:=⟨b,⟨2,Lib.itoa n,n,0⟩⟩
def txtT (b s:aBs):Pc:=⟨b,⟨3,s,0,0⟩⟩
def aZ:aBs->Bool
 | []=>false
 | c::r=>decide ((c::r).length<=24)&&eZ c&&r.all eA
def dB (n:Int):Bool:=decide (0<=n/\n<=9999999999)
def bN (b s:aBs):Option (List Pc):=if aZ s=true then some [aG b s] else none
def iU (b:aBs)(n:Int):Option (List Pc):=if dB n=true then some [cI b n] else none
def hO (n:Int)(ws:List aBs):Option (List Pc):=if 1<=n/\n<=ws.length then some [aG [32] (ws.getD (n - 1).toNat [])] else none
def opQ (n:Int):Option (List Pc):=if 1<=n/\n<=4 then some [aS [32] (([[61],[33,61],[60],[60,61]]:List aBs).getD (n - 1).toNat [])] else none
def aO:List (Option (List Pc))->Option (List Pc)
 | []=>some []
 | none::_=>none
 | some x::r=>(aO r).map (x++·)
def jA {α:Type}(one:aBs->α->Option (List Pc))(before:aBs):List α->Option (List Pc)
 | []=>some []
 | x::r=>aO (one before x::r.map λy=>(one [32] y).map (aS [] [44]::·))
def eO {α:Type}(one:aBs->α->Option (List Pc))(before:aBs)(l:List α):Option (List Pc):=match l with
 | []=>none
 | _=>jA one before l
def cD (v:Vl):Option (List Pc) :=
 if v.k=0 then(if v.n=0/\v.t=[] then some [aG [32] [110,117,108,108]] else none)
 else if v.k=1 then(if v.n=0/\v.t.length<=200 then some [txtT [32] v.t] else none)
 else if v.k=2 then(if v.t=[]/\-9999999999<=v.n/\v.n<=9999999999 then some (if v.n<0 then[aS [32] [45],cI [] (-v.n)] else[cI [32] v.n]) else none)
 else if v.k=3 then(if v.t=[]/\dB v.n=true then some [aS [32] [64],cI [] v.n] else none)
 else if v.k=4 then(if v.t=[]/\(v.n=0∨v.n=1) then some [aG [32] (if v.n=0 then[102,97,108,115,101] else[116,114,117,101])] else none)
 else none
def fM (t a:aBs):Option (List Pc):=aO [bN [32] t,some [aS [] [46]],bN [] a]
def reserved (s:aBs):Bool:=decide (s=[116,114,117,101]∨s=[102,97,108,115,101]∨s=[110,117,108,108])
def iA (x:Opd):Option (List Pc) :=
 if x.con=true then(if x.var=[]/\x.attr=[] then cD x.val else none)
 else if ¬ (x.val.k=0/\x.val.n=0/\x.val.t=[]) then none
 else if x.var=[] then(if reserved x.attr=true then none else bN [32] x.attr)
 else if reserved x.var=true then none else fM x.var x.attr
def rW (n:Int):Option (List Pc) :=
 if ¬ (-9999999999<=n/\n<=9999999999) then none
 else if 0<n then some [aS [32] [43],cI [32] n]
 else if n<0 then some [aS [32] [45],cI [32] (-n)]
 else some []
def kP (x:Cnd):Option (List Pc):=aO [iA x.left,opQ x.op,iA x.right,rW x.add]
def lW:List Cnd->Option (List Pc)
 | []=>none
 | x::r=>aO (some [aG [32] [119,104,101,114,101]]::kP x::r.map λy=>(kP y).map (aG [32] [97,110,100]::·))
def fW (k:Int):Nat:=if k=1 then 0 else if k=4∨k=5∨k=6 then 2 else 1
def gJ (k:Int)(tb:aBs)(cs:List Cnd)(ns:List aBs)(a as_:aBs)(g:Int):Bool :=
 decide ((k=1∨tb=[])/\(k=2∨cs=[])/\(k=3∨k=8∨ns=[])/\(k=7∨k=8∨a=[])/\(k=7∨k=8∨as_=[])/\(k=8∨g=0))
def rP:List aBs->Bool
 | []=>true
 | s::_=>decide (s≠[119,105,116,104])
def eW (k:Int)(cs:List Cnd)(ns:List aBs)(a as_:aBs)(g:Int):Option (List Pc) :=
 if k=2 then lW cs
 else if k=3 then aO [some [aG [32] [111,110]],jA bN [32] ns]
 else if k=7 then aO [some [aS [] [44]],bN [32] a,some [aG [32] [97,115]],bN [32] as_]
 else if k=8 then(if rP ns=true then aO [some [aG [32] [111,110]],jA bN [32] ns,some [aG [32] [119,105,116,104]],hO g [[99,111,117,110,116],[115,117,109],[108,101,97,115,116],[103,114,101,97,116,101,115,116]],
  (if g=1 then(if a=[] then some [] else none) else bN [32] a),some [aG [32] [97,115]],bN [32] as_] else none)
 else some []
mutual
def gP (before:aBs):Ex->Option (List Pc)
 | .mk k tb ks cs ns a as_ g _ =>
  if 1<=k/\k<=8/\ks.length=fW k/\gJ k tb cs ns a as_ g=true then
   if k=1 then bN before tb
   else aO [some [aG before (dV.getD (k - 2).toNat []),aS [] [40]],jH [] ks,eW k cs ns a as_ g,some [aS [] [41]]]
  else none
def jH (before:aBs):List Ex->Option (List Pc)
 | []=>some []
 | x::r=>match gP before x,jH [32] r with
  | some p,some q=>some (p++(if r.isEmpty then[] else[aS [] [44]])++q)
  | _,_=>none
end
mutual
def dE:Ex->Nat
 | .mk _ _ ks _ _ _ _ _ _=>dK ks+1
def dK:List Ex->Nat
 | []=>0
 | x::r=>max (dE x) (dK r)
end
def iP (before:aBs)(c:Col):Option (List Pc):=aO [bN before c.name,hO c.kind [[116,101,120,116],[110,117,109,98,101,114],[100,97,121],[102,108,97,103]],
 (if c.dflt.k=0/\c.dflt.n=0/\c.dflt.t=[] then some [] else(cD c.dflt).map (aS [32] [61]::·))]
def bM (t:Trm):Option (List Pc):=aO [bN [10,32,32] t.attr,hO t.measure [[101,113,117,97,108],[101,100,105,116],[106,97,99,99,97,114,100],[106,97,114,111],[110,101,97,114]],
 (if t.measure=5 then iU [32] t.tol else if t.tol=0 then some [] else none),some [aG [32] [108,101,97,115,116]],iU [32] t.num,
 (if t.den=1 then some [] else(iU [] t.den).map (aS [] [47]::·)),some [aG [32] [103,105,118,101,115]],iU [32] t.gives,
 (if t.takes=0 then some [] else(iU [32] t.takes).map (aG [32] [116,97,107,101,115]::·)),some [aS [] [59]]]
def pW (f:Nmd):Option (List Pc):=aO [bN [32] f.name,some [aS [32] [61]],cD f.val]
def xU:List Nmd->Option (List Pc)
 | []=>some []
 | x::r=>aO (some [aG [32] [119,104,101,114,101]]::pW x::r.map λy=>(pW y).map (aS [] [44]::·))
def lI (v:Vr):Option (List Pc):=aO [bN [32] v.table,bN [32] v.name]
def gY (x:It):Bool:=decide ((x.kind=5->x.name=[])/\(x.kind=3∨x.kind=4∨x.kind=5∨x.kind=6∨x.kind=7∨x.kind=8∨x.table=[])/\(x.kind=3∨x.kind=5∨x.kind=7∨x.kind=8∨x.attr=[])/\(x.kind=1∨x.cols.length=0)
 /\ (x.kind=1∨x.kind=6∨x.kind=7∨x.names=[])/\(x.kind=3∨x.kind=5∨x.by_=0)/\(x.kind=2∨x.kind=4∨(x.kind=3/\3<=x.by_)∨x.n=0)/\((x.kind=3/\x.by_=4)∨x.m=0)/\(x.kind=4∨x.terms.length=0)
 /\ (x.kind=8∨x.other=[])/\(x.kind=8∨x.oattr=[])/\(x.kind=7∨x.fixed.length=0)/\(x.kind=9∨x.vars.length=0)/\(x.kind=9∨x.conds.length=0))
def lC:Ex->Bool
 | .mk k tb ks cs ns a as_ g _=>decide (k=0/\tb=[]/\ks.length=0/\cs.length=0/\ns=[]/\a=[]/\as_=[]/\g=0)
def eP (x:It):Option (List Pc) :=
 if x.kind=1 then aO [some [aS [] [40]],eO iP [] x.cols,some [aS [] [41],aG [32] [107,101,121]],eO bN [32] x.names]
 else if x.kind=2 then aO [some [aG [32] [116,114,117,115,116]],iU [32] x.n]
 else if x.kind=3 then aO [some [aG [32] [111,110]],fM x.table x.attr,some [aG [32] [98,121]],hO x.by_ [[101,120,97,99,116],[116,111,107,101,110],[112,114,101,102,105,120],[115,107,101,116,99,104]],(if 3<=x.by_ then iU [32] x.n else some []),(if x.by_=4 then iU [32] x.m else some [])]
 else if x.kind=4 then aO ([some [aG [32] [111,110]],bN [32] x.table,some [aG [32] [97,116]],iU [32] x.n,some [aS [32] [123]]]++x.terms.map bM)
 else if x.kind=5 then aO [fM x.table x.attr,some [aG [32] [98,121]],hO x.by_ [[108,97,116,101,115,116],[109,111,115,116],[116,114,117,115,116,101,100],[108,111,110,103,101,115,116],[108,101,97,115,116],[103,114,101,97,116,101,115,116]]]
 else if x.kind=6 then aO [some [aG [32] [111,110]],bN [32] x.table,some [aS [] [40]],eO bN [] x.names,some [aS [] [41]]]
 else if x.kind=7 then aO [some [aG [32] [111,110]],bN [32] x.table,some [aS [] [40]],eO bN [] x.names,some [aS [] [41],aG [32] [116,111]],bN [32] x.attr,xU x.fixed]
 else if x.kind=8 then aO [fM x.table x.attr,some [aG [32] [105,110]],fM x.other x.oattr]
 else if x.kind=9 then aO [eO (λ_=>lI) [] x.vars,lW x.conds]
 else aO [some [aS [32] [61]],gP [32] x.expr]
def iB (x:It):Option (List Pc) :=
 if 1<=x.kind/\x.kind<=10/\gY x=true/\(x.kind=10∨lC x.expr=true) then
  aO [some [aG [] (cU.getD (x.kind - 1).toNat [])],(if x.kind=5 then some [] else bN [32] x.name),eP x,some [if x.kind=4 then aS [10] [125] else aS [] [59]]]
 else none
def iO (xs:List It):Option (List (List Pc)):=xs.mapM iB
def kD (l:List Pc):aBs:=bX l++[10]
def kC (ls:List (List Pc)):aBs:=ls.flatMap kD
def kH (ls:List (List Pc)):Nat:=ls.flatten.length
def jI (x:It):Bool:=decide (x.kind=10->dE x.expr<=12)
def gR (xs:List It):aBs×Int:=match iO xs with
 | none=>([],1)
 | some ls=>if xs.all jI=true/\xs.length<=200/\kH ls<=5000/\(kC ls).length<=20000 then(kC ls,0) else([],3)
section
variable {P : Program} {ty : TypeId} {s : aVs} {h0 : Base} {h : Heap} {L : List Item} {K : KK} {Q : QQ}
theorem RunVC.nePP {t t' e:TypeId}{x y:Operand}{a:Addr}(hS:P.underlying t=some (.pointer e))(hi:(P.info? e).isSome=true)(hx:ev s x=.pointer (some a))(hy:ev s y=.pointer (some a))(hk:K (.bool false) false h):RunVC P (.binOp .neq t x y t') ty s h K Q:=by
 obtain⟨j,hj⟩:=Option.isSome_iff_exists.1 hi
 refine .pure' _ false (λw=>?_) hk
 have:=Lib.run_neq_ptr_same w a hS hj
 simp[execOp,hx,hy,eqGuard_at_pointer,this]
theorem RunVC.fromUnsafe {src dst u:TypeId}{x:Operand}{a:Addr}{b:Nat}{cs:aVs}{t:TypeId}(o:Own h0 L h)(k:Nat)(hk:L[k]?=some (box b cs t))(hs:P.underlying src=some .unsafePointer)(hd:P.underlying dst=some (.pointer u))(hu:(P.info? u).isSome=true)
  (hx:ev s x=.pointer (some a)) (hb:a.block=b) (hlies:liesAt P P.depth t (cs.length / P.cellsOf t) a.off u 1=true) (hK:K (.pointer (some a)) false h):RunVC P (.convert src dst x) ty s h K Q:=by
 obtain⟨j,hj⟩:=Option.isSome_iff_exists.1 hu
 subst hb;refine .of λw hw=>⟨_,false,w,?_,.refl w,by rw[hw];exact hK⟩;subst hw;have hbk:=o.boxBlk k hk;have hsh:w.shape? a.block=some (t,cs.length):=by simp[World.shape?,hbk]
 have:=Lib.run_from_unsafe w a hs hd hj hsh hlies
 simp[execOp,hx,this]
end
theorem XSpec.noEscape {P:Program}{f:FuncId}{fn:Func}{h:Heap}(hf:P.funcs[f]?=some fn)(hname:(fn.name == "runtime.NumGoroutine")=false)(hb:fn.body.isNone=true)(hn:Extern.findNext fn=none)
  (he:Extern.find fn=some Extern.AbiNoEscape.same) (x:Value):XSpec P f [x] h (Ret λv h'=>v=x/\h'=h) :=
 λw hw=>⟨_,w,by rw[run_callFunc_extern hf hname hb hn he];simp[Lib.run_noEscape],.refl w,rfl,hw⟩
abbrev wSt (b:Nat)(p v:Value)(k:Int)(bs:aBs):List Item:=[box b [p,v,iv k] 58,row v 5 1 bs.length (bytes bs)]
theorem rU (b:Nat)(v:Value)(k:Int)(h:Heap)(L:List Item)(h0:Base)(o0:Own h0 (box b [pv b 0,v,iv k] 58::L) h) :
  bG Tryz.prog 80 [pv b 0] h λr h'=>Own h0 (box b [pv b 0,v,iv k] 58::L) h':=by
 refine eN Tryz.func80 Tryz.ntmps80 ?_;refine cB ?_;refine fB wT ?_;refine oB o0 0 ty51 ?_;refine RunVC.eqP k_ rfl rfl ?_;refine aDL (cB ?_);refine fB wT ?_;refine oB o0 0 ty51 ?_;refine RunVC.nePP (e:=54) k_ k_ rfl rfl ?_;refine aDL (aDS rfl ?_);exact o0
theorem rV (b:Nat)(v:Value)(k:Int)(h:Heap)(L:List Item)(h0:Base)(o0:Own h0 (box b [.pointer none,v,iv k] 58::L) h) :
  bG Tryz.prog 80 [pv b 0] h λr h'=>Own h0 (box b [pv b 0,v,iv k] 58::L) h':=by
 refine eN Tryz.func80 Tryz.ntmps80 ?_;refine cB ?_;refine fB wT ?_;refine oB o0 0 ty51 ?_;refine RunVC.eqP k_ rfl rfl ?_;refine aDK (rR (toUnsafe (e:=54) k_ k_ k_ rfl ((o0.cellB 0 rfl _).trans rfl) ?_));refine CallVC.ext (XSpec.noEscape Tryz.func129 k_ k_ k_ k_ _) ?_;rintro _ h1 ⟨rfl,rfl⟩;refine RunVC.fromUnsafe o0 0 rfl k_ (u:=54) k_ k_ rfl rfl k_ ?_;refine cB ?_;refine fB wT ?_;(refine sB o0 0 ty51 ?_;intro m62 o62);refine aDS rfl ?_;exact o62
abbrev dI (b:Nat)(p:Value):Prop:=p=.pointer none∨p=pv b 0
theorem qO (b:Nat)(p v:Value)(k:Int)(bs:aBs)(c:UInt8)(h:Heap)(h0:Base)(hp:dI b p)(o0:Own h0 [box b [p,v,iv k] 58,row v 5 1 bs.length (bytes bs)] h)(hn:bs.length+1<=140000000000000) :
  bG Tryz.prog 36 [pv b 0,.int .u8 c.toNat] h λr h'=>r=.nilIface/\∃ v',Own h0 (wSt b (pv b 0) v' k (bs++[c])) h':=by
 refine eN Tryz.func36 Tryz.ntmps36 ?_;refine aDN (Post:=λr h'=>Own h0 [box b [pv b 0,v,iv k] 58,row v 5 1 bs.length (bytes bs)] h') ?_ ?_
 ·rcases hp with rfl|rfl
  ·exact rV b v k h _ h0 o0
  ·exact rU b v k h _ h0 o0
 intro r1 h1 o1;clear o0;refine cB ?_;refine fB wT ?_;refine oB o1 0 nI ?_;refine lA o1 iH ty5 λb83 m83 o83=>?_;(refine aDI o83 1 rfl iH ty5 zD (o83.boxArr 2 rfl zS zS).toN c_ (by simp only[maxLen];first|omega|(simp;omega)) w_ ?_;intro v84 m84 o84);refine cB ?_;refine fB wT ?_
 obtain⟨a,cc,rfl⟩:=o84.rowIs 1 rfl
 (refine sB o84 0 nI ?_;intro m90 o90);refine rO ?_
 refine⟨rfl,.slice a (bs.length+1) cc,?_⟩
 have hl:(bs++[c]).length=bs.length+1:=by simp
 show Own h0 [box b [pv b 0,.slice a (bs.length+1) cc,iv k] 58,row (.slice a (bs.length+1) cc) 5 1 (bs++[c]).length (bytes (bs++[c]))] m90
 rw[show bytes (bs++[c])=bytes bs++[.int .u8 c.toNat] by simp,hl]
 exact o90.sel [0,1] rfl
theorem aCw (b:Nat)(p v:Value)(k:Int)(bs s:aBs)(h:Heap)(h0:Base)(hp:dI b p)(o0:Own h0 [box b [p,v,iv k] 58,row v 5 1 bs.length (bytes bs)] h)(hn:bs.length+s.length<=140000000000000) :
  bG Tryz.prog 69 [pv b 0,sv s] h λr h'=>r=.tuple #[iv s.length,.nilIface]/\∃ v',Own h0 (wSt b (pv b 0) v' k (bs++s)) h':=by
 refine eN Tryz.func69 Tryz.ntmps69 ?_;refine aDN (Post:=λr h'=>Own h0 [box b [pv b 0,v,iv k] 58,row v 5 1 bs.length (bytes bs)] h') ?_ ?_
 ·rcases hp with rfl|rfl
  ·exact rV b v k h _ h0 o0
  ·exact rU b v k h _ h0 o0
 intro r1 h1 o1;clear o0;refine cB ?_;refine fB wT ?_;refine oB o1 0 nI ?_;(refine RunVC.appendS o1 1 rfl iH cE u8_5 rfl (by simp only[maxLen];first|omega|(simp;omega)) w_ ?_;intro v83 m83 o83);refine cB ?_;refine fB wT ?_
 obtain⟨a,cc,rfl⟩:=o83.rowIs 1 rfl
 (refine sB o83 0 nI ?_;intro m90 o90);refine rR (aDn rfl cE ?_);refine RetVC.two rfl ?_
 refine⟨rfl,.slice a (bs.length+s.length) cc,?_⟩
 have hl:(bs++s).length=bs.length+s.length:=by simp
 show Own h0 [box b [pv b 0,.slice a (bs.length+s.length) cc,iv k] 58,row (.slice a (bs.length+s.length) cc) 5 1 (bs++s).length (bytes (bs++s))] m90
 rw[show bytes (bs++s)=bytes bs++bytes s by simp,hl]
 exact o90.sel [0,1] rfl
theorem wLen_spec (b:Nat)(p v:Value)(k:Int)(bs:aBs)(h:Heap)(h0:Base)(o0:Own h0 [box b [p,v,iv k] 58,row v 5 1 bs.length (bytes bs)] h) :
  bG Tryz.prog 20 [pv b 0] h λr h'=>r=iv bs.length/\Own h [] h':=by
 refine eN Tryz.func20 Tryz.ntmps20 ?_;have oh:=Own.refl h
 obtain⟨a,cc,rfl⟩:=o0.rowIs 1 rfl
 refine cB ?_;refine fB wT ?_;refine oB o0 0 nI ?_;refine lB iH ?_;refine rO ?_
 exact⟨rfl,oh⟩
section
variable {P : Program} {ty : TypeId} {s : aVs} {h0 h : Heap} {L : List Item} {K : KK} {Q : QQ}
theorem RunVC.sliceData {t:TypeId}{x:Operand}{a:Addr}{n c:Nat}(hx:ev s x=.slice (some a) n c)(hc:c≠0)(hK:K (.pointer (some a)) false h):RunVC P (.call ⟨.builtin .unsafeSliceData,⟨[x]⟩,⟨[t]⟩⟩) ty s h K Q :=
 .pure' _ false (λw=>by simp[execOp,resolve,invoke,builtin,hx,Lib.run_unsafeSliceData_row w _ _ a n c hc]) hK
theorem RunVC.sliceDataNil {t:TypeId}{x:Operand}{n c:Nat}(hx:ev s x=.slice none n c)(hK:K (.pointer none) false h):RunVC P (.call ⟨.builtin .unsafeSliceData,⟨[x]⟩,⟨[t]⟩⟩) ty s h K Q :=
 .pure' _ false (λw=>by simp[execOp,resolve,invoke,builtin,hx,Lib.run_unsafeSliceData_nil]) hK
theorem RunVC.unsafeStrNil {pt it:TypeId}{x y:Operand}{p:Option Addr}(hx:ev s x=.pointer p)(hy:ev s y=iv 0)(hK:K (.string .empty) false h):RunVC P (.call ⟨.builtin .unsafeString,⟨[x,y]⟩,⟨[pt,it]⟩⟩) ty s h K Q :=
 .pure' _ false (λw=>by simp[execOp,resolve,invoke,builtin,hx,hy,Lib.run_unsafeString_none w pt it ty p]) hK
end
def xZ:List PanicEntry:=[{ v:=.iface 27 (iv 1),recovered:=false }]
def MEnds (B:Base)(ok:Bool)(v:Value):Ending->Heap->Prop:=Ends (λr h'=>ok=true/\r=v/\Own B [] h') λc h'=>ok=false/\c=xZ/\Own B [] h'
theorem aH (b:Bool)(h:Heap):Spec Tryz.prog 30 [.bool b] h (MEnds h b (.tuple #[])):=by
 refine eN Tryz.func30 Tryz.ntmps30 ?_;have o0:=Own.refl h;cases b with
 | true =>
  refine aDL (aDS rfl ?_);refine aI rfl ?_
  exact⟨rfl,o0⟩
 | false =>
  refine aDK (rR (aDE k_ rfl ?_));refine RunVC.panicI rfl ?_
  exact⟨rfl,rfl,o0⟩
theorem StillVC.aDW {g:FuncId}{args s:aVs}{ok:Bool}{v:Value}{m:Heap}{K:KK}{Q:QQ}(sp:Spec Tryz.prog g args m (MEnds m ok v))(hret:ok=true->∀ h',Own m [] h'->K v false h')(hpan:ok=false->∀ h',Own m [] h'->Q (.panic xZ) s h'):CallVC Tryz.prog g args s m K Q :=
 aDO sp (λ_ _ ⟨h1,h2,h3⟩=>by subst h2;exact hret h1 _ h3) (λ_ _ ⟨h1,h2,h3⟩=>by subst h2;exact hpan h1 _ h3)
def gH (j:Nat)(c:UInt8):Bool:=eZ c||(decide (0<j)&&eA c)
def iI (j:Nat)(c:UInt8):Prop:=(97<=c.toNat/\c.toNat<=122)∨(65<=c.toNat/\c.toNat<=90)∨(0<j/\((48<=c.toNat/\c.toNat<=57)∨c.toNat=95))
theorem fN (j:Nat)(c:UInt8):iI j c↔gH j c=true:=by
 unfold iI gH eA eZ dH
 simp only[aEB,aD0,decide_eq_true_eq]
 omega
theorem jS (s:aBs):aZ s=true↔s≠[]/\s.length<=24/\∀(j:Nat)(c:UInt8),s[j]?=some c->gH j c=true:=by
 cases s with
 | nil=>simp[aZ]
 | cons d r =>
  simp only[aZ,aD0,decide_eq_true_eq,aD4]
  constructor
  ·rintro⟨⟨h1,h2⟩,h3⟩
   refine⟨by simp,h1,λj c hc=>?_⟩
   cases j with
   | zero=>simp at hc;subst hc;simp[gH,h2]
   | succ j =>
    have:=h3 c (aDY (by simpa using hc))
    simp[gH,this]
  ·rintro⟨_,h1,h2⟩
   refine⟨⟨h1,?_⟩,λc hc=>?_⟩
   ·have:=h2 0 d rfl
    simpa[gH] using this
   ·obtain⟨j,hj⟩:=aEm.1 hc
    have:=h2 (j+1) c (by simpa using hj)
    simp only[gH,aEB,aD0]at this
    rcases this with h|⟨_,h⟩
    ·simp[eA,h]
    ·exact h
theorem rE {s:aBs}{j:Nat}{c:UInt8}(h:s[j]?=some c)(hc:gH j c=false):aZ s=false:=by
 cases hn:aZ s with
 | false=>rfl
 | true=>rw[((jS s).1 hn).2.2 j c h]at hc;cases hc
theorem bT (s:aBs)(h:Heap)(hl:s.length<=1000000000000000):Spec Tryz.prog 33 [sv s] h (MEnds h (aZ s) (sv s)):=by
 refine eN Tryz.func33 Tryz.ntmps33 ?_;have o0:=Own.refl h;by_cases h1:s=[]
 ·subst h1
  refine aDL (aDW (aH _ _) (λe=>by cases e) λ_ h2 o2=>?_)
  exact⟨rfl,rfl,o2⟩
 refine bD λc20=>rR (aDn rfl cE ?_);refine aDW (aH _ _) (λe1 h2 o2=>?_) λe1 h2 o2=>?_
 ·have h24:s.length<=24:=by have:=of_decide_eq_true e1;omega
  refine rR (aDn rfl cE ?_);refine aDT [3,4,5,16,17,18,19,20,21,22,23,24,25,26,27,28,29,30,31,32,33,34,35,36,37,38,39,40,41,42,43,44,45,46,47,48,49,50,51,52,53,54] [16] (λvs hh=>∃(i:Nat),i<=s.length/\vs=[.int .i64 i]/\(∀(j:Nat) (c:UInt8),j<i->s[j]?=some c->gH j c=true)/\Own h [] hh) (λvs _=>match vs with|[.int _ i]=>s.length - i.toNat|_=>0) ?_ ?_
  ·exact⟨0,by omega,rfl,λj c hj=>by omega,o2⟩
  ·rintro vs junk hh ⟨i,hi,rfl,hE,oh⟩
   by_cases hlt:i<s.length
   ·obtain⟨c,hc⟩:=getx hlt
    have next:gH i c=true->∀(j:Nat) (d:UInt8),j<i+1->s[j]?=some d->gH j d=true:=λhat j d hj hd=>by
     by_cases hji:j=i
     ·subst hji
      rw[hc]at hd
      cases hd
      exact hat
     ·exact hE j d zO hd
    refine bB λc40=>rR (aDk rfl rfl cE zO zA ?_);refine aDJ (λc42=>?_) (λc42=>?_);refine aDJ (λc43=>?_) (λc43=>?_);refine aDK ?_
    rotate_left
    refine bB λc44=>bA λc45=>?_;refine aDJ (λc46=>?_) (λc46=>?_);refine bB λc47=>bA λc48=>?_
    rotate_left
    rotate_left
    refine aDJ (λc49=>?_) (λc49=>?_);refine aDJ (λc50=>?_) (λc50=>?_)
    rotate_left
    refine aDJ (λc51=>?_) (λc51=>?_);refine bB λc52=>bA λc53=>?_
    rotate_left
    rotate_left
    refine aDL (aDJ (λc54=>?_) (λc54=>?_));refine aDJ (λc55=>?_) (λc55=>?_);refine aDJ (λc56=>?_) (λc56=>?_)
    ·refine aDW (aH _ _) (λe1 h3 o3=>?_) λe1 h3 o3=>?_
     ·have hat:gH i c=true:=(fN i c).1 (by unfold iI;omega)
      refine aR ?_
      refine⟨rfl,?_⟩
      exact⟨⟨i+1,by omega,rfl,next hat,oh.ext' o3⟩,by simp;omega⟩
     ·exact by cases e1
    ·refine aDW (aH _ _) (λe1 h3 o3=>?_) λe1 h3 o3=>?_
     ·have hat:gH i c=true:=(fN i c).1 (by have:=of_decide_eq_true e1;unfold iI;omega)
      refine aR ?_
      refine⟨rfl,?_⟩
      exact⟨⟨i+1,by omega,rfl,next hat,oh.ext' o3⟩,by simp;omega⟩
     ·have hat:gH i c=false:=by
       rw[aEh]
       intro hh;have hh:=(fN i c).2 hh;unfold iI at hh
       have:=of_decide_eq_false e1
       omega
      exact⟨rE hc hat,rfl,oh.ext' o3⟩
    ·refine aDW (aH _ _) (λe1 h3 o3=>?_) λe1 h3 o3=>?_
     ·have hat:gH i c=true:=(fN i c).1 (by have:=of_decide_eq_true e1;unfold iI;omega)
      refine aR ?_
      refine⟨rfl,?_⟩
      exact⟨⟨i+1,by omega,rfl,next hat,oh.ext' o3⟩,by simp;omega⟩
     ·have hat:gH i c=false:=by
       rw[aEh]
       intro hh;have hh:=(fN i c).2 hh;unfold iI at hh
       have:=of_decide_eq_false e1
       omega
      exact⟨rE hc hat,rfl,oh.ext' o3⟩
    ·refine aDW (aH _ _) (λe1 h3 o3=>?_) λe1 h3 o3=>?_
     ·exact by cases e1
     ·have hat:gH i c=false:=by
       rw[aEh]
       intro hh;have hh:=(fN i c).2 hh;unfold iI at hh
       omega
      exact⟨rE hc hat,rfl,oh.ext' o3⟩
    ·refine aDW (aH _ _) (λe1 h3 o3=>?_) λe1 h3 o3=>?_
     ·have hat:gH i c=true:=(fN i c).1 (by unfold iI;omega)
      refine aR ?_
      refine⟨rfl,?_⟩
      exact⟨⟨i+1,by omega,rfl,next hat,oh.ext' o3⟩,by simp;omega⟩
     ·exact by cases e1
    ·refine aDW (aH _ _) (λe1 h3 o3=>?_) λe1 h3 o3=>?_
     ·have hat:gH i c=true:=(fN i c).1 (by have:=of_decide_eq_true e1;unfold iI;omega)
      refine aR ?_
      refine⟨rfl,?_⟩
      exact⟨⟨i+1,by omega,rfl,next hat,oh.ext' o3⟩,by simp;omega⟩
     ·have hat:gH i c=false:=by
       rw[aEh]
       intro hh;have hh:=(fN i c).2 hh;unfold iI at hh
       have:=of_decide_eq_false e1
       omega
      exact⟨rE hc hat,rfl,oh.ext' o3⟩
    ·refine aDW (aH _ _) (λe1 h3 o3=>?_) λe1 h3 o3=>?_
     ·exact by cases e1
     ·have hat:gH i c=false:=by
       rw[aEh]
       intro hh;have hh:=(fN i c).2 hh;unfold iI at hh
       omega
      exact⟨rE hc hat,rfl,oh.ext' o3⟩
    ·refine aDW (aH _ _) (λe1 h3 o3=>?_) λe1 h3 o3=>?_
     ·have hat:gH i c=true:=(fN i c).1 (by unfold iI;omega)
      refine aR ?_
      refine⟨rfl,?_⟩
      exact⟨⟨i+1,by omega,rfl,next hat,oh.ext' o3⟩,by simp;omega⟩
     ·exact by cases e1
    ·refine aDW (aH _ _) (λe1 h3 o3=>?_) λe1 h3 o3=>?_
     ·have hat:gH i c=true:=(fN i c).1 (by have:=of_decide_eq_true e1;unfold iI;omega)
      refine aR ?_
      refine⟨rfl,?_⟩
      exact⟨⟨i+1,by omega,rfl,next hat,oh.ext' o3⟩,by simp;omega⟩
     ·have hat:gH i c=false:=by
       rw[aEh]
       intro hh;have hh:=(fN i c).2 hh;unfold iI at hh
       have:=of_decide_eq_false e1
       omega
      exact⟨rE hc hat,rfl,oh.ext' o3⟩
    ·refine aDW (aH _ _) (λe1 h3 o3=>?_) λe1 h3 o3=>?_
     ·exact by cases e1
     ·have hat:gH i c=false:=by
       rw[aEh]
       intro hh;have hh:=(fN i c).2 hh;unfold iI at hh
       omega
      exact⟨rE hc hat,rfl,oh.ext' o3⟩
   ·refine bA λc60=>?_
    refine rO ?_
    exact⟨(jS s).2 ⟨h1,h24,λj c hc=>hE j c (by have:=(aDZ.1 hc).1;omega) hc⟩,rfl,oh⟩
 ·have h24:aZ s=false:=by
   cases hn:aZ s with
   | false=>rfl
   | true =>
    have:=((jS s).1 hn).2.1
    have:=of_decide_eq_false e1
    omega
  exact⟨h24,rfl,o2⟩
def kQ (h:Heap):Prop:=∀ w:World,w.heap=h->Lib.TabIs Tryz.prog w "internal/strconv.uint64pow10" .u64 Lib.pow10Tab
theorem kQ.ext {h h':Heap}(t:kQ h)(e:Ext h h'):kQ h':=by
 intro w hw
 have:=t { w with heap:=h } rfl
 unfold Lib.TabIs World.var? at this ⊢;cases hg:Tryz.prog.globalNamed "internal/strconv.uint64pow10" with
 | none=>rw[hg]at this;simp at this
 | some g =>
  rw[hg]at this
  simp only[Option.bind_some]at this ⊢
  rw[hw]
  by_cases hb:g<h.size
  ·rw[e.old g hb];exact this
  ·have hn:h[g]?=none:=Array.getElem?_eq_none zO
   rw[hn]at this;simp at this
theorem itoa_spec (n:Int)(h:Heap)(h0:-9223372036854775808<=n)(h1:n<=9223372036854775807)(ht:kQ h) :
  bG Tryz.prog 150 [iv n] h λr h'=>r=sv (Lib.itoa n)/\Own h [] h':=by
 refine⟨⟨_,Tryz.func150,rfl,by kernel_rfl⟩,λw hw=>?_⟩
 refine(Tryz.strconv_Itoa n h0 h1 w (ht w hw)).mono ?_
 rintro e w' ⟨rfl,k,os,rfl⟩
 refine⟨⟨rfl,rfl,rfl,by simp[Sort.grow,World.drewN]⟩,rfl,Own.of_ext ⟨?_,λb hb=>?_⟩⟩
 ·subst hw
  simp[Sort.grow,World.drewN]
 ·subst hw
  simp[Sort.grow,World.drewN,Array.getElem?_append,hb]
theorem bV (n:Int)(h:Heap)(h0:-9223372036854775808<=n)(h1:n<=9223372036854775807)(hT:kQ h):Spec Tryz.prog 125 [iv n] h (MEnds h (dB n) (sv (Lib.itoa n))):=by
 refine eN Tryz.func125 Tryz.ntmps125 ?_;have o0:=Own.refl h;by_cases hn:0<=n
 ·by_cases hg:n<=9999999999
  ·have hok:dB n=true:=decide_eq_true ⟨hn,hg⟩
   refine bB λc10=>aDW (aH _ _) (λe1 h2 o2=>?_) λe1 h2 o2=>?_
   ·skip
    refine aDN (itoa_spec n _ h0 h1 (hT.ext o2.ext)) ?_;rintro _ h3 ⟨rfl,o3⟩;have o4:=o2.ext' o3;refine rO ?_
    exact⟨hok,rfl,o4⟩
   ·have:=of_decide_eq_false e1
    omega
  ·have hno:dB n=false:=decide_eq_false zO
   refine bB λc40=>aDW (aH _ _) (λe1 h2 o2=>?_) λe1 h2 o2=>?_
   ·have:=of_decide_eq_true e1
    omega
   ·exact⟨hno,rfl,o2⟩
 ·have hno:dB n=false:=decide_eq_false zO
  refine bA λc60=>aDW (aH _ _) (λe1 h2 o2=>by cases e1) λe1 h2 o2=>?_
  exact⟨hno,rfl,o2⟩
theorem eS (n:Int)(ws:List aBs)(vs:Value)(h:Heap)(h0:-9223372036854775808<=n)(h1:n<=9223372036854775807)(hA:Arr h vs (strs ws))(hl:ws.length<=100)(hw:∀ s∈ws,s.length<=100):Spec Tryz.prog 32 [iv n,vs] h (MEnds h (decide (1<=n/\n<=ws.length)) (sv (32::ws.getD (n - 1).toNat []))):=by
 refine eN Tryz.func32 Tryz.ntmps32 ?_;have o0:=Own.refl h;have hsl:(strs ws).length=ws.length:=by simp[strs]
 by_cases hn:1<=n
 ·refine bB λc10=>?_
  refine rR (aDv hA zA aB ?_);refine aDW (aH _ _) (λe1 h2 o2=>?_) λe1 h2 o2=>?_
  ·have e1:=of_decide_eq_true e1
   obtain⟨s,hs⟩:=getx (show(n - 1).toNat<ws.length by omega)
   have hss:(strs ws)[(n - 1).toNat]?=some (sv s):=by
    show(ws.map _)[(n - 1).toNat]?=_
    rw[aEv,hs]
    rfl
   have hsl2:=hw s (aDY hs);have hA2:=hA.ext o2.ext;have hd:ws.getD (n - 1).toNat []=s:=by rw[aEi,hs];rfl
   rw[hd]
   refine aR (rR (idx aB aC hA2 rfl zO zO ?_));refine rR (aDq hA2 aC rfl a_ ?_);refine rR (aDb rfl rfl w_ ?_);refine rO ?_
   exact⟨decide_eq_true zO,rfl,o2⟩
  ·have e1:=of_decide_eq_false e1
   exact⟨decide_eq_false zO,rfl,o2⟩
 ·refine bA λc60=>?_
  refine aDW (aH _ _) (λe1 h2 o2=>by cases e1) λe1 h2 o2=>?_
  exact⟨decide_eq_false zO,rfl,o2⟩
theorem put_spec (B:Base)(b:Nat)(p v:Value)(k:Int)(bs:aBs)(ls:List aBs)(vs:Value)(h:Heap)(hp:dI b p)(hS:tQ B vs ls)
  (o:Own B [box b [p,v,iv k] 58,row v 5 1 bs.length (bytes bs)] h) (hl:bs.length<=100000000000000) (hs:∀ s∈ls,s.length<=1000) (hln:ls.length<=100) (hk:0<=k/\k<=100000000000000) :
  bG Tryz.prog 31 [pv b 0,vs] h λr h'=>r=.tuple #[]/\∃ p' v',dI b p'/\Own B [box b [p',v',iv (k+ls.length)] 58,row v' 5 1 (bs++ls.flatten).length (bytes (bs++ls.flatten))] h':=by
 refine eN Tryz.func31 Tryz.ntmps31 ?_;have hA:=hS _ _ o;have hsl:(strs ls).length=ls.length:=by simp[strs]
 have hK:=hS;clear hS;refine rR (aDv hA zA aB ?_);refine aDT [5,8,9,10,11,12,13,14,15,16,17,18,19,20,21,22,23,24] [8] (λvs' hh=>∃(i:Nat) (p' v':Value),i<=ls.length/\vs'=[.int .i64 i]/\dI b p'/\(ls.take i).flatten.length<=1000*i/\Own B [box b [p',v',.int .i64 (k+i)] 58,row v' 5 1 (bs++(ls.take i).flatten).length (bytes (bs++(ls.take i).flatten))] hh) (λvs' _=>match vs' with|[.int _ i]=>ls.length - i.toNat|_=>0) ?_ ?_
 ·exact⟨0,p,v,by omega,rfl,hp,by simp,by simpa using o⟩
 ·rintro vs' junk hh ⟨i,p',v',hi,rfl,hp',hcl,oh⟩
  have hA:=hK _ _ oh;by_cases hlt:i<ls.length
  ·obtain⟨s,hs1⟩:=getx hlt
   have hss:(strs ls)[i]?=some (sv s):=by simp[strs,hs1]
   have hs2:=hs s (aDY hs1);have ht:(ls.take (i+1)).flatten=(ls.take i).flatten++s:=by rw[aEr,hs1];simp
   have hbl:(bs++(ls.take i).flatten).length+s.length<=140000000000000:=by rw[aDX];omega
   refine bB λc20=>rR (idx aB aC hA rfl zO zO ?_);refine rR (aDq hA aC rfl a_ ?_);refine cB ?_;refine fB aAq ?_;refine aDN (aCw b p' v' (k+i) (bs++(ls.take i).flatten) s _ B hp' oh hbl) ?_;rintro _ h2 ⟨rfl,v2,o2⟩;clear oh hA;have o3:Own B [box b [pv b 0,v2,iv (k+i)] 58,row v2 5 1 (bs++(ls.take i).flatten++s).length (bytes (bs++(ls.take i).flatten++s))] h2:=o2;clear o2;refine cB ?_;refine fB aAq ?_;refine oB o3 0 aK ?_;refine aR (cB ?_);refine fB aAq ?_;(refine sB o3 0 aK ?_;intro m35 o35);refine aR ?_
   refine⟨rfl,?_⟩
   refine⟨⟨i+1,_,v2,by omega,rfl,.inr rfl,by rw[ht,aDX];omega,?_⟩,by simp;omega⟩
   rw[ht,← aEb,show k+((i+1:Nat):Int)=k+i+1 by omega]
   exact o35
  ·have hd:ls.take i=ls:=aEa zO
   obtain rfl:i=ls.length:=by omega
   refine bA λc60=>aDS rfl ?_
   rw[hd]at oh
   exact⟨rfl,p',v',hp',oh⟩
def WEnds (B:Base)(b:Nat)(bs:aBs)(k:Int)(c:Nat)(o:Option (List Pc)):Ending->Heap->Prop :=
 Ends (λr h'=>∃ ps p' v',o=some ps/\r=.tuple #[]/\dI b p'/\(bX ps).length<=c/\ps.length<=c/\Own B [box b [p',v',iv (k+ps.length)] 58,row v' 5 1 (bs++bX ps).length (bytes (bs++bX ps))] h')
  λq h'=>o=none/\q=xZ/\Own B [] h'
theorem keep1 {B:Base}{c:Nat}{t:TypeId}{ss:List aBs}:tQ ⟨B.h,[box c (strs ss) t]++B.T⟩ (.slice (some ⟨c,0,none⟩) ss.length ss.length) ss:=λL h o=>by
 have hs:(box c (strs ss) t).sat h:=OwnR.sat o _ zS
 exact(xY (sz:=1) (by simp[strs]) (aD6 _) h hs).to1
theorem zX (B:Base)(b c:Nat)(p v:Value)(k:Int)(bs:aBs)(ls:List aBs)(h:Heap)(hp:dI b p)(o:Own B [box b [p,v,iv k] 58,row v 5 1 bs.length (bytes bs),box c (strs ls) 9] h)
  (hl:bs.length<=100000000000000) (hs:∀ s∈ls,s.length<=1000) (hln:ls.length<=100) (hk:0<=k/\k<=100000000000000) :
  bG Tryz.prog 31 [pv b 0,.slice (some ⟨c,0,none⟩) ls.length ls.length] h λr h'=>r=.tuple #[]/\∃ p' v',dI b p'/\Own B [box b [p',v',iv (k+ls.length)] 58,row v' 5 1 (bs++ls.flatten).length (bytes (bs++ls.flatten))] h':=by
 have o2:=o.lend [0,1] [2] rfl;have sp:=put_spec _ b p v k bs ls _ h hp keep1 o2 hl hs hln hk;refine sp.mono ?_;rintro r h' ⟨e,p',v',h1,h2⟩
 exact⟨e,p',v',h1,h2.back.sel [0,1] rfl⟩
theorem gM:∀(a b:List (Option (List Pc))),aO (a++b)=match aO a,aO b with
  | some p,some q=>some (p++q)
  | _,_=>none
 | [],b=>by show aO b=_;cases h:aO b<;>simp[aO]
 | none::a,b=>rfl
 | some p::a,b=>by
  show(aO (a++b)).map (p++·)=_
  rw[gM a b]
  show _=match (aO a).map (p++·),aO b with
   | some p,some q=>some (p++q)
   | _,_=>none
  cases aO a<;>cases aO b<;>simp
theorem listQ_snoc {α:Type}{one:aBs->α->Option (List Pc)}{b:aBs}{l:List α}{x:α}{p:List Pc}(hn:l≠[])(hp:jA one b l=some p):jA one b (l++[x])=(one [32] x).map λq=>p++aS [] [44]::q:=by
 cases l with
 | nil=>exact absurd rfl hn
 | cons y r =>
  have e:jA one b (y::r++[x])=aO ((one b y::r.map λy=>(one [32] y).map (aS [] [44]::·))++[(one [32] x).map (aS [] [44]::·)]):=by
   show aO (_::(r++[x]).map _)=_
   rw[List.map_append]
   rfl
  rw[e,gM]
  rw[show aO (one b y::r.map λy=>(one [32] y).map (aS [] [44]::·))=some p from hp]
  cases one [32] x<;>simp[aO]
theorem aAV {α:Type}{one:aBs->α->Option (List Pc)}{b:aBs}{l m:List α}(hp:jA one b l=none):jA one b (l++m)=none:=by
 cases l with
 | nil=>cases hp
 | cons y r =>
  have e:jA one b (y::r++m)=aO ((one b y::r.map λy=>(one [32] y).map (aS [] [44]::·))++m.map λy=>(one [32] y).map (aS [] [44]::·)):=by
   show aO (_::(r++m).map _)=_
   rw[List.map_append]
   rfl
  rw[e,gM]
  rw[show aO (one b y::r.map λy=>(one [32] y).map (aS [] [44]::·))=none from hp]
theorem nV (B:Base)(b:Nat)(p v:Value)(k:Int)(bs bf:aBs)(ls:List aBs)(vs:Value)(h:Heap)(hp:dI b p)(hS:tQ B vs ls)
  (o:Own B [box b [p,v,iv k] 58,row v 5 1 bs.length (bytes bs)] h) (hl:bs.length<=50000000000000) (hs:∀ s∈ls,s.length<=1000000000000000) (hln:ls.length<=100000000000) (hk:0<=k/\k<=50000000000000) (hbf:bf=[]∨bf=[32]) :
  Spec Tryz.prog 149 [pv b 0,sv bf,vs] h (WEnds B b bs k (100*ls.length) (jA bN bf ls)):=by
 refine eN Tryz.func149 Tryz.ntmps149 ?_;have hA:=hS _ _ o;have hsl:(strs ls).length=ls.length:=by simp[strs]
 have hK:=hS;clear hS;refine rR (aDv hA zA aB ?_);refine aDT [1,6,7,10,11,12,13,14,15,16,17,18,19,20,21,22,23,24,25,26,27,28,29,30,31] [1,10] (λvs' hh=>∃(i:Nat) (p' v':Value) (be:aBs) (ps:List Pc),i<=ls.length/\vs'=[.string ⟨⟨be⟩⟩,.int .i64 i]/\(i=0->be=bf)/\be.length<=1/\dI b p'/\jA bN bf (ls.take i)=some ps/\(bX ps).length<=100*i/\ps.length<=2*i/\Own B [box b [p',v',.int .i64 (k+ps.length)] 58,row v' 5 1 (bs++bX ps).length (bytes (bs++bX ps))] hh) (λvs' _=>match vs' with|[_,.int _ i]=>ls.length - i.toNat|_=>0) ?_ ?_
 ·exact⟨0,p,v,bf,[],by omega,rfl,λ_=>rfl,by rcases hbf with rfl|rfl<;>simp,hp,rfl,by simp[bX],by simp,by simpa[bX] using o⟩
 ·rintro vs' junk hh ⟨i,p',v',be,ps,hi,rfl,hbe,hbl,hp',hQ,hc1,hc2,oh⟩
  have hA:=hK _ _ oh;by_cases hlt:i<ls.length
  ·obtain⟨s,hs1⟩:=getx hlt
   have hss:(strs ls)[i]?=some (sv s):=by simp[strs,hs1]
   have hs2:=hs s (aDY hs1);have ht:ls.take (i+1)=ls.take i++[s]:=by rw[aEr,hs1];simp
   by_cases h0:i=0
   ·have e0:=hbe h0
    subst h0;subst be;have hps:ps=[]:=by cases hQ;rfl
    subst hps;have hnx:∀ o,bN bf s=o->jA bN bf (ls.take (0+1))=o:=λo e=>by
     rw[ht,← e]
     show aO [bN bf s]=_
     cases bN bf s<;>simp[aO]
    refine bB λc20=>rR (idx aB aC hA rfl zO zO ?_);refine rR (aDq hA aC rfl a_ ?_);refine aDL (d1_ [0,1,2,3,4,6] [] [5,7,8] [0,1,2,3,4,5,6,7,8] ?_);refine nC rfl ?_;refine fC cC ?_;refine aDW (bT s _ zO) (λe1 h2 o2=>?_) λe1 h2 o2=>?_
    ·have o3:=oh.ext' o2
     clear o2;have h24:=((jS s).1 e1).2.1;have hq:bN bf s=some [aG bf s]:=by unfold bN;rw[if_pos e1]
     refine aDb rfl rfl w_ ?_;refine lA o3 aB aC λb31 m31 o31=>?_;refine aDN (zX B b b31 p' v' (k+([]:List Pc).length) (bs++bX []) [bf++s] _ hp' o31 (by rw[aDX];omega) v_ zS v_) ?_;rintro _ h4 ⟨rfl,p4,v4,hp4,o4⟩;clear o31 o3 oh hA;refine aR ?_
     refine⟨rfl,?_⟩
     have e4:bX [aG bf s]=bf++s:=by simp[bX,gX,wr,aG]
     refine⟨⟨0+1,p4,v4,bf,[aG bf s],by omega,rfl,(λe=>by omega),hbl,hp4,hnx _ hq,by rw[e4,aDX];omega,by simp,?_⟩,by simp;omega⟩
     rw[e4]
     simpa[bX] using o4
    ·have hq:bN bf s=none:=by unfold bN;rw[if_neg (by rw[e1];decide)]
     have:=aAV (m:=ls.drop (0+1)) (hnx _ hq)
     rw[aEw]at this
     exact⟨this,rfl,(oh.ext' o2).sel [] rfl⟩
   ·have hnx:∀ q,bN [32] s=q->jA bN bf (ls.take (i+1))=q.map λq=>ps++aS [] [44]::q:=λq e=>by
     rw[ht,listQ_snoc (by intro e;have:=congrArg List.length e;rw[aEC,aD2]at this;omega) hQ,e]
    refine bB λc40=>rR (idx aB aC hA rfl zO zO ?_);refine rR (aDq hA aC rfl a_ ?_);refine bB λc43=>cB ?_;refine fB cC ?_;refine lA oh aB aC λb46 m46 o46=>?_;refine aDN (zX B b b46 p' v' (k+ps.length) (bs++bX ps) [[44]] _ hp' o46 (by rw[aDX];omega) zS zS zO) ?_;rintro _ h4 ⟨rfl,p4,v4,hp4,o4⟩;clear o46 oh hA;have hA:=hK _ _ o4;refine d1_ [0,1,2,3,4,6] [] [5,7,8] [0,1,2,3,4,5,6,7,8] ?_;refine nC rfl ?_;refine fC cC ?_;refine aDW (bT s _ zO) (λe1 h2 o2=>?_) λe1 h2 o2=>?_
    ·have o5:=o4.ext' o2
     clear o2 o4;have h24:=((jS s).1 e1).2.1;have hq:bN [32] s=some [aG [32] s]:=by unfold bN;rw[if_pos e1]
     refine aDb rfl rfl w_ ?_;refine lA o5 aB aC λb71 m71 o71=>?_;refine aDN (zX B b b71 p4 v4 (k+ps.length+([[44]]:List aBs).length) (bs++bX ps++([[44]]:List aBs).flatten) [[32]++s] _ hp4 o71 (by simp only[aDX];simp;omega) v_ zS v_) ?_;rintro _ h6 ⟨rfl,p6,v6,hp6,o6⟩;clear o71 o5 hA;refine aR ?_
     refine⟨rfl,?_⟩
     have e4:bX (ps++aS [] [44]::[aG [32] s])=bX ps++[44]++([32]++s):=by simp[bX,gX,wr,aG,aS]
     have e5:((ps++aS [] [44]::[aG [32] s]).length:Int)=ps.length+1+1:=by simp;omega
     refine⟨⟨i+1,p6,v6,[32],ps++aS [] [44]::[aG [32] s],by omega,rfl,(λe=>by omega),by simp,hp6,hnx _ hq,by rw[e4];simp;omega,by simp;omega,?_⟩,by simp;omega⟩
     rw[e4,e5]
     simpa[Int.add_assoc] using o6
    ·have hq:bN [32] s=none:=by unfold bN;rw[if_neg (by rw[e1];decide)]
     have:=aAV (m:=ls.drop (i+1)) (hnx _ hq)
     rw[aEw]at this
     exact⟨this,rfl,(o4.ext' o2).sel [] rfl⟩
  ·have hd:ls.take i=ls:=aEa zO
   obtain rfl:i=ls.length:=by omega
   rw[hd]at hQ
   refine bA λc60=>aDS rfl ?_
   exact⟨ps,p',v',hQ,rfl,hp',hc1,by omega,oh⟩
theorem WEnds.call {g:FuncId}{args s:aVs}{B:Base}{b:Nat}{bs:aBs}{k:Int}{c:Nat}{o:Option (List Pc)}{h:Heap}{K:KK}{Q:QQ}(sp:Spec Tryz.prog g args h (WEnds B b bs k c o))
  (hret:∀ ps p' v' h',o=some ps->dI b p'->(bX ps).length<=c->ps.length<=c->Own B [box b [p',v',iv (k+ps.length)] 58,row v' 5 1 (bs++bX ps).length (bytes (bs++bX ps))] h'->K (.tuple #[]) false h')
  (hpan:∀ h',o=none->Own B [] h'->Q (.panic xZ) s h'):CallVC Tryz.prog g args s h K Q :=
 aDO sp (λ_ _ ⟨ps,p',v',h1,h2,h3,h4,h5,h6⟩=>by subst h2;exact hret ps p' v' _ h1 h3 h4 h5 h6) (λ_ _ ⟨h1,h2,h3⟩=>by subst h2;exact hpan _ h1 h3)
theorem sO (B:Base)(b:Nat)(p v:Value)(k:Int)(bs bf:aBs)(ls:List aBs)(vs:Value)(h:Heap)(hp:dI b p)(hS:tQ B vs ls)
  (o:Own B [box b [p,v,iv k] 58,row v 5 1 bs.length (bytes bs)] h) (hl:bs.length<=50000000000000) (hs:∀ s∈ls,s.length<=1000000000000000) (hln:ls.length<=100000000000) (hk:0<=k/\k<=50000000000000) (hbf:bf=[]∨bf=[32]) :
  Spec Tryz.prog 124 [pv b 0,sv bf,vs] h (WEnds B b bs k (100*ls.length) (eO bN bf ls)):=by
 refine eN Tryz.func124 Tryz.ntmps124 ?_;have hA:=hS _ _ o;have hsl:(strs ls).length=ls.length:=by simp[strs]
 cases ls with
 | nil =>
  refine rR (aDv hA zA aB ?_);refine aDW (aH _ _) (λe1 h2 o2=>by cases e1) λe1 h2 o2=>?_
  exact⟨rfl,rfl,(o.ext' o2).sel [] rfl⟩
 | cons x xs =>
  refine rR (aDv hA zA aB ?_);refine aDW (aH _ _) (λe1 h2 o2=>?_) λe1 h2 o2=>?_
  ·have o3:=o.ext' o2
   refine WEnds.call (nV B b p v k bs bf (x::xs) vs _ hp hS o3 hl hs hln hk hbf) (λps p' v' h4 h5 h6 h7 h8 o4=>?_) λh4 h5 o4=>?_
   ·refine aDS rfl ?_
    exact⟨ps,p',v',h5,rfl,h6,h7,h8,o4⟩
   ·exact⟨h5,rfl,o4⟩
  ·have:=of_decide_eq_false e1
   exact absurd this zS
theorem nU (B:Base)(b:Nat)(p v:Value)(k:Int)(bs t a:aBs)(h:Heap)(hp:dI b p)
  (o:Own B [box b [p,v,iv k] 58,row v 5 1 bs.length (bytes bs)] h) (hl:bs.length<=50000000000000) (ht:t.length<=1000000000000000) (ha:a.length<=1000000000000000) (hk:0<=k/\k<=50000000000000) :
  Spec Tryz.prog 126 [pv b 0,sv t,sv a] h (WEnds B b bs k 100 (fM t a)):=by
 refine eN Tryz.func126 Tryz.ntmps126 ?_;refine d1_ [0,1,2,3,5,6] [] [4,7,8,9] [0,1,2,3,6,4,5,7,8,9] ?_;refine nC rfl ?_;refine fC cC ?_;refine aDW (bT t _ ht) (λe1 h2 o2=>?_) λe1 h2 o2=>?_
 ·have o3:=o.ext' o2
  have h24:=((jS t).1 e1).2.1;have hq1:bN [32] t=some [aG [32] t]:=by unfold bN;rw[if_pos e1]
  clear o2;refine aDb rfl rfl w_ ?_;refine aDW (bT a _ ha) (λe2 h4 o4=>?_) λe2 h4 o4=>?_
  ·have o5:=o3.ext' o4
   clear o4 o3;have h25:=((jS a).1 e2).2.1;have hq2:bN [] a=some [aG [] a]:=by unfold bN;rw[if_pos e2]
   have hq:fM t a=some [aG [32] t,aS [] [46],aG [] a]:=by unfold fM;rw[hq1,hq2];rfl
   have e4:bX [aG [32] t,aS [] [46],aG [] a]=([[32]++t,[46],a]:List aBs).flatten:=by simp[bX,gX,wr,aG,aS]
   refine lA o5 aB aC λb50 m50 o50=>?_;refine aDN (zX B b b50 p v k bs [[32]++t,[46],a] _ hp o50 zO v_ zS zO) ?_;rintro _ h6 ⟨rfl,p6,v6,hp6,o6⟩;clear o50 o5;refine aDS rfl ?_
   rw[← e4]at o6
   exact⟨_,p6,v6,hq,rfl,hp6,by rw[e4];simp;omega,by simp,o6⟩
  ·have hq:bN [] a=none:=by unfold bN;rw[if_neg (by rw[e2];decide)]
   have:fM t a=none:=by unfold fM;rw[hq1,hq];rfl
   exact⟨this,rfl,(o3.ext' o4).sel [] rfl⟩
 ·have hq:bN [32] t=none:=by unfold bN;rw[if_neg (by rw[e1];decide)]
  have:fM t a=none:=by unfold fM;rw[hq];rfl
  exact⟨this,rfl,(o.ext' o2).sel [] rfl⟩
section
variable {α β : Type} {m : PM α} {f : α -> PM β} {ts us : List Tok} {a : α} {b : β} {k l : List aBs}
end
theorem aN {x:Option (List Pc)}{r:List (Option (List Pc))}{ps:List Pc}(h:aO (x::r)=some ps):∃ a b,x=some a/\aO r=some b/\ps=a++b:=by
 cases x with
 | none=>cases h
 | some a =>
  obtain⟨b,hb,rfl⟩:=aEo.1 (show(aO r).map (a++·)=some ps from h)
  exact⟨a,b,rfl,hb,rfl⟩
theorem dL {ps:List Pc}(h:aO []=some ps):ps=[]:=by cases h;rfl
theorem bQ {b s:aBs}{ps:List Pc}(h:bN b s=some ps):aZ s=true/\ps=[aG b s]:=by
 unfold bN at h;split at h
 ·cases h;exact⟨by assumption,rfl⟩
 ·cases h
theorem iM {b:aBs}{n:Int}{ps:List Pc}(h:iU b n=some ps):dB n=true/\ps=[cI b n]:=by
 unfold iU at h;split at h
 ·cases h;exact⟨by assumption,rfl⟩
 ·cases h
mutual
def aAm:Ex->Ex
 | .mk k tb ks cs ns a as_ g _=>.mk k tb (pG ks) cs ns a as_ g 0
def pG:List Ex->List Ex
 | []=>[]
 | x::r=>aAm x::pG r
end
theorem nDigs_le:∀(k u:Nat),u<10 ^ (k+1)->Lib.nDigits u<=k+1
 | 0,u,h=>by
  rw[Lib.nDigits_small (by simpa using h)]
  omega
 | k+1,u,h=>by
  by_cases hu:u<10
  ·rw[Lib.nDigits_small hu]
   omega
  ·rw[Lib.nDigits_big hu]
   have:=nDigs_le k (u / 10) (by rw[Nat.pow_succ]at h;omega)
   omega
theorem bS {n:Int}(h:dB n=true):(Lib.itoa n).length<=10:=by
 obtain⟨h0,h1⟩:=of_decide_eq_true h
 obtain⟨k,rfl⟩:=Int.eq_ofNat_of_zero_le h0
 have e:Lib.itoa (k:Int)=Lib.decDigits k:=by
  unfold Lib.itoa
  rw[if_neg zO]
  simp
 rw[e,Lib.decDigits_length]
 exact nDigs_le 9 k zO
section
variable {g : FuncId} {args s : aVs} {B : Base} {L : List Item} {b i : Nat} {p v : Value} {k : Int} {bs : aBs} {h : Heap} {K : KK} {Q : QQ}
theorem aM {c:Nat}(ls:List aBs)(m M:Nat)(js:List Nat)(o:Own B L h)(e:pick L [0,1]=[box b [p,v,iv k] 58,row v 5 1 bs.length (bytes bs)])
  (ei:pick L [i]=[box c (strs ls) 9]) (hd:dst ([0,1,i]++js)=true) (hp:dI b p) (hm:ls.length=m) (hl:bs.length<=100000000000000) (hk:0<=k/\k<=100000000000000) (hs:∀ s∈ls,s.length<=M) (hM:M<=1000) (hm2:m<=100)
  (hret:∀ p' v' bs' k' h',dI b p'->bs'=bs++ls.flatten->k'=k+m->bs'.length<=bs.length+M*m->Own B (box b [p',v',iv k'] 58::row v' 5 1 bs'.length (bytes bs')::pick L js) h'->K (.tuple #[]) false h') :
  CallVC Tryz.prog 31 [pv b 0,.slice (some ⟨c,0,none⟩) m m] s h K Q:=by
 subst hm;have o1:=o.lend [0,1] (i::js) hd
 rw[e]at o1
 have ei2:pick L (i::js)=box c (strs ls) 9::pick L js:=by
  have:=nA L [i] js
  rw[ei]at this
  exact this
 rw[ei2]at o1
 have hK:tQ ⟨B.h,(box c (strs ls) 9::pick L js)++B.T⟩ (.slice (some ⟨c,0,none⟩) ls.length ls.length) ls:=λL h o=>by
  have hs:(box c (strs ls) 9).sat h:=OwnR.sat o _ zS
  exact(xY (sz:=1) (by simp[strs]) (aD6 _) h hs).to1
 have hfl:∀ l:List aBs,(∀ s∈l,s.length<=M)->l.flatten.length<=M*l.length:=by
  intro l
  induction l with
  | nil=>intro _;simp
  | cons x l ih =>
   intro h;have h1:=h x zS;have h2:=ih λs hs=>h s (by simp[hs])
   simp only[aEz,aDX,aD1,Nat.mul_add,Nat.mul_one]
   omega
 have hfl:=hfl ls hs;refine aDN (put_spec _ b p v k bs ls _ h hp hK o1 hl (λs hs'=>aEc (hs s hs') hM) hm2 hk) ?_;rintro _ h' ⟨rfl,p',v',hp',o2⟩;exact hret p' v' (bs++ls.flatten) _ h' hp' rfl rfl (by rw[aDX];omega) (o2.back.sel (0::1::List.range' 3 (pick L js).length) (by
  have:∀ n k,2<=k->dst (0::1::List.range' k n)=true:=λn k hk=>mQ (n:=k) [0,1] rfl (by intro j hj;simp at hj;omega)
  exact this _ _ zO) |> λo=>by
   have e:pick ([box b [p',v',iv (k+ls.length)] 58,row v' 5 1 (bs++ls.flatten).length (bytes (bs++ls.flatten))]++box c (strs ls) 9::pick L js) (0::1::List.range' 3 (pick L js).length) =
     box b [p',v',iv (k+ls.length)] 58::row v' 5 1 (bs++ls.flatten).length (bytes (bs++ls.flatten))::pick L js:=by
    have:=sR [box b [p',v',iv (k+ls.length)] 58,row v' 5 1 (bs++ls.flatten).length (bytes (bs++ls.flatten)),box c (strs ls) 9] (pick L js) (pick L js).length (aD6 _)
    simp only[aD1,aD2,Nat.sub_self,Nat.add_zero,List.drop_zero]at this
    simp only[pick,lcA,lnA,lgS,lgZ]
    exact congrArg (λz=>_::_::z) this
   rwa [e]at o)
theorem WEnds.callJ {c:Nat}{opt:Option (List Pc)}(js:List Nat)(o:Own B L h)(e:pick L [0,1]=[box b [p,v,iv k] 58,row v 5 1 bs.length (bytes bs)])(hd:dst ([0,1]++js)=true)
  (sp:∀ J,Own ⟨B.h,J++B.T⟩ [box b [p,v,iv k] 58,row v 5 1 bs.length (bytes bs)] h->Spec Tryz.prog g args h (WEnds ⟨B.h,J++B.T⟩ b bs k c opt))
  (hret:∀ ps p' v' bs' k' h',opt=some ps->dI b p'->bs'=bs++bX ps->k'=k+ps.length->bs'.length<=bs.length+c->k<=k'->k'<=k+c->Own B (box b [p',v',iv k'] 58::row v' 5 1 bs'.length (bytes bs')::pick L js) h'->K (.tuple #[]) false h')
  (hpan:∀ h',opt=none->Own B [] h'->Q (.panic xZ) s h'):CallVC Tryz.prog g args s h K Q:=by
 have o1:=o.lend [0,1] js hd
 rw[e]at o1
 exact WEnds.call (sp _ o1) (λps p' v' h' h1 h2 h3 h4 o2=>hret ps p' v' (bs++bX ps) _ h' h1 h2 rfl rfl (by rw[aDX];omega) zO zO o2.back) (λh' h1 o2=>hpan h' h1 (o2.back.sel [] rfl))
theorem StillVC.aDc {ok:Bool}{r:Value}(o:Own B L h)(sp:Spec Tryz.prog g args h (MEnds h ok r))(hret:ok=true->∀ h',Own h [] h'->Own B L h'->K r false h')(hpan:ok=false->∀ h',Own B [] h'->Q (.panic xZ) s h'):CallVC Tryz.prog g args s h K Q :=
 aDW sp (λe h' o'=>hret e h' o' (o.ext' o')) (λe h' o'=>hpan e h' ((o.ext' o').sel [] rfl))
theorem StillVC.aDV {c:Nat}{opt:Option (List Pc)}{ps:List Pc}{bs':aBs}{k':Int}(hq:opt=some ps)(o:Own B [box b [p,v,iv k'] 58,row v 5 1 bs'.length (bytes bs')] h)(hp:dI b p)(hb:bs'=bs++bX ps)(hk:k'=k+ps.length)
  (hc:bs'.length<=bs.length+c) (hc2:k'<=k+c):WEnds B b bs k c opt (.returned (.tuple #[])) h:=by
 subst hb;subst hk
 rw[aDX]at hc
 exact⟨ps,p,v,hq,rfl,hp,by omega,by omega,o⟩
end
theorem aD {b s:aBs}(h:aZ s=true):bN b s=some [aG b s]:=by unfold bN;rw[if_pos h]
theorem dM {b s:aBs}(h:aZ s=false):bN b s=none:=by unfold bN;rw[if_neg (by rw[h];decide)]
theorem aF {b:aBs}{n:Int}(h:dB n=true):iU b n=some [cI b n]:=by unfold iU;rw[if_pos h]
theorem dW {b:aBs}{n:Int}(h:dB n=false):iU b n=none:=by unfold iU;rw[if_neg (by rw[h];decide)]
theorem bJ {s:aBs}(h:aZ s=true):s.length<=24:=((jS s).1 h).2.1
theorem uK (b off:Nat)(x:Int)(h:Heap)(hc:bI h ⟨b,off,none⟩=some (.int .u32 x)) :
  bG Tryz.prog 172 [pv b off] h λr h'=>r=.bool (!decide (x=0))/\h'=h:=by
 refine eN Tryz.func172 Tryz.ntmps172 ?_;refine cB ?_;refine fB st210 ?_;refine CallVC.ext (XSpec.load Tryz.func179 k_ k_ k_ .u32 k_ hc) ?_;rintro _ hx ⟨rfl,rfl⟩;refine rO ?_
 exact⟨rfl,rfl⟩
theorem ilock_spec (B:Base)(b off:Nat)(cs:aVs)(t:TypeId)(h:Heap)(o0:Own B [box b cs t] h)(hc:cs[off]?=some (.int .i32 0)) :
  bG Tryz.prog 189 [pv b off] h λr h'=>r=.tuple #[]/\Own B [box b (cs.set off (.int .i32 1)) t] h':=by
 have hlt:off<cs.length:=(aDZ.1 hc).1;have hc1:(cs.set off (.int .i32 1))[off]?=some (.int .i32 1):=by simp[hlt]
 refine eN Tryz.func189 Tryz.ntmps189 ?_;refine CallVC.ext (XSpec.mark0 Tryz.func200 k_ k_ k_ .disable k_) ?_;rintro _ hx ⟨rfl,rfl⟩;refine cB ?_;refine fB st212 ?_;refine CallVC.ext (XSpec.cas Tryz.func201 k_ k_ k_ .i32 k_ o0 0 rfl hc) ?_;rintro _ h2 ⟨rfl,o2⟩;refine aDK (aDK ?_);refine CallVC.ext (XSpec.mark0 Tryz.func202 k_ k_ k_ .enable k_) ?_;rintro _ hx ⟨rfl,rfl⟩;refine rR (toUnsafe (e:=212) k_ k_ k_ rfl ((o2.cellB 0 rfl _).trans hc1) ?_);refine CallVC.ext (XSpec.marked Tryz.func203 k_ k_ k_ .acquire k_ _) ?_;rintro _ hx ⟨rfl,rfl⟩;refine aDS rfl ?_
 exact⟨rfl,o2⟩
theorem lock_spec (B:Base)(b off:Nat)(cs:aVs)(t:TypeId)(h:Heap)(o0:Own B [box b cs t] h)(hc:cs[off]?=some (.int .i32 0)) :
  bG Tryz.prog 180 [pv b off] h λr h'=>r=.tuple #[]/\Own B [box b (cs.set off (.int .i32 1)) t] h':=by
 refine eN Tryz.func180 Tryz.ntmps180 ?_;refine cB ?_;refine fB st214 ?_;refine aDN (ilock_spec B b off cs t _ o0 hc) ?_;rintro _ h2 ⟨rfl,o2⟩;refine aDS rfl ?_
 exact⟨rfl,o2⟩
theorem aCT (B:Base)(b off:Nat)(cs:aVs)(t:TypeId)(h:Heap)(o0:Own B [box b cs t] h)(hc:cs[off]?=some (.int .i32 1)) :
  bG Tryz.prog 190 [pv b off] h λr h'=>r=.tuple #[]/\Own B [box b (cs.set off (.int .i32 0)) t] h':=by
 have hcell:=(o0.cellB 0 rfl off).trans hc;refine eN Tryz.func190 Tryz.ntmps190 ?_;refine aDK (cB ?_);refine fB st212 ?_;refine rR (aDu o0 0 rfl ty21 rfl zA ?_);refine rR (toUnsafe (e:=212) k_ k_ k_ rfl hcell ?_);refine CallVC.ext (XSpec.marked Tryz.func205 k_ k_ k_ .releaseMerge k_ _) ?_;rintro _ hx ⟨rfl,rfl⟩;refine CallVC.ext (XSpec.mark0 Tryz.func200 k_ k_ k_ .disable k_) ?_;rintro _ hx ⟨rfl,rfl⟩;refine cB ?_;refine fB st212 ?_;refine CallVC.ext (XSpec.add Tryz.func206 k_ k_ k_ .i32 k_ o0 0 rfl hc) ?_;rintro _ h2 ⟨rfl,o2⟩;refine aDL (CallVC.ext (XSpec.mark0 Tryz.func202 k_ k_ k_ .enable k_) ?_);rintro _ hx ⟨rfl,rfl⟩;refine aDS rfl ?_
 exact⟨rfl,o2⟩
theorem unlock_spec (B:Base)(b off:Nat)(cs:aVs)(t:TypeId)(h:Heap)(o0:Own B [box b cs t] h)(hc:cs[off]?=some (.int .i32 1)) :
  DSpec Tryz.prog 181 [pv b off] h (Ret λr h'=>r=.tuple #[]/\Own B [box b (cs.set off (.int .i32 0)) t] h'):=by
 refine DSpec.enter Tryz.func181 rfl (n:=6) k_ k_ ?_;refine cB ?_;refine fB st214 ?_;refine aDN (aCT B b off cs t _ o0 hc) ?_;rintro _ h2 ⟨rfl,o2⟩;refine aDS rfl ?_
 exact⟨rfl,o2⟩
theorem b32_spec (h:Heap):bG Tryz.prog 192 [.bool true] h λr h'=>r=.int .u32 1/\h'=h:=by
 refine eN Tryz.func192 Tryz.ntmps192 ?_;refine aDK (rO ?_)
 exact⟨rfl,rfl⟩
theorem aBo (B:Base)(b off:Nat)(cs:aVs)(t:TypeId)(u:Value)(h:Heap)(o0:Own B [box b cs t] h)(hc:cs[off]?=some u) :
  DSpec Tryz.prog 182 [pv b off,.bool true] h (Ret λr h'=>r=.tuple #[]/\Own B [box b (cs.set off (.int .u32 1)) t] h'):=by
 refine DSpec.enter Tryz.func182 rfl (n:=10) k_ k_ ?_;refine d1_ [0,1,2,3] [] [4,5] [0,1,2,3,4,5] ?_;refine nC rfl ?_;refine fC st210 ?_;refine aDN (b32_spec _) ?_;rintro _ hx ⟨rfl,rfl⟩;refine CallVC.ext (XSpec.store Tryz.func191 k_ k_ k_ k_ o0 0 rfl hc) ?_;rintro _ h2 ⟨rfl,o2⟩;refine aDS rfl ?_
 exact⟨rfl,o2⟩
theorem Own.lend1 {B:Base}{x:Item}{L2:List Item}{h:Heap}(o:Own B (x::L2) h):Own ⟨B.h,L2++B.T⟩ [x] h:=o
theorem Own.back1 {B:Base}{x:Item}{L2:List Item}{h:Heap}(o:Own ⟨B.h,L2++B.T⟩ [x] h):Own B (x::L2) h:=o
def pA (b o:Nat):Value:=pv b o
theorem slow_spec (B:Base)(b:Nat)(cs:aVs)(F:aVs->List Item->Prop)(t:TypeId)(g:FuncId)(first cap:aVs)(h:Heap)(o0:Own B [box b cs t] h)
  (c0:cs[0]?=some (.int .u32 0)) (c1:cs[1]?=some (.int .i32 0))
  (hf:∀ h',Own B [box b (cs.set 1 (.int .i32 1)) t] h'->bG Tryz.prog g (first++cap) h' λv h''=>v=.tuple #[]/\∃ cs2 L2,F cs2 L2/\cs2[0]?=some (.int .u32 0)/\cs2[1]?=some (.int .i32 1)/\Own B (box b cs2 t::L2) h'') :
  bG Tryz.prog 173 [pA b 0,.func (.func g) ⟨first⟩ ⟨cap⟩] h λv h'=>v=.tuple #[]/\∃ cs2 L2,F cs2 L2/\Own B (box b ((cs2.set 0 (.int .u32 1)).set 1 (.int .i32 0)) t::L2) h':=by
 have hd:(cs.set 1 (.int .i32 1))[0]?=some (.int .u32 0):=by
  rw[aEJ zO];exact c0
 refine⟨⟨_,Tryz.func173,rfl,by kernel_rfl⟩,λw hw=>?_⟩
 subst hw;refine calls_of_wp_defers (R:=λe w'=>Same w w'/\Ret (λv h'=>v=.tuple #[]/\∃ cs2 L2,F cs2 L2/\Own B (box b ((cs2.set 0 (.int .u32 1)).set 1 (.int .i32 0)) t::L2) h') e w'.heap) Tryz.func173 rfl ?_;have he:({ tmps:=[pA b 0,.func (.func g) ⟨first⟩ ⟨cap⟩].toArray++Array.replicate (21 - [pA b 0,.func (.func g) ⟨first⟩ ⟨cap⟩].toArray.size) undef,defers:=[] }:Act) =
   act [pA b 0,.func (.func g) ⟨first⟩ ⟨cap⟩,undef,undef,undef,undef,undef,undef,undef,undef,undef,undef,undef,undef,undef,undef,undef,undef,undef,undef,undef] []:=by
  simp[act,List.replicate]
 refine he▸?_;refine wp_seq (wp_mono (eH (w0:=w) (ds:=[]) _ (λe s' h'=>e=.normal/\s'=[pA b 0,.func (.func g) ⟨first⟩ ⟨cap⟩,undef,undef,pA b 0,pA b 0,pA b 1,.tuple #[],undef,undef,undef,undef,undef,undef,undef,undef,undef,undef,undef,undef,undef]/\Own B [box b (cs.set 1 (.int .i32 1)) t] h') _ w (.refl w) ?_) ?_)
 ·refine cB ?_
  refine fB st216 ?_;refine aDN (lock_spec B b 1 cs t _ o0 c1) ?_;rintro _ h2 ⟨rfl,o2⟩
  exact⟨rfl,rfl,o2⟩
 rintro e a w1 ⟨s1,rfl,hs1,rfl,rfl,o1⟩;refine wp_seq (rX (o:=0) st216 rfl rfl rfl zD zD zD zS zS ?_);refine wp_seq (wp_mono (eH (w0:=w) _ (λe s' h'=>e=.normal/\s'=[pA b 0,.func (.func g) ⟨first⟩ ⟨cap⟩,undef,undef,pA b 0,pA b 0,pA b 1,.tuple #[],pA b 0,pA b 0,pA b 1,pA b 0,pA b 0,pA b 0,.bool false,.bool true,undef,undef,undef,undef,undef]/\Own B [box b (cs.set 1 (.int .i32 1)) t] h') _ w1 hs1 ?_) ?_)
 ·refine cB ?_
  refine fB st216 ?_;refine aDN (uK b 0 0 _ ((o1.cellB 0 rfl 0).trans hd)) ?_;rintro _ h2 ⟨rfl,rfl⟩
  exact⟨rfl,rfl,o1⟩
 rintro e a w2 ⟨s2,rfl,hs2,rfl,rfl,o2⟩;refine wp_cond_split (t:=true) rfl (λ_=>?_) (λh=>by cases h);refine wp_seq (rX (o:=0) st216 rfl rfl rfl zD zD zD zS zS ?_);refine wp_mono (eH (w0:=w) _ (λe s' h'=>e=.normal/\∃ cs2 L2,F cs2 L2/\cs2[0]?=some (.int .u32 0)/\cs2[1]?=some (.int .i32 1)/\Own B (box b cs2 t::L2) h') _ w2 hs2 ?_) ?_
 ·refine aDU ?_
  refine aDN (hf _ o2) ?_;rintro _ h3 ⟨rfl,o3⟩
  exact⟨rfl,o3⟩
 rintro e a w3 ⟨s3,rfl,hs3,rfl,cs2,L2,hF,d0,d1,o3⟩;have e1:(cs2.set 0 (.int .u32 1))[1]?=some (.int .i32 1):=by
  rw[aEJ zO];exact d1
 refine yY (args:=[pA b 0,.bool true]) (aBo _ b 0 cs2 t _ _ o3.lend1 d0) ?_;rintro _ w4 hs4 ⟨rfl,o4⟩;refine yY (args:=[pA b 1]) (unlock_spec _ b 1 _ t _ o4 e1) ?_;rintro _ w5 hs5 ⟨rfl,o5⟩
 exact⟨_,results_none rfl _ _ _,(hs3.trans hs4).trans hs5,rfl,cs2,L2,hF,o5.back1⟩
theorem do_spec (B:Base)(b:Nat)(cs:aVs)(F:aVs->List Item->Prop)(t:TypeId)(g:FuncId)(first cap:aVs)(h:Heap)(o0:Own B [box b cs t] h)
  (c0:cs[0]?=some (.int .u32 0)) (c1:cs[1]?=some (.int .i32 0))
  (hf:∀ h',Own B [box b (cs.set 1 (.int .i32 1)) t] h'->bG Tryz.prog g (first++cap) h' λv h''=>v=.tuple #[]/\∃ cs2 L2,F cs2 L2/\cs2[0]?=some (.int .u32 0)/\cs2[1]?=some (.int .i32 1)/\Own B (box b cs2 t::L2) h'') :
  bG Tryz.prog 165 [pA b 0,.func (.func g) ⟨first⟩ ⟨cap⟩] h λv h'=>v=.tuple #[]/\∃ cs2 L2,F cs2 L2/\Own B (box b ((cs2.set 0 (.int .u32 1)).set 1 (.int .i32 0)) t::L2) h':=by
 refine eN Tryz.func165 Tryz.ntmps165 ?_;refine cB ?_;refine fB st216 ?_;refine aDN (uK b 0 0 _ ((o0.cellB 0 rfl 0).trans c0)) ?_;rintro _ hx ⟨rfl,rfl⟩;refine aDK (aDN (slow_spec B b cs F t g first cap _ o0 c0 c1 hf) ?_);rintro _ h2 ⟨rfl,o2⟩;refine aDS rfl ?_
 exact⟨rfl,o2⟩
abbrev vX:Value:=.slice none 0 0
def aCq:aVs:=List.replicate 257 vX
theorem ty249:TyI Tryz.prog 249 true aCq 6168:=.mk' (z:=.agg ⟨aCq⟩) Tryz.underlying249 rfl k_ rfl
theorem jF:StructT Tryz.prog 249 [(0,256),(256,1)] [true,false] aCq:=.mk' k_ ty249
theorem fI:ArrT Tryz.prog 247 52 256 vX 24:=⟨Tryz.underlying247,nI⟩
structure RepC (cs:aVs) (t:Value) (f:Nat->Value):Prop where
 len:cs.length=257
 last:cs[256]?=some t
 at_:∀ i,i<256->cs[i]?=some (f i)
theorem aAd:aCq.length=257:=List.length_replicate
theorem zBSR_set (v:Value)(hv:v.oneCell'=true):(aCq.set 256 v).all (λu=>u.oneCell')=true:=by
 refine aD4.2 λu hu=>?_
 rcases List.mem_or_eq_of_mem_set hu with h|rfl
 ·rw[List.eq_of_mem_replicate h];rfl
 ·exact hv
theorem RepC.start (t:Value):RepC (aCq.set 256 t) t (λ_=>vX) where
 len:=by rw[List.length_set];exact aAd
 last:=List.getElem?_set_self (by rw[aAd];omega)
 at_ i hi:=by
  rw[aEJ zO,aCq,List.getElem?_replicate,if_pos zO]
def aCM (f:Nat->Value)(i:Nat)(v:Value):Nat->Value:=λj=>if j=i then v else f j
theorem RepC.setT {cs:aVs}{t t':Value}{f:Nat->Value}(r:RepC cs t f):RepC (cs.set 256 t') t' f where
 len:=by simp[r.len]
 last:=by simp[r.len]
 at_ i hi:=by rw[aEJ zO];exact r.at_ i hi
theorem RepC.setV {cs:aVs}{t v:Value}{f:Nat->Value}(r:RepC cs t f)(i:Nat)(hi:i<256):RepC (cs.set i v) t (aCM f i v) where
 len:=by simp[r.len]
 last:=by rw[aEJ zO];exact r.last
 at_ j hj:=by
  unfold aCM;by_cases h:j=i
  ·subst h;rw[if_pos rfl];exact List.getElem?_set_self (by rw[r.len];omega)
  ·rw[aEJ (Ne.symm h),if_neg h];exact r.at_ j hj
def jE (l:aBs):Value:=sv l
def iL:aVs:=[jE [34],jE [92,34],jE [92],jE [92,92],jE [10],jE [92,110]]
def aCK (v w x:Value):Nat->Value:=aCM (aCM (aCM (λ_=>vX) 10 v) 92 w) 34 x
theorem build_spec (B:Base)(b:Nat)(d st se r:Value)(a:Option Addr)(c:Nat)(h:Heap)
  (o0:Own B [box b [d,st,se,r,.slice a 6 c] 220,row (.slice a 6 c) 9 1 6 iL] h) :
  bG Tryz.prog 174 [pA b 0] h λres h'=>∃ rb cs t v w x,res=.iface 250 (pA rb 0)/\RepC cs t (aCK v w x) /\
   Own B [box b [d,st,se,r,.slice a 6 c] 220,row (.slice a 6 c) 9 1 6 iL,box rb cs 249,row t 9 1 3 [jE [10],jE [92],jE [34]],ro v (bytes [92,110]),ro w (bytes [92,92]),ro x (bytes [92,34])] h':=by
 have hol:iL.length=6:=rfl;refine eN Tryz.func174 Tryz.ntmps174 ?_;refine cB ?_;refine fB aBU ?_;refine oB o0 0 cS ?_;refine lB aB ?_;refine aDL (aDL ?_);refine aDT [2,4,5,37,38,39,40,41,42,43,44,45,46,47,48,49,50,51,52,53,54,55,56,57,58] [4,5] (λvs hh=>(vs=[.bool true,.int .i64 0]∨vs=[.bool false,.int .i64 2]∨vs=[.bool false,.int .i64 4]∨vs=[.bool false,.int .i64 6])/\Own B [box b [d,st,se,r,.slice a 6 c] 220,row (.slice a 6 c) 9 1 6 iL] hh) (λvs _=>match vs with|[_,.int _ i]=>6 - i.toNat|_=>0) ?_ ?_
 ·exact⟨.inl rfl,o0⟩
 ·rintro vs junk hh ⟨hv,oh⟩
  rcases hv with rfl|rfl|rfl|rfl
  ·refine lB aB ?_
   refine aDK (rR (idx aB aC (oh.rowArr 1 rfl) rfl zO zO ?_));refine rR (loadA (oh.rowArr 1 rfl) aC rfl a_ ?_);refine rR (aDn rfl cE ?_);refine aDL (aR ?_);refine rR (idx aB aC (oh.rowArr 1 rfl) rfl zO zO ?_);refine rR (loadA (oh.rowArr 1 rfl) aC rfl a_ ?_);refine rR (aDn rfl cE ?_);refine aDK (aR ?_)
   refine⟨rfl,?_⟩
   exact⟨⟨.inr (.inl rfl),oh⟩,by decide⟩
  ·refine lB aB ?_
   refine aDK (rR (idx aB aC (oh.rowArr 1 rfl) rfl zO zO ?_));refine rR (loadA (oh.rowArr 1 rfl) aC rfl a_ ?_);refine rR (aDn rfl cE ?_);refine aDL (aR ?_);refine rR (idx aB aC (oh.rowArr 1 rfl) rfl zO zO ?_);refine rR (loadA (oh.rowArr 1 rfl) aC rfl a_ ?_);refine rR (aDn rfl cE ?_);refine aDK (aR ?_)
   refine⟨rfl,?_⟩
   exact⟨⟨.inr (.inr (.inl rfl)),oh⟩,by decide⟩
  ·refine lB aB ?_
   refine aDK (rR (idx aB aC (oh.rowArr 1 rfl) rfl zO zO ?_));refine rR (loadA (oh.rowArr 1 rfl) aC rfl a_ ?_);refine rR (aDn rfl cE ?_);refine aDL (aR ?_);refine rR (idx aB aC (oh.rowArr 1 rfl) rfl zO zO ?_);refine rR (loadA (oh.rowArr 1 rfl) aC rfl a_ ?_);refine rR (aDn rfl cE ?_);refine aDK (aR ?_)
   refine⟨rfl,?_⟩
   exact⟨⟨.inr (.inr (.inr rfl)),oh⟩,by decide⟩
  ·refine lB aB ?_
   refine aDL (aDL ?_);refine lB aB ?_;refine rR (quoE rfl rfl zO zO (by simp[IntKind.max,IntKind.signed,IntKind.bits]<;>omega) ?_);(refine RunVC.make0 oh aB aC rfl rfl zO zO zO ?_;intro v83 m83 o83);refine rR (aDd jF ?_)
   obtain⟨ta,tc,rfl⟩:=o83.rowIs 2 rfl
   refine⟨by rw[aAd];rfl,?_⟩
   refine aDH o83 ty249 λb90 m90 o90=>?_;refine RunVC.storeAll (vs:=aCq.set 256 (.slice ta 0 tc)) zA 3 rfl ty249 ?_ ?_ List.length_set rfl (zBSR_set (.slice ta 0 tc) rfl) ?_
   ·rfl
   ·rfl
   intro m91 o91;have hR:=RepC.start (.slice ta 0 tc);generalize aCq.set 256 (.slice ta 0 tc)=cs0 at *;refine lB aB ?_;refine aR ?_;refine aDT [12,13,14,99,100,101,102,103,104,105,106,107,108,109,110,111,112,113,114,115,116,117,118,119,120,121,122,123,124,125,126,127,128,129,130] [12] (λvs hh=>(vs=[.int .i64 4]/\∃(ta:Option Addr) (tc:Nat) (cs:aVs),RepC cs (.slice ta 0 tc) (λ_=>vX)/\Own B [box b [d,st,se,r,.slice a 6 c] 220,row (.slice a 6 c) 9 1 6 iL,box b90 cs 249,row (.slice ta 0 tc) 9 1 0 []] hh)∨(vs=[.int .i64 2]/\∃(ta:Option Addr) (tc:Nat) (cs:aVs) (v:Value),RepC cs (.slice ta 1 tc) (aCM (λ_=>vX) 10 v)/\Own B [box b [d,st,se,r,.slice a 6 c] 220,row (.slice a 6 c) 9 1 6 iL,box b90 cs 249,row (.slice ta 1 tc) 9 1 1 [jE [10]],ro v (bytes [92,110])] hh)∨(vs=[.int .i64 0]/\∃(ta:Option Addr) (tc:Nat) (cs:aVs) (v w:Value),RepC cs (.slice ta 2 tc) (aCM (aCM (λ_=>vX) 10 v) 92 w)/\Own B [box b [d,st,se,r,.slice a 6 c] 220,row (.slice a 6 c) 9 1 6 iL,box b90 cs 249,row (.slice ta 2 tc) 9 1 2 [jE [10],jE [92]],ro v (bytes [92,110]),ro w (bytes [92,92])] hh)∨(vs=[.int .i64 (-2)]/\∃(ta:Option Addr) (tc:Nat) (cs:aVs) (v w x:Value),RepC cs (.slice ta 3 tc) (aCK v w x)/\Own B [box b [d,st,se,r,.slice a 6 c] 220,row (.slice a 6 c) 9 1 6 iL,box b90 cs 249,row (.slice ta 3 tc) 9 1 3 [jE [10],jE [92],jE [34]],ro v (bytes [92,110]),ro w (bytes [92,92]),ro x (bytes [92,34])] hh)) (λvs _=>match vs with|[.int _ i]=>(i+2).toNat|_=>0) ?_ ?_
   ·exact .inl ⟨rfl,ta,tc,cs0,hR,o91.sel [0,1,3,2] rfl⟩
   ·clear o91 hR
    rintro vs junk hh hI
    rcases hI with ⟨rfl,ta,tc,cs,hR,oh⟩|⟨rfl,ta,tc,cs,v,hR,oh⟩|⟨rfl,ta,tc,cs,v,w,hR,oh⟩|⟨rfl,ta,tc,cs,v,w,x,hR,oh⟩
    ·have e256:=hR.last
     have hlen:=hR.len;have p1:([10]:aBs)[(0:Int).toNat]?=some 10:=rfl;have p2:UInt8.toNat 10=10:=rfl;have eo:cs[10]?=some vX:=hR.at_ 10 zO;refine aDK (rR (idx aB aC (oh.rowArr 1 rfl) rfl zO zO ?_));refine rR (loadA (oh.rowArr 1 rfl) aC rfl a_ ?_);refine rR (aDk rfl rfl cE zO zA ?_);refine aR (rR (idx aB aC (oh.rowArr 1 rfl) rfl zO zO ?_));refine rR (loadA (oh.rowArr 1 rfl) aC rfl a_ ?_);refine fB jF ?_;refine rR (aDo fI.arr fI.el rfl rfl zO zO ?_);refine rR (aDu oh 2 rfl nI rfl zA ?_);refine rR (eqNil iH rfl rfl ?_);refine aDK (fB jF ?_);refine rR (aDu oh 2 rfl cS rfl zA ?_);refine lA oh iH ty5 λb121 m121 o121=>?_;refine rR (aDC (l:=[10]) (Own.boxArr zA 4 rfl rfl zD) iH int5 cE ?_);refine lA o121 aB aC λb130 m130 o130=>?_;refine aDI zA 3 rfl aB aC zD ((Own.boxArr zA 5 rfl (n:=1) (c:=1) rfl zD).toN) (by simp[Value.oneCell',jE]) (by simp[maxLen]) zS ?_;intro v132 m132 o132
     obtain⟨tb,td,rfl⟩:=o132.rowIs 3 rfl
     refine fB jF ?_;(refine aDF o132 2 rfl cS rfl (by simp only[aD1,aD2,aEg];omega) (aI ⟨rfl,rfl⟩ ?_);intro m134 o134);(refine RunVC.strBytes o134 cE iH int5 rfl ?_;intro v135 m135 o135);refine fB jF ?_;refine rR (aDo fI.arr fI.el rfl rfl zO zO ?_)
     obtain⟨ra,rc,rfl,-⟩:=o135.roArr 6 rfl
     (refine aDF o135 2 rfl nI rfl w_ (aI ⟨rfl,rfl⟩ ?_);intro m143 o143);refine aR ?_
     refine⟨rfl,?_⟩
     exact⟨.inr (.inl ⟨rfl,tb,td,_,_,(hR.setT (t':=.slice tb 1 td)).setV 10 zO,o_ [0,1,2,3,6]⟩),by decide⟩
    ·have e256:=hR.last
     have hlen:=hR.len;have p1:([92]:aBs)[(0:Int).toNat]?=some 92:=rfl;have p2:UInt8.toNat 92=92:=rfl;have eo:cs[92]?=some vX:=hR.at_ 92 zO;refine aDK (rR (idx aB aC (oh.rowArr 1 rfl) rfl zO zO ?_));refine rR (loadA (oh.rowArr 1 rfl) aC rfl a_ ?_);refine rR (aDk rfl rfl cE zO zA ?_);refine aR (rR (idx aB aC (oh.rowArr 1 rfl) rfl zO zO ?_));refine rR (loadA (oh.rowArr 1 rfl) aC rfl a_ ?_);refine fB jF ?_;refine rR (aDo fI.arr fI.el rfl rfl zO zO ?_);refine rR (aDu oh 2 rfl nI rfl zA ?_);refine rR (eqNil iH rfl rfl ?_);refine aDK (fB jF ?_);refine rR (aDu oh 2 rfl cS rfl zA ?_);refine lA oh iH ty5 λb161 m161 o161=>?_;refine rR (aDC (l:=[92]) (Own.boxArr zA 5 rfl rfl zD) iH int5 cE ?_);refine lA o161 aB aC λb180 m180 o180=>?_;refine aDI zA 3 rfl aB aC zD ((Own.boxArr zA 6 rfl (n:=1) (c:=1) rfl zD).toN) (by simp[Value.oneCell',jE]) (by simp[maxLen]) zS ?_;intro v182 m182 o182
     obtain⟨tb,td,rfl⟩:=o182.rowIs 3 rfl
     refine fB jF ?_;(refine aDF o182 2 rfl cS rfl (by simp only[aD1,aD2,aEg];omega) (aI ⟨rfl,rfl⟩ ?_);intro m184 o184);(refine RunVC.strBytes o184 cE iH int5 rfl ?_;intro v185 m185 o185);refine fB jF ?_;refine rR (aDo fI.arr fI.el rfl rfl zO zO ?_)
     obtain⟨ra,rc,rfl,-⟩:=o185.roArr 7 rfl
     (refine aDF o185 2 rfl nI rfl w_ (aI ⟨rfl,rfl⟩ ?_);intro m193 o193);refine aR ?_
     refine⟨rfl,?_⟩
     exact⟨.inr (.inr (.inl ⟨rfl,tb,td,_,_,_,(hR.setT (t':=.slice tb 2 td)).setV 92 zO,o_ [0,1,2,3,4,7]⟩)),by decide⟩
    ·have e256:=hR.last
     have hlen:=hR.len;have p1:([34]:aBs)[(0:Int).toNat]?=some 34:=rfl;have p2:UInt8.toNat 34=34:=rfl;have eo:cs[34]?=some vX:=hR.at_ 34 zO;refine aDK (rR (idx aB aC (oh.rowArr 1 rfl) rfl zO zO ?_));refine rR (loadA (oh.rowArr 1 rfl) aC rfl a_ ?_);refine rR (aDk rfl rfl cE zO zA ?_);refine aR (rR (idx aB aC (oh.rowArr 1 rfl) rfl zO zO ?_));refine rR (loadA (oh.rowArr 1 rfl) aC rfl a_ ?_);refine fB jF ?_;refine rR (aDo fI.arr fI.el rfl rfl zO zO ?_);refine rR (aDu oh 2 rfl nI rfl zA ?_);refine rR (eqNil iH rfl rfl ?_);refine aDK (fB jF ?_);refine rR (aDu oh 2 rfl cS rfl zA ?_);refine lA oh iH ty5 λb211 m211 o211=>?_;refine rR (aDC (l:=[34]) (Own.boxArr zA 6 rfl rfl zD) iH int5 cE ?_);refine lA o211 aB aC λb230 m230 o230=>?_;refine aDI zA 3 rfl aB aC zD ((Own.boxArr zA 7 rfl (n:=1) (c:=1) rfl zD).toN) (by simp[Value.oneCell',jE]) (by simp[maxLen]) zS ?_;intro v232 m232 o232
     obtain⟨tb,td,rfl⟩:=o232.rowIs 3 rfl
     refine fB jF ?_;(refine aDF o232 2 rfl cS rfl (by simp only[aD1,aD2,aEg];omega) (aI ⟨rfl,rfl⟩ ?_);intro m234 o234);(refine RunVC.strBytes o234 cE iH int5 rfl ?_;intro v235 m235 o235);refine fB jF ?_;refine rR (aDo fI.arr fI.el rfl rfl zO zO ?_)
     obtain⟨ra,rc,rfl,-⟩:=o235.roArr 8 rfl
     (refine aDF o235 2 rfl nI rfl w_ (aI ⟨rfl,rfl⟩ ?_);intro m243 o243);refine aR ?_
     refine⟨rfl,?_⟩
     exact⟨.inr (.inr (.inr ⟨rfl,tb,td,_,_,_,_,(hR.setT (t':=.slice tb 3 td)).setV 34 zO,o_ [0,1,2,3,4,5,8]⟩)),by decide⟩
    ·refine aDL ?_
     refine rR (aDE k_ rfl ?_);refine rO ?_
     exact⟨b90,cs,_,v,w,x,rfl,hR,oh⟩
def aAC (a:Option Addr)(c:Nat):aVs:=[.int .u32 0,.int .i32 0,.int .u32 0,.nilIface,.slice a 6 c]
theorem xI (v:Value)(h:Heap)(hA:Arr h v iL) :
  bG Tryz.prog 147 [v] h λr h'=>∃ b a c,r=pA b 0/\Own h [box b (aAC a c) 220,row (.slice a 6 c) 9 1 6 iL] h':=by
 have hol:iL.length=6:=rfl;have o0:=(Own.refl h).nilRow 9 1;refine eN Tryz.func147 Tryz.ntmps147 ?_;refine rR (aDv hA zA aB ?_);refine rR (remE rfl rfl zO zO ?_);refine aDL (aDI zA 0 rfl aB aC zD hA.toN (by simp[Value.oneCell',jE,iL]) (by simp[maxLen,iL]) (by simp[iL]) ?_);intro v20 m20 o20
 obtain⟨ta,tc,rfl⟩:=o20.rowIs 0 rfl
 refine rR (aDd aBU ?_);refine aI rfl ?_;refine xB o20 λb31 m31 o31=>?_;refine rO ?_
 exact⟨b31,ta,tc,rfl,o31.sel [1,0] rfl⟩
theorem aBl (B:Base)(b:Nat)(d st se r:Value)(a:Option Addr)(c:Nat)(h:Heap)
  (o0:Own B [box b [d,st,se,r,.slice a 6 c] 220,row (.slice a 6 c) 9 1 6 iL] h) :
  bG Tryz.prog 166 [pA b 0] h λres h'=>res=.tuple #[]/\∃ rb cs t v w x,RepC cs t (aCK v w x) /\
   Own B [box b [d,st,se,.iface 250 (pA rb 0),vX] 220,row (.slice a 6 c) 9 1 6 iL,box rb cs 249,row t 9 1 3 [jE [10],jE [92],jE [34]],ro v (bytes [92,110]),ro w (bytes [92,92]),ro x (bytes [92,34])] h':=by
 refine eN Tryz.func166 Tryz.ntmps166 ?_;refine aDN (build_spec B b d st se r a c _ o0) ?_;rintro _ h1 ⟨rb,cs,t,v,w,x,rfl,hR,o1⟩;refine cB ?_;refine fB aBU ?_;(refine sB o1 0 ty218 ?_;intro m22 o22);refine cB ?_;refine fB aBU ?_;(refine sB o22 0 cS ?_;intro m25 o25);refine aDS rfl ?_
 exact⟨rfl,rb,cs,t,v,w,x,hR,o_ [0,1,2,3,4,5,6]⟩
theorem aCj:∀(s:aBs),nS s=0->kO s=s
 | [],_=>rfl
 | c::s,h=>by
  unfold nS at h
  rw[List.countP_cons]at h
  have hc:spc c=false:=by
   cases hh:spc c with
   | false=>rfl
   | true=>rw[hh]at h;simp at h
  have ih:=aCj s (by unfold nS;omega);unfold kO at ih ⊢
  rw[aEf,ih,uZ hc]
  rfl
theorem aAQ:∀(s:aBs),nS s=s.count 10+s.count 92+s.count 34
 | []=>rfl
 | c::s=>by
  have ih:=aAQ s;unfold nS at ih ⊢
  rw[List.countP_cons,ih,List.count_cons,List.count_cons,List.count_cons]
  by_cases h1:c=34
  ·subst h1;simp[spc];omega
  ·by_cases h2:c=92
   ·subst h2;simp[spc];omega
   ·by_cases h3:c=10
    ·subst h3;simp[spc];omega
    ·simp[spc,h1,h2,h3]
theorem nS_take {s:aBs}{i:Nat}{c:UInt8}(h:s[i]?=some c):nS (s.take (i+1))=nS (s.take i)+(if spc c=true then 1 else 0):=by
 unfold nS
 rw[aEr,h,List.countP_append]
 simp[List.countP_cons]
theorem vC (s:aBs)(c:UInt8)(h:Heap):bG Tryz.prog 251 [sv s,sv [c]] h λr h'=>r=iv (s.count c)/\Own h [] h':=by
 refine⟨⟨_,Tryz.func251,rfl,by kernel_rfl⟩,λw hw=>?_⟩
 subst hw
 refine(Tryz.strings_Count_one ⟨⟨s⟩⟩ c w).mono ?_
 rintro e w' ⟨rfl,rfl⟩
 exact⟨.refl _,rfl,Own.refl _⟩
theorem tab_at {h:Heap}{v w x:Value}(hv:Arr h v (bytes [92,110]))(hw:Arr h w (bytes [92,92]))(hx:Arr h x (bytes [92,34]))(c:UInt8) :
  (spc c=false/\aCK v w x c.toNat=vX)∨(spc c=true/\∃ a cap,aCK v w x c.toNat=.slice (some a) 2 cap/\Arr h (.slice (some a) 2 cap) (bytes (zU c))):=by
 have two:∀(v:Value) (l:aBs),l.length=2->Arr h v (bytes l)->∃ a cap,v=.slice (some a) 2 cap/\Arr h (.slice (some a) 2 cap) (bytes l):=by
  intro v l hl hA
  obtain⟨a,cap,rfl,hc,r⟩:=hA
  have hbl:(bytes l).length=2:=by simp[bytes,hl]
  rw[hbl]at hc
  rcases r with r|⟨b,o,rfl,hcell⟩
  ·rw[r]at hbl;simp at hbl
  ·refine⟨_,cap,by rw[hbl],?_⟩
   exact⟨_,cap,by rw[hbl],by rw[hbl];exact hc,.inr ⟨b,o,rfl,hcell⟩⟩
 have inj:∀ {n:Nat},c.toNat=n->c=UInt8.ofNat n:=λh=>by rw[← h];simp
 unfold aCK aCM;by_cases h34:c.toNat=34
 ·have e:c=34:=inj h34
  subst e
  obtain⟨a,cap,rfl,hA⟩:=two x [92,34] rfl hx
  exact .inr ⟨by decide,a,cap,by rw[if_pos h34],hA⟩
 ·by_cases h92:c.toNat=92
  ·have e:c=92:=inj h92
   subst e
   obtain⟨a,cap,rfl,hA⟩:=two w [92,92] rfl hw
   exact .inr ⟨by decide,a,cap,by rw[if_neg h34,if_pos h92],hA⟩
  ·by_cases h10:c.toNat=10
   ·have e:c=10:=inj h10
    subst e
    obtain⟨a,cap,rfl,hA⟩:=two v [92,110] rfl hv
    exact .inr ⟨by decide,a,cap,by rw[if_neg h34,if_neg h92,if_pos h10],hA⟩
   ·refine .inl ⟨?_,by rw[if_neg h34,if_neg h92,if_neg h10]⟩
    unfold spc;refine decide_eq_false ?_
    rintro(rfl|rfl|rfl)
    ·exact h34 rfl
    ·exact h92 rfl
    ·exact h10 rfl
abbrev zB:Value:=.int .u8 0
theorem fillSet (A:aBs)(c:UInt8)(N:Nat)(h:A.length<N):(bytes A++List.replicate (N - A.length) zB).set A.length (.int .u8 c.toNat)=bytes (A++[c])++List.replicate (N - (A++[c]).length) zB:=by
 obtain⟨m,hm⟩:∃ m,N - A.length=m+1:=⟨N - A.length - 1,by omega⟩
 have hm2:N - (A++[c]).length=m:=by simp;omega
 have hl:(bytes A).length=A.length:=by simp[bytes]
 rw[hm,hm2,List.replicate_succ,← hl,List.set_append_right _ _ (aD6 _),Nat.sub_self]
 simp[bytes]
theorem fillCopy (A B:aBs)(N:Nat)(_h:A.length+B.length<=N) :
  (bytes A++List.replicate (N - A.length) zB).take A.length++bytes B++(bytes A++List.replicate (N - A.length) zB).drop (A.length+B.length)=bytes (A++B)++List.replicate (N - (A++B).length) zB:=by
 have hl:(bytes A).length=A.length:=by simp[bytes]
 rw[← hl,List.take_left,List.drop_append,aEt zO,hl,lnA,Nat.add_sub_cancel_left,List.drop_replicate,aDX,Nat.sub_sub]
 simp[bytes]
theorem aBm (rb:Nat)(t v w x:Value)(s:aBs)(h:Heap)(hl:s.length<=1000000)(ct:bI h ⟨rb,0+256,none⟩=some t)(hc:∀ i,i<256->bI h ⟨rb,i,none⟩=some (aCK v w x i))
  (hT:Arr h t [jE [10],jE [92],jE [34]]) (hv:Arr h v (bytes [92,110])) (hw:Arr h w (bytes [92,92])) (hx:Arr h x (bytes [92,34])) :
  bG Tryz.prog 249 [pA rb 0,sv s] h λr h'=>r=sv (kO s)/\Own h [] h':=by
 obtain⟨at_,tc,rfl,htc,-⟩:=id hT
 have hT2:Arr h (.slice at_ 3 tc) [jE [10],jE [92],jE [34]]:=hT;have o0:=Own.refl h;have hnle:nS s<=s.length:=List.countP_le_length;have hcs:∀ c:UInt8,bI h ⟨rb,0+0+((c.toNat:Nat):Int).toNat*1,none⟩=some (aCK v w x c.toNat):=λc=>by
  rw[show 0+0+((c.toNat:Nat):Int).toNat*1=c.toNat by simp]
  exact hc _ c.toNat_lt
 have hsp:∀ c:UInt8,spc c=true->∃ a cap,bI h ⟨rb,0+0+((c.toNat:Nat):Int).toNat*1,none⟩=some (.slice (some a) 2 cap):=λc hc=>by
  rcases tab_at hv hw hx c with ⟨h1,_⟩|⟨_,a,cap,he,_⟩
  ·rw[hc]at h1;cases h1
  ·exact⟨a,cap,by rw[hcs,he]⟩
 have hl3:[jE [10],jE [92],jE [34]].length=3:=rfl;have hns:=aAQ s;refine eN Tryz.func249 Tryz.ntmps249 ?_;refine rR (aDn rfl cE ?_);refine cB ?_;refine fB jF ?_;refine rR (load1 cS rfl zA ?_);refine lB aB ?_;refine aR (rR (aDn rfl cE ?_));refine Br.join [5,6,8,9,10,11,27,28,29,30,31,32,33,34,35,36,37,38,39,40,41,42,43,44,45,46,47,48,49,50,51,52,53,54,55,56,57,58,59,60,61,62,63,64,65,66,67,68,69,70,71,72,73,74,75,76,77,78,79,80] [5,6] (λvs hh=>vs=[iv (s.length+nS s:Nat),.bool (decide (nS s≠0))]/\Own h [] hh) rfl rfl ?_ ?_
 ·by_cases hlong:24<=s.length
  ·refine bB λc20=>?_
   refine cB ?_;refine fB jF ?_;refine rR (load1 cS rfl zA ?_);refine lB aB ?_;refine aDT [5,6,8,9,32,33,34,35,36,37,38,39,40,41,42,43,44,45,46,47,48,49,50,51,52,53,54] [5,6,32] (λvs hh=>∃(q n:Nat),vs=[.int .i64 (s.length+n:Nat),.bool (decide (n≠0)),.int .i64 q]/\(q=0/\n=0∨q=1/\n=s.count 10∨q=2/\n=s.count 10+s.count 92∨q=3/\n=s.count 10+s.count 92+s.count 34)/\Own h [] hh) (λvs _=>match vs with|[_,_,.int _ q]=>3 - q.toNat|_=>0) ?_ ?_
   ·exact⟨0,0,rfl,.inl ⟨rfl,rfl⟩,o0⟩
   ·rintro vs junk hh ⟨q,n,rfl,hq,oh⟩
    rcases hq with ⟨rfl,rfl⟩|⟨rfl,rfl⟩|⟨rfl,rfl⟩|⟨rfl,rfl⟩
    ·have p1:([10]:aBs)[(0:Int).toNat]?=some 10:=rfl
     have p2:UInt8.toNat 10=10:=rfl
     obtain⟨ga,gc,hcell⟩:=hsp 10 zD
     refine aDK (rR (idx aB aC (hT2.ext oh.ext) rfl zO zO ?_));refine rR (loadA (hT2.ext oh.ext) aC rfl a_ ?_);refine aDN (vC s 10 _) ?_;rintro _ h2 ⟨rfl,ob⟩;have o2:=oh.ext' ob;have hcl:s.count 10<=s.length:=List.count_le_length;by_cases hc0:s.count 10=0
     ·refine bC λc35=>?_
      refine aR ?_
      refine⟨rfl,?_⟩
      refine⟨⟨1,s.count 10,by simp[hc0],by simp[hc0],o2⟩,by simp⟩
     ·refine bD λc40=>?_
      refine d1_ [0,1,2,3,4,5,6,7,9,10,11,12,13] [8] [] [0,1,2,3,4,5,6,7,8,9,10,11,12,13] ?_;refine aDk rfl rfl cE zO zA ?_;refine nC rfl ?_;refine fC jF ?_;refine aDo fI.arr fI.el rfl rfl zO zO ?_;refine load1 nI rfl (o2.old hcell) ?_;refine aDz rfl iH ?_;refine aR (aR ?_);refine aR (aR ?_)
      refine⟨rfl,?_⟩
      refine⟨⟨1,s.count 10,?_,by simp,o2⟩,by simp⟩
      have hne:s.count 10≠0:=by omega
      simp only[List.cons.injEq,and_true,Value.int.injEq,true_and,Value.bool.injEq]
      exact⟨by omega,(decide_eq_true hne).symm,rfl⟩
    ·have p1:([92]:aBs)[(0:Int).toNat]?=some 92:=rfl
     have p2:UInt8.toNat 92=92:=rfl
     obtain⟨ga,gc,hcell⟩:=hsp 92 zD
     refine aDK (rR (idx aB aC (hT2.ext oh.ext) rfl zO zO ?_));refine rR (loadA (hT2.ext oh.ext) aC rfl a_ ?_);refine aDN (vC s 92 _) ?_;rintro _ h2 ⟨rfl,ob⟩;have o2:=oh.ext' ob;have hcl:s.count 92<=s.length:=List.count_le_length;by_cases hc0:s.count 92=0
     ·refine bC λc65=>?_
      refine aR ?_
      refine⟨rfl,?_⟩
      refine⟨⟨2,s.count 10+s.count 92,by simp[hc0],by simp[hc0],o2⟩,by simp⟩
     ·refine bD λc70=>?_
      refine d1_ [0,1,2,3,4,5,6,7,9,10,11,12,13] [8] [] [0,1,2,3,4,5,6,7,8,9,10,11,12,13] ?_;refine aDk rfl rfl cE zO zA ?_;refine nC rfl ?_;refine fC jF ?_;refine aDo fI.arr fI.el rfl rfl zO zO ?_;refine load1 nI rfl (o2.old hcell) ?_;refine aDz rfl iH ?_;refine aR (aR ?_);refine aR (aR ?_)
      refine⟨rfl,?_⟩
      refine⟨⟨2,s.count 10+s.count 92,?_,by simp,o2⟩,by simp⟩
      have hne:s.count 10+s.count 92≠0:=by omega
      simp only[List.cons.injEq,and_true,Value.int.injEq,true_and,Value.bool.injEq]
      exact⟨by omega,(decide_eq_true hne).symm,rfl⟩
    ·have p1:([34]:aBs)[(0:Int).toNat]?=some 34:=rfl
     have p2:UInt8.toNat 34=34:=rfl
     obtain⟨ga,gc,hcell⟩:=hsp 34 zD
     refine aDK (rR (idx aB aC (hT2.ext oh.ext) rfl zO zO ?_));refine rR (loadA (hT2.ext oh.ext) aC rfl a_ ?_);refine aDN (vC s 34 _) ?_;rintro _ h2 ⟨rfl,ob⟩;have o2:=oh.ext' ob;have hcl:s.count 34<=s.length:=List.count_le_length;by_cases hc0:s.count 34=0
     ·refine bC λc95=>?_
      refine aR ?_
      refine⟨rfl,?_⟩
      refine⟨⟨3,s.count 10+s.count 92+s.count 34,by simp[hc0],by simp[hc0],o2⟩,by simp⟩
     ·refine bD λc100=>?_
      refine d1_ [0,1,2,3,4,5,6,7,9,10,11,12,13] [8] [] [0,1,2,3,4,5,6,7,8,9,10,11,12,13] ?_;refine aDk rfl rfl cE zO zA ?_;refine nC rfl ?_;refine fC jF ?_;refine aDo fI.arr fI.el rfl rfl zO zO ?_;refine load1 nI rfl (o2.old hcell) ?_;refine aDz rfl iH ?_;refine aR (aR ?_);refine aR (aR ?_)
      refine⟨rfl,?_⟩
      refine⟨⟨3,s.count 10+s.count 92+s.count 34,?_,by simp,o2⟩,by simp⟩
      have hne:s.count 10+s.count 92+s.count 34≠0:=by omega
      simp only[List.cons.injEq,and_true,Value.int.injEq,true_and,Value.bool.injEq]
      exact⟨by omega,(decide_eq_true hne).symm,rfl⟩
    ·refine aDL ?_
     refine⟨rfl,?_⟩
     exact⟨by rw[aAQ],oh⟩
  ·refine bA λc120=>?_
   refine aDT [5,6,10,11,55,56,57,58,59,60,61,62,63,64,65,66,67,68,69,70,71,72,73,74,75,76,77,78,79,80] [5,6,10] (λvs hh=>∃(i:Nat),i<=s.length/\vs=[.int .i64 (s.length+nS (s.take i):Nat),.bool (decide (nS (s.take i)≠0)),.int .i64 i]/\Own h [] hh) (λvs _=>match vs with|[_,_,.int _ i]=>s.length - i.toNat|_=>0) ?_ ?_
   ·exact⟨0,by omega,rfl,o0⟩
   ·rintro vs junk hh ⟨i,hi,rfl,oh⟩
    have hnl:nS (s.take i)<=s.length:=aEc List.countP_le_length v_;by_cases hlt:i<s.length
    ·obtain⟨c,hcx⟩:=getx hlt
     have hn1:=nS_take hcx
     rcases tab_at hv hw hx c with ⟨hf,he⟩|⟨hf,ga,gc,he,_⟩
     ·have hcell:=hcs c
      rw[he]at hcell
      have hc256:=c.toNat_lt
      rw[hf]at hn1
      simp only[aD9,if_false,Nat.add_zero]at hn1
      refine rR (aDn rfl cE ?_);refine bB λc131=>rR (aDk rfl rfl cE zO zA ?_);refine cB ?_;refine fB jF ?_;refine rR (aDo fI.arr fI.el rfl rfl zO zO ?_);refine rR (load1 nI rfl (oh.old hcell) ?_);refine rR (neNil iH rfl rfl ?_);refine aDL (aR ?_)
      refine⟨rfl,?_⟩
      exact⟨⟨i+1,by omega,by rw[hn1];rfl,oh⟩,by simp;omega⟩
     ·have hcell:=hcs c
      rw[he]at hcell
      have hc256:=c.toNat_lt
      rw[hf]at hn1
      simp only[if_true]at hn1
      refine rR (aDn rfl cE ?_);refine bB λc151=>rR (aDk rfl rfl cE zO zA ?_);refine cB ?_;refine fB jF ?_;refine rR (aDo fI.arr fI.el rfl rfl zO zO ?_);refine rR (load1 nI rfl (oh.old hcell) ?_);refine rR (neNil iH rfl rfl ?_);refine Br.ttE (by first|omega|(simp;done)) ?_;refine cB ?_;refine fB jF ?_;refine rR (aDo fI.arr fI.el rfl rfl zO zO ?_);refine rR (load1 nI rfl (oh.old hcell) ?_);refine lB iH ?_;refine aR (aR ?_);refine aR ?_
      refine⟨rfl,?_⟩
      refine⟨⟨i+1,by omega,?_,oh⟩,by simp;omega⟩
      rw[hn1]
      simp only[List.cons.injEq,and_true,Value.int.injEq,true_and,Value.bool.injEq]
      exact⟨by omega,(decide_eq_true zO).symm,rfl⟩
    ·have e1:s.take i=s:=aEa zO
     rw[e1]
     refine rR (aDn rfl cE ?_);refine bA λc181=>?_
     refine⟨rfl,?_⟩
     exact⟨rfl,oh⟩
 ·rintro vs junk hh ⟨rfl,oh⟩
  by_cases hz:nS s=0
  ·rw[aCj s hz]
   refine bD λc220=>rO ?_
   exact⟨rfl,oh⟩
  ·refine bC λc240=>?_
   (refine RunVC.make oh iH ty5 rfl rfl zO zO zO ?_;intro b241 m241 o241);have hel:=aBd s;refine aDT [13,14,15,86,87,88,89,90,91,92,93,94,95,96,97,98,99,100,101,102,103,104,105,106,107,108,109,110,111,112,113,114,115,116,117,118,119] [13,14] (λvs hh=>∃(i:Nat),i<=s.length/\vs=[.int .i64 ((kO (s.take i)).length:Nat),.int .i64 i]/\Own h [box b241 (bytes (kO (s.take i))++List.replicate (s.length+nS s - (kO (s.take i)).length) (.int .u8 0)) 5] hh) (λvs _=>match vs with|[_,.int _ i]=>s.length - i.toNat|_=>0) ?_ ?_
   ·rw[Int.toNat_natCast]at o241
    exact⟨0,by omega,rfl,by simpa[kO,bytes] using o241⟩
   ·rintro vs junk h3 ⟨i,hi,rfl,o3⟩
    have hle:=nY s i;have hbl:(bytes (kO (s.take i))).length=(kO (s.take i)).length:=by simp[bytes]
    by_cases hlt:i<s.length
    ·obtain⟨c,hcx⟩:=getx hlt
     have ht1:=aCi hcx;have hle1:=nY s (i+1);have hc256:=c.toNat_lt
     rw[ht1,aDX]at hle1
     rcases tab_at hv hw hx c with ⟨hf,he⟩|⟨hf,ga,gc,he,hA⟩
     ·have hcell:=hcs c
      rw[he]at hcell
      have hl1:(zU c).length=1:=by rw[uZ hf];rfl
      generalize hoff:(kO (s.take i)).length=off at *
      refine rR (aDn rfl cE ?_);refine bB λc251=>rR (aDk rfl rfl cE zO zA ?_);refine cB ?_;refine fB jF ?_;refine rR (aDo fI.arr fI.el rfl rfl zO zO ?_);refine rR (load1 nI rfl (o3.old hcell) ?_);refine rR (neNil iH rfl rfl ?_);refine aDL (rR (idxB o3 0 rfl iH ty5 rfl rfl zO w_ ?_));(refine aDF o3 0 rfl ty5 rfl w_ (aI ⟨rfl,rfl⟩ ?_);intro m259 o259);refine aR (aR ?_)
      refine⟨rfl,?_⟩
      refine⟨⟨i+1,by omega,by rw[ht1,aDX,hl1,hoff];rfl,?_⟩,by simp;omega⟩
      have hfill:=fillSet (kO (s.take i)) c (s.length+nS s) zO
      rw[hoff]at hfill
      rw[ht1,uZ hf,← hfill]
      assumption
     ·have hcell:=hcs c
      rw[he]at hcell
      have hl2:(zU c).length=2:=by rw[esc1_len,hf];rfl
      generalize hoff:(kO (s.take i)).length=off at *
      have hbl2:(bytes (zU c)).length=2:=by simp[bytes,hl2]
      refine rR (aDn rfl cE ?_);refine bB λc301=>rR (aDk rfl rfl cE zO zA ?_);refine cB ?_;refine fB jF ?_;refine rR (aDo fI.arr fI.el rfl rfl zO zO ?_);refine rR (load1 nI rfl (o3.old hcell) ?_);refine rR (neNil iH rfl rfl ?_);refine Br.ttE (by first|omega|(simp;done)) ?_;refine d1_ [0,1,2,3,4,5,6,7,8,11,12] [9] [10] [0,1,2,3,4,5,6,7,8,9,10,11,12] ?_;refine sliceFB iH ty5 rfl rfl zO zO zO ?_;refine nC rfl ?_;refine fC jF ?_;refine aDo fI.arr fI.el rfl rfl zO zO ?_;refine load1 nI rfl (o3.old hcell) ?_;(refine RunVC.copyB o3 0 rfl iH ty5 rfl (hA.ext o3.ext) (by first|omega|(simp;done)|(simp;omega)) w_ w_ c_ ?_;intro m314 o314);refine aR (aR ?_)
      refine⟨rfl,?_⟩
      refine⟨⟨i+1,by omega,by rw[ht1,aDX,hl2,hbl2,hoff];rfl,?_⟩,by simp;omega⟩
      have hfill:=fillCopy (kO (s.take i)) (zU c) (s.length+nS s) zO
      rw[hoff,hl2]at hfill
      rw[ht1,← hfill]
      rw[hbl2]at *
      assumption
    ·have e1:s.take i=s:=aEa zO
     rw[e1,hel,Nat.sub_self,List.replicate_zero,aD7]at o3
     refine rR (aDn rfl cE ?_);refine bA λc351=>rR (aDC (l:=kO s) (Own.boxArr o3 0 rfl (by rw[Int.toNat_natCast];simp[bytes,hel]) (aD6 _)) iH int5 cE ?_);refine rO ?_
     exact⟨rfl,o3.sel [] rfl⟩
def RepF (cs2:aVs)(L2:List Item):Prop:=∃ rb cs t v w x,RepC cs t (aCK v w x)/\cs2=[.int .u32 0,.int .i32 1,.int .u32 0,.iface 250 (pA rb 0),vX] /\
 L2=[box rb cs 249,row t 9 1 3 [jE [10],jE [92],jE [34]],ro v (bytes [92,110]),ro w (bytes [92,92]),ro x (bytes [92,34])]
theorem aCJ (b:Nat)(a:Option Addr)(c:Nat)(B:Base)(s:aBs)(h:Heap)(hl:s.length<=1000000)
  (o0:Own B [box b (aAC a c) 220,row (.slice a 6 c) 9 1 6 iL] h) :
  bG Tryz.prog 148 [pA b 0,sv s] h λr h'=>r=sv (kO s)/\Own B [] h':=by
 refine eN Tryz.func148 Tryz.ntmps148 ?_;refine cB ?_;refine fB aBU ?_;refine rR (aDp ?_);refine aDN (do_spec ⟨B.h,[row (.slice a 6 c) 9 1 6 iL]++B.T⟩ b (aAC a c) (RepF) 220 166 [pA b 0] [] _ (o0.lend [0] [1] rfl) rfl rfl ?_) ?_
 ·intro h' o'
  refine(aBl B b (.int .u32 0) (.int .i32 1) (.int .u32 0) .nilIface a c h' o').mono ?_
  rintro _ h2 ⟨rfl,rb,cs,t,v,w,x,hR,o2⟩
  exact⟨rfl,_,_,⟨rb,cs,t,v,w,x,hR,rfl,rfl⟩,rfl,rfl,o2.lend [0,2,3,4,5,6] [1] rfl⟩
 ·rintro _ h1 ⟨rfl,_,_,⟨rb,cs,t,v,w,x,hR,rfl,rfl⟩,o1⟩
  have o1':Own ⟨B.h,[row (.slice a 6 c) 9 1 6 iL]++B.T⟩ [box b [.int .u32 1,.int .i32 0,.int .u32 0,.iface 250 (pA rb 0),vX] 220,box rb cs 249,row t 9 1 3 [jE [10],jE [92],jE [34]],ro v (bytes [92,110]),ro w (bytes [92,92]),ro x (bytes [92,34])] h1:=o1;clear o1;refine cB ?_;refine fB aBU ?_;refine oB o1' 0 ty218 ?_;refine RunVC.invokeR (g:=249) (full:=[pA rb 0,sv s]) rfl (λw=>by kernel_rfl) (aBm rb t v w x s _ hl ?_ ?_ (o1'.rowArr 2 rfl) (o1'.roArr 3 rfl) (o1'.roArr 4 rfl) (o1'.roArr 5 rfl)) ?_
  ·exact(o1'.cellB 1 rfl _).trans hR.last
  ·exact λi hi=>(o1'.cellB 1 rfl _).trans (hR.at_ i hi)
  ·rintro _ h2 ⟨rfl,o2⟩
   refine rO ?_
   refine⟨rfl,?_⟩
   have o3:=(o1'.sel [] rfl).ext' o2;exact Own.sel (L:=[row (.slice a 6 c) 9 1 6 iL]) o3 [] rfl
end Go.Proofs.YtohlogbnpfofpaaGreatDoor
