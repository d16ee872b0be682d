/- Part 5 of the proof of matches_lifted: FnPe, FnPf, FnPg, FnPh, FnPi, FnPj, FnPk, FnLexZ, FnPo, FnLo, FnLp, FnEx0, FnEx1. -/
import Derived.Test.YtohlogbnpfofpaaGreatDoorPX04
set_option linter.all false
set_option maxHeartbeats 100000000
set_option maxRecDepth 100000
namespace Go.Proofs.YtohlogbnpfofpaaGreatDoor
open Go StillVC
abbrev uH (L:List Item):List Item:=pick L [2,3,4,5,6,7,8,9]
theorem aCO {L:List Item}{x:Item}{k:Nat}(hk:L[k]?=some x):∀(js:List Nat),k∈js->x∈pick L js
 | [],h=>absurd h zS
 | j::js,h=>by
  simp only[pick]
  rcases aEd.1 h with rfl|h
  ·rw[hk];simp
  ·split
   ·exact List.mem_cons_of_mem _ (aCO hk js h)
   ·exact aCO hk js h
theorem PSpec.callL {α:Type}{g:FuncId}{args:Nat->aVs}{m:Nat->PM α}{V:α->Value->Prop}(sp:PSpec g args m V) {s:aVs}{h:Heap}{K:KK}{Q:QQ}{B:Base}{L:List Item}{bp z:Nat}{tk:Item}{w:Value}{ts:List Tok}
  (o:Own B L h) (e:pick L [0,1]=PSt bp z w tk) (hR:dC tk w ts) (hl:ts.length<=5000)
  (hret:∀ a r w' v h',m z ts=.ok (a,r)->V a v->r.length<=ts.length->dC tk w' r->Own B (PSt bp z w' tk++uH L) h'->K v false h')
  (hpan:∀ e w' h',m z ts=.error e->Own B (PSt bp z w' tk) h'->Q (.panic (mG e)) s h'):CallVC Tryz.prog g (args bp) s h K Q:=by
 have ol:=o.lend [0,1] [2,3,4,5,6,7,8,9] rfl
 rw[e]at ol
 exact sp.call ol hR hl (λa r w' v h' h1 h2 h3 h4 h5=>hret a r w' v h' h1 h2 h3 h4 h5.back) (λe w' h' h1 h2=>hpan e w' h' h1 (h2.back.sel [0,1] rfl))
theorem keepIn {B:Base}{L:List Item}{b:Nat}{t:TypeId}{ss:List aBs}(hk:∃ k∈[2,3,4,5,6,7,8,9],L[k]?=some (box b (strs ss) t)):tQ ⟨B.h,uH L++B.T⟩ (.slice (some ⟨b,0,none⟩) ss.length ss.length) ss:=by
 intro L' h o
 obtain⟨k,hj,hk⟩:=hk
 have hs:(box b (strs ss) t).sat h:=OwnR.sat o _ (List.mem_append_right _ (List.mem_append_left _ (aCO hk _ hj)))
 exact(xY (sz:=1) (by simp[strs]) (aD6 _) h hs).to1
theorem kW {ss:List aBs}{b:Nat}{t:TypeId}{s:aVs}{h:Heap}{K:KK}{Q:QQ}{B:Base}{L:List Item}{bp z:Nat}{tk:Item}{w:Value}{ts:List Tok}
  (o:Own B L h) (e:pick L [0,1]=PSt bp z w tk) (hk:∃ k∈[2,3,4,5,6,7,8,9],L[k]?=some (box b (strs ss) t)) (hR:dC tk w ts) (hl:ts.length<=5000) (hsl:ss.length<=100)
  (hret:∀ a r w' v h',iJ z ss 1 ts=.ok (a,r)->v=iv a->r.length<=ts.length->dC tk w' r->Own B (PSt bp z w' tk++uH L) h'->K v false h')
  (hpan:∀ e w' h',iJ z ss 1 ts=.error e->Own B (PSt bp z w' tk) h'->Q (.panic (mG e)) s h'):CallVC Tryz.prog 55 [pv bp 0,.slice (some ⟨b,0,none⟩) ss.length ss.length] s h K Q:=by
 have ol:=o.lend [0,1] [2,3,4,5,6,7,8,9] rfl
 rw[e]at ol
 exact PEnd.call (aAJ ss _ _ bp z tk w ts h (keepIn hk) ol hR hl hsl) (λa r w' v h' h1 h2 h3 h4 h5=>hret a r w' v h' h1 h2 h3 h4 h5.back) (λe w' h' h1 h2=>hpan e w' h' h1 (h2.back.sel [0,1] rfl))
theorem aW {ss:List aBs}{b:Nat}{t:TypeId}{s:aVs}{h:Heap}{K:KK}{Q:QQ}{B:Base}{L:List Item}{bp z:Nat}{tk:Item}{w:Value}{ts:List Tok}
  (o:Own B L h) (e:pick L [0,1]=PSt bp z w tk) (hk:∃ k∈[2,3,4,5,6,7,8,9],L[k]?=some (box b (strs ss) t)) (hR:dC tk w ts) (hl:ts.length<=5000) (hsl:ss.length<=100)
  (hret:∀ a r w' v h',cO z ss ts=.ok (a,r)->v=.tuple ⟨[]⟩->r.length<=ts.length->dC tk w' r->Own B (PSt bp z w' tk++uH L) h'->K v false h')
  (hpan:∀ e w' h',cO z ss ts=.error e->Own B (PSt bp z w' tk) h'->Q (.panic (mG e)) s h'):CallVC Tryz.prog 67 [pv bp 0,.slice (some ⟨b,0,none⟩) ss.length ss.length] s h K Q:=by
 have ol:=o.lend [0,1] [2,3,4,5,6,7,8,9] rfl
 rw[e]at ol
 exact PEnd.call (pneed_spec ss _ _ bp z tk w ts h (keepIn hk) ol hR hl hsl) (λa r w' v h' h1 h2 h3 h4 h5=>hret a r w' v h' h1 h2 h3 h4 h5.back) (λe w' h' h1 h2=>hpan e w' h' h1 (h2.back.sel [0,1] rfl))
theorem aAj:PSpec 141 (λbp=>[pv bp 0]) (λz=>wO z) (λx v=>v=vlV x):=by
 intro B bp z tk w ts h o hR hl;have hE:=congrFun (wO.eq_1 z) ts;refine eN Tryz.func141 Tryz.ntmps141 ?_;refine aDH o cG λb10 m10 o10=>?_;refine vZ.callL zA rfl hR zO (λa1 q1 w1 v h1 hm hv hle1 hR1 oq=>?_) (λe w' h' hm o2=>⟨e,w',hE.trans (aC9 hm),rfl,o2⟩)
 rw[aDa hm]at hE
 have o1:=oq
 simp only[PSt,pick,l_]at o1
 clear oq hm;cases a1 with
 | some x =>
  have hv:v=_:=hv;subst hv;refine aDH o1 cG λb20 m20 o20=>?_;(refine sA o20 3 cG ?_;intro m21 o21);refine aDL (nB o21 3 cG ?_);(refine sA o21 2 cG ?_;intro m23 o23)
  first|refine r1_ o23 2 cG ?_|refine r2_ o23 2 cG ?_
  exact⟨x,q1,w1,hE,rfl,by omega,hR1,o_ [0,1]⟩
 | none =>
  have hv:v=_:=hv;subst hv;refine aDH o1 cG λb30 m30 o30=>?_;(refine sA o30 3 cG ?_;intro m31 o31);refine aDK (aDO (mL 4 bp z _ _ _ (Own.cellB zA 0 rfl 0) (Own.cellB zA 0 rfl 1) (Own.reads zA 1 hR1.1 rfl)) (λ_ _ h=>h.elim) (λc h4 ⟨hc,ho⟩=>?_))
  exact⟨_,w1,hE,hc,(ho.thenE zA).sel [0,1] rfl⟩
theorem aBY:PSpec 159 (λbp=>[pv bp 0]) (λz=>aBZ z) (λx v=>v=.agg ⟨opdC x⟩):=by
 intro B bp z tk w ts h o hR hl;have hE:=congrFun (aBZ.eq_1 z) ts;refine eN Tryz.func159 Tryz.ntmps159 ?_;refine aDH o lE λb10 m10 o10=>?_;refine vZ.callL zA rfl hR zO (λa1 q1 w1 v h1 hm hv hle1 hR1 oq=>?_) (λe w' h' hm o2=>⟨e,w',hE.trans (aC9 hm),rfl,o2⟩)
 rw[aDa hm]at hE
 have o1:=oq
 simp only[PSt,pick,l_]at o1
 clear oq hm;cases a1 with
 | some x =>
  have hv:v=_:=hv;subst hv;refine aDH o1 cG λb20 m20 o20=>?_;(refine sA o20 3 cG ?_;intro m21 o21);refine aDK (nB o21 3 cG ?_);refine rR (aDd cY ?_);refine aI rfl ?_;refine aI rfl ?_;(refine sA o21 2 lE ?_;intro m24 o24)
  first|refine r1_ o24 2 lE ?_|refine r2_ o24 2 lE ?_
  exact⟨⟨[],[],true,x⟩,q1,w1,hE,rfl,by omega,hR1,o_ [0,1]⟩
 | none =>
  have hv:v=_:=hv;subst hv;dsimp only at hE;refine aDH o1 cG λb30 m30 o30=>?_;(refine sA o30 3 cG ?_;intro m31 o31);refine aDL (dA.callL zA rfl hR1 zO (λfirst q2 w2 v h2 hm hv hle2 hR2 oq=>?_) (λe w' h' hm o2=>⟨e,w',hE.trans (aC9 hm),rfl,o2⟩));subst hv
  rw[aDa hm]at hE
  have o2:=oq
  simp only[PSt,pick,l_]at o2
  clear oq hm
  refine(cZ [46]).callL zA rfl hR2 zO (λb q3 w3 v h3 hm hv hle3 hR3 oq=>?_) (λe w2 h2 hm o2=>absurd hm (dX _ _ e))
  subst hv
  rw[aDa hm]at hE
  have o3:=oq
  simp only[PSt,pick,l_]at o3
  clear oq hm;cases b with
  | true =>
   rw[if_pos rfl]at hE
   refine aDK (dA.callL zA rfl hR3 zO (λat_ q4 w4 v h4 hm hv hle4 hR4 oq=>?_) (λe w' h' hm o2=>⟨e,w',hE.trans (aC9 hm),rfl,o2⟩));subst hv
   rw[aDa hm]at hE
   have o4:=oq
   simp only[PSt,pick,l_]at o4
   clear oq hm;refine rR (aDd cY ?_);refine aI rfl ?_;refine aI rfl ?_;(refine sA o4 2 lE ?_;intro m61 o61)
   first|refine r1_ o61 2 lE ?_|refine r2_ o61 2 lE ?_
   exact⟨⟨first,at_,false,vl0⟩,q4,w4,hE,rfl,by omega,hR4,o_ [0,1]⟩
  | false =>
   rw[if_neg zD]at hE
   refine aDL (rR (aDd cY ?_));refine aI rfl ?_;(refine sA o3 2 lE ?_;intro m71 o71)
   first|refine r1_ o71 2 lE ?_|refine r2_ o71 2 lE ?_
   exact⟨⟨[],first,false,vl0⟩,q3,w3,hE,rfl,by omega,hR3,o_ [0,1]⟩
theorem cond_spec:PSpec 144 (λbp=>[pv bp 0]) (λz=>aCk z) (λx v=>v=.agg ⟨nN x⟩):=by
 intro B bp z tk w ts h o hR hl;have hE:=congrFun (aCk.eq_1 z) ts;refine eN Tryz.func144 Tryz.ntmps144 ?_;refine aDH o eB λb10 m10 o10=>?_;refine aBY.callL zA rfl hR zO (λsl q1 w1 v h1 hm hv hle1 hR1 oq=>?_) (λe w' h' hm o2=>⟨e,w',hE.trans (aC9 hm),rfl,o2⟩);subst hv
 rw[aDa hm]at hE
 have o1:=oq
 simp only[PSt,pick,l_]at o1
 clear oq hm;refine lA o1 aB aC λb20 m20 o20=>?_;refine kW (ss:=[[61],[33,61],[60],[60,61]]) zA rfl ⟨3,by decide,rfl⟩ hR1 zO zD (λop q2 w2 v h2 hm hv hle2 hR2 oq=>?_) (λe w' h' hm o2=>⟨e,w',hE.trans (aC9 hm),rfl,o2⟩);subst hv
 rw[aDa hm]at hE
 have o2:=oq
 simp only[PSt,pick,l_]at o2
 clear oq hm;refine aBY.callL zA rfl hR2 zO (λsr q3 w3 v h3 hm hv hle3 hR3 oq=>?_) (λe w' h' hm o2=>⟨e,w',hE.trans (aC9 hm),rfl,o2⟩);subst hv
 rw[aDa hm]at hE
 have o3:=oq
 simp only[PSt,pick,l_]at o3
 clear oq hm;refine rR (aDd fG ?_);refine aI rfl ?_;refine aI rfl ?_;refine aI rfl ?_;refine aDH o3 eB λb41 m41 o41=>?_;(refine sA o41 4 eB ?_;intro m42 o42)
 refine(cZ [43]).callL zA rfl hR3 zO (λb q4 w4 v h4 hm hv hle4 hR4 oq=>?_) (λe w2 h2 hm o2=>absurd hm (dX _ _ e))
 subst hv
 rw[aDa hm]at hE
 have o4:=oq
 simp only[PSt,pick,l_]at o4
 clear oq hm;cases b with
 | true =>
  rw[if_pos rfl]at hE
  refine aDK (cK.callL zA rfl hR4 zO (λn q5 w5 v h5 hm hv hle5 hR5 oq=>?_) (λe w' h' hm o2=>⟨e,w',hE.trans (aC9 hm),rfl,o2⟩))
  obtain⟨rfl,hv0_5,hv1_5⟩:=hv
  rw[aDa hm]at hE
  have o5:=oq
  simp only[PSt,pick,l_]at o5
  clear oq hm;refine fB fG ?_;(refine sB o5 4 aK ?_;intro m61 o61);refine nB o61 4 eB ?_;(refine sA o61 2 eB ?_;intro m63 o63)
  first|refine r1_ o63 2 eB ?_|refine r2_ o63 2 eB ?_
  exact⟨⟨sl,op,sr,n⟩,q5,w5,hE,rfl,by omega,hR5,o_ [0,1]⟩
 | false =>
  rw[if_neg zD]at hE
  refine aDL ?_
  refine(cZ [45]).callL zA rfl hR4 zO (λb q6 w6 v h6 hm hv hle6 hR6 oq=>?_) (λe w2 h2 hm o2=>absurd hm (dX _ _ e))
  subst hv
  rw[aDa hm]at hE
  have o6:=oq
  simp only[PSt,pick,l_]at o6
  clear oq hm;cases b with
  | true =>
   rw[if_pos rfl]at hE
   refine aDK (cK.callL zA rfl hR6 zO (λn q7 w7 v h7 hm hv hle7 hR7 oq=>?_) (λe w' h' hm o2=>⟨e,w',hE.trans (aC9 hm),rfl,o2⟩))
   obtain⟨rfl,hv0_7,hv1_7⟩:=hv
   rw[aDa hm]at hE
   have o7:=oq
   simp only[PSt,pick,l_]at o7
   clear oq hm;refine aR (fB fG ?_);(refine sB o7 4 aK ?_;intro m91 o91);refine nB o91 4 eB ?_;(refine sA o91 2 eB ?_;intro m93 o93)
   first|refine r1_ o93 2 eB ?_|refine r2_ o93 2 eB ?_
   exact⟨⟨sl,op,sr,-n⟩,q7,w7,hE,by simp[nN],by omega,hR7,o_ [0,1]⟩
  | false =>
   rw[if_neg zD]at hE
   refine aDL (nB o6 4 eB ?_);(refine sA o6 2 eB ?_;intro m101 o101)
   first|refine r1_ o101 2 eB ?_|refine r2_ o101 2 eB ?_
   exact⟨⟨sl,op,sr,0⟩,q6,w6,hE,rfl,by omega,hR6,o_ [0,1]⟩
theorem StillVC.aDB {α β γ:Type}(m:PM α)(f:α->PM β)(g:β->PM γ):(m >>= f) >>= g=m >>= λa=>f a >>= g:=by
 funext ts
 show(match (match m ts with|Except.error e=>Except.error e|Except.ok (a,r)=>f a r) with|Except.error e=>Except.error e|Except.ok (b,q)=>g b q)=(match m ts with|Except.error e=>Except.error e|Except.ok (a,r)=>(match f a r with|Except.error e=>Except.error e|Except.ok (b,q)=>g b q))
 cases m ts<;>rfl
theorem dP.callL {α:Type}{g:FuncId}{args:aVs}{s:aVs}{h:Heap}{K:KK}{Q:QQ}{B:Base}{L:List Item}{bp z:Nat}{tk:Item}{w:Value}{n:Nat}{res:Except (Int×Nat) (α×List Tok)}{V:α->Value->Item->Prop}
  (sp:∀ B':Base,Own B' (PSt bp z w tk) h->Spec Tryz.prog g args h (dP B' bp z tk n res V)) (o:Own B L h) (e:pick L [0,1]=PSt bp z w tk)
  (hret:∀ a r w' v I h',res=.ok (a,r)->V a v I->r.length<=n->dC tk w' r->Own B ([box bp [w',iv z] 72,tk,I]++uH L) h'->K v false h')
  (hpan:∀ e w' h',res=.error e->Own B (PSt bp z w' tk) h'->Q (.panic (mG e)) s h'):CallVC Tryz.prog g args s h K Q:=by
 have ol:=o.lend [0,1] [2,3,4,5,6,7,8,9] rfl
 rw[e]at ol
 exact dP.call (sp _ ol) (λa r w' v I h' h1 h2 h3 h4 h5=>hret a r w' v I h' h1 h2 h3 h4 h5.back) (λe w' h' h1 h2=>hpan e w' h' h1 (h2.back.sel [0,1] rfl))
theorem StillVC.aDm {α β:Type}(a:α)(f:α->PM β):(pure a:PM α) >>= f=f a:=rfl
theorem rC (B:Base)(bp z:Nat)(tk:Item)(w:Value)(ts:List Tok)(h:Heap)(o:Own B (PSt bp z w tk) h)(hR:dC tk w ts)(hl:ts.length<=5000) :
  Spec Tryz.prog 108 [pv bp 0] h (dP B bp z tk ts.length (sY z ts) (λl v I=>l.length<=5001/\I=row v 9 1 l.length (l.flatMap sD))):=by
 have hE:=congrFun (sY.eq_1 z) ts;refine eN Tryz.func108 Tryz.ntmps108 ?_;refine rR (aDp ?_);refine dP.callL (λB' o'=>listS_spec _ (λz=>gB z) dA [44] B' bp z tk _ _ _ o' hR zO) zA rfl (λa q wq v I h' hm hv hle hR' o2=>?_) (λe w' h' hm o2=>⟨e,w',hE.trans hm,rfl,o2⟩)
 obtain⟨hn,rfl⟩:=hv
 have o9:=o2
 simp only[PSt,pick,l_]at o9
 clear o2;refine rO ?_
 exact⟨a,q,wq,_,hE.trans hm,⟨hn,rfl⟩,by omega,hR',o_ [0,1,2]⟩
theorem aBg (B:Base)(bp z:Nat)(tk:Item)(w:Value)(ts:List Tok)(h:Heap)(o:Own B (PSt bp z w tk) h)(hR:dC tk w ts)(hl:ts.length<=5000) :
  Spec Tryz.prog 117 [pv bp 0] h (dP B bp z tk ts.length (vD z ts) (λl v I=>l.length<=5001/\I=row v 142 14 l.length (l.flatMap nN))):=by
 have hE:=congrFun (vD.eq_1 z) ts;refine eN Tryz.func117 Tryz.ntmps117 ?_;refine lA o aB aC λb10 m10 o10=>?_;refine aW (ss:=[[119,104,101,114,101]]) zA rfl ⟨2,by decide,rfl⟩ hR zO zD (λ_ q1 w1 v h1 hm hv hle1 hR1 oq=>?_) (λe w' h' hm o2=>⟨e,w',hE.trans (aC9 hm),rfl,o2⟩);subst hv
 rw[aDa hm]at hE
 have o1:=oq
 simp only[PSt,pick,l_]at o1
 clear oq hm;refine rR (aDp ?_);refine dP.callL (λB' o'=>listC_spec _ (λz=>aCk z) cond_spec [97,110,100] B' bp z tk _ _ _ o' hR1 zO) zA rfl (λa q wq v I h' hm hv hle hR' o2=>?_) (λe w' h' hm o2=>⟨e,w',hE.trans hm,rfl,o2⟩)
 obtain⟨hn,rfl⟩:=hv
 have o9:=o2
 simp only[PSt,pick,l_]at o9
 clear o2;refine rO ?_
 exact⟨a,q,wq,_,hE.trans hm,⟨hn,rfl⟩,by omega,hR',o_ [0,1,2]⟩
theorem fixed_spec:PSpec 114 (λbp=>[pv bp 0]) (λz=>xV z) (λx v=>v=.agg ⟨xH x⟩):=by
 intro B bp z tk w ts h o hR hl;have hE:=congrFun (xV.eq_1 z) ts;refine eN Tryz.func114 Tryz.ntmps114 ?_;refine aDH o oN λb10 m10 o10=>?_;refine dA.callL zA rfl hR zO (λnm q1 w1 v h1 hm hv hle1 hR1 oq=>?_) (λe w' h' hm o2=>⟨e,w',hE.trans (aC9 hm),rfl,o2⟩);subst hv
 rw[aDa hm]at hE
 have o1:=oq
 simp only[PSt,pick,l_]at o1
 clear oq hm;refine lA o1 aB aC λb20 m20 o20=>?_;refine aW (ss:=[[61]]) zA rfl ⟨3,by decide,rfl⟩ hR1 zO zD (λ_ q2 w2 v h2 hm hv hle2 hR2 oq=>?_) (λe w' h' hm o2=>⟨e,w',hE.trans (aC9 hm),rfl,o2⟩);subst hv
 rw[aDa hm]at hE
 have o2:=oq
 simp only[PSt,pick,l_]at o2
 clear oq hm;refine aAj.callL zA rfl hR2 zO (λx q3 w3 v h3 hm hv hle3 hR3 oq=>?_) (λe w' h' hm o2=>⟨e,w',hE.trans (aC9 hm),rfl,o2⟩);subst hv
 rw[aDa hm]at hE
 have o3:=oq
 simp only[PSt,pick,l_]at o3
 clear oq hm;refine rR (aDd wS ?_);refine aI rfl ?_;refine aI rfl ?_;(refine sA o3 2 oN ?_;intro m41 o41)
 first|refine r1_ o41 2 oN ?_|refine r2_ o41 2 oN ?_
 exact⟨⟨nm,x⟩,q3,w3,hE,rfl,by omega,hR3,o_ [0,1]⟩
theorem aBF:PSpec 116 (λbp=>[pv bp 0]) (λz=>varP z) (λx v=>v=.agg ⟨vrC x⟩):=by
 intro B bp z tk w ts h o hR hl;have hE:=congrFun (varP.eq_1 z) ts;refine eN Tryz.func116 Tryz.ntmps116 ?_;refine aDH o kT λb10 m10 o10=>?_;refine dA.callL zA rfl hR zO (λtb q1 w1 v h1 hm hv hle1 hR1 oq=>?_) (λe w' h' hm o2=>⟨e,w',hE.trans (aC9 hm),rfl,o2⟩);subst hv
 rw[aDa hm]at hE
 have o1:=oq
 simp only[PSt,pick,l_]at o1
 clear oq hm;refine dA.callL zA rfl hR1 zO (λnm q2 w2 v h2 hm hv hle2 hR2 oq=>?_) (λe w' h' hm o2=>⟨e,w',hE.trans (aC9 hm),rfl,o2⟩);subst hv
 rw[aDa hm]at hE
 have o2:=oq
 simp only[PSt,pick,l_]at o2
 clear oq hm;refine rR (aDd aAp ?_);refine aI rfl ?_;refine aI rfl ?_;(refine sA o2 2 kT ?_;intro m31 o31)
 first|refine r1_ o31 2 kT ?_|refine r2_ o31 2 kT ?_
 exact⟨⟨nm,tb⟩,q2,w2,hE,rfl,by omega,hR2,o_ [0,1]⟩
theorem column_spec:PSpec 107 (λbp=>[pv bp 0]) (λz=>uC z) (λx v=>v=.agg ⟨vE x⟩):=by
 intro B bp z tk w ts h o hR hl;have hE:=congrFun (uC.eq_1 z) ts;refine eN Tryz.func107 Tryz.ntmps107 ?_;refine aDH o eV λb10 m10 o10=>?_;refine dA.callL zA rfl hR zO (λnm q1 w1 v h1 hm hv hle1 hR1 oq=>?_) (λe w' h' hm o2=>⟨e,w',hE.trans (aC9 hm),rfl,o2⟩);subst hv
 rw[aDa hm]at hE
 have o1:=oq
 simp only[PSt,pick,l_]at o1
 clear oq hm;refine lA o1 aB aC λb20 m20 o20=>?_;refine kW (ss:=[[116,101,120,116],[110,117,109,98,101,114],[100,97,121],[102,108,97,103]]) zA rfl ⟨3,by decide,rfl⟩ hR1 zO zD (λkd q2 w2 v h2 hm hv hle2 hR2 oq=>?_) (λe w' h' hm o2=>⟨e,w',hE.trans (aC9 hm),rfl,o2⟩);subst hv
 rw[aDa hm]at hE
 have o2:=oq
 simp only[PSt,pick,l_]at o2
 clear oq hm;refine rR (aDd iG ?_);refine aI rfl ?_;refine aI rfl ?_;refine aDH o2 eV λb31 m31 o31=>?_;(refine sA o31 4 eV ?_;intro m32 o32)
 refine(cZ [61]).callL zA rfl hR2 zO (λb q3 w3 v h3 hm hv hle3 hR3 oq=>?_) (λe w2 h2 hm o2=>absurd hm (dX _ _ e))
 subst hv
 rw[aDa hm]at hE
 have o3:=oq
 simp only[PSt,pick,l_]at o3
 clear oq hm;cases b with
 | true =>
  rw[if_pos rfl]at hE
  refine aDK (aAj.callL zA rfl hR3 zO (λx q4 w4 v h4 hm hv hle4 hR4 oq=>?_) (λe w' h' hm o2=>⟨e,w',hE.trans (aC9 hm),rfl,o2⟩));subst hv
  rw[aDa hm]at hE
  have o4:=oq
  simp only[PSt,pick,l_]at o4
  clear oq hm;refine fB iG ?_;(refine sB o4 4 cG ?_;intro m51 o51);refine nB o51 4 eV ?_;(refine sA o51 2 eV ?_;intro m53 o53)
  first|refine r1_ o53 2 eV ?_|refine r2_ o53 2 eV ?_
  exact⟨⟨nm,kd,x⟩,q4,w4,hE,rfl,by omega,hR4,o_ [0,1]⟩
 | false =>
  rw[if_neg zD]at hE
  refine aDL (nB o3 4 eV ?_);(refine sA o3 2 eV ?_;intro m61 o61)
  first|refine r1_ o61 2 eV ?_|refine r2_ o61 2 eV ?_
  exact⟨⟨nm,kd,vl0⟩,q3,w3,hE,rfl,by omega,hR3,o_ [0,1]⟩
theorem qY:PSpec 110 (λbp=>[pv bp 0]) (λz=>sQ z) (λx v=>v=.tuple ⟨[sv x.1,sv x.2]⟩):=by
 intro B bp z tk w ts h o hR hl;have hE:=congrFun (sQ.eq_1 z) ts;refine eN Tryz.func110 Tryz.ntmps110 ?_;refine dA.callL zA rfl hR zO (λtb q1 w1 v h1 hm hv hle1 hR1 oq=>?_) (λe w' h' hm o2=>⟨e,w',hE.trans (aC9 hm),rfl,o2⟩);subst hv
 rw[aDa hm]at hE
 have o1:=oq
 simp only[PSt,pick,l_]at o1
 clear oq hm;refine lA o1 aB aC λb20 m20 o20=>?_;refine aW (ss:=[[46]]) zA rfl ⟨2,by decide,rfl⟩ hR1 zO zD (λ_ q2 w2 v h2 hm hv hle2 hR2 oq=>?_) (λe w' h' hm o2=>⟨e,w',hE.trans (aC9 hm),rfl,o2⟩);subst hv
 rw[aDa hm]at hE
 have o2:=oq
 simp only[PSt,pick,l_]at o2
 clear oq hm;refine dA.callL zA rfl hR2 zO (λat_ q3 w3 v h3 hm hv hle3 hR3 oq=>?_) (λe w' h' hm o2=>⟨e,w',hE.trans (aC9 hm),rfl,o2⟩);subst hv
 rw[aDa hm]at hE
 have o3:=oq
 simp only[PSt,pick,l_]at o3
 clear oq hm;refine RetVC.two rfl ?_
 exact⟨(tb,at_),q3,w3,hE,rfl,by omega,hR3,o_ [0,1]⟩
theorem term_spec:PSpec 112 (λbp=>[pv bp 0]) (λz=>yH z) (λx v=>v=.agg ⟨wP x⟩):=by
 intro B bp z tk w ts h o hR hl;have hE:=congrFun (yH.eq_1 z) ts;refine eN Tryz.func112 Tryz.ntmps112 ?_;refine aDH o cT λb10 m10 o10=>?_;refine dA.callL zA rfl hR zO (λnm q1 w1 v h1 hm hv hle1 hR1 oq=>?_) (λe w' h' hm o2=>⟨e,w',hE.trans (aC9 hm),rfl,o2⟩);subst hv
 rw[aDa hm]at hE
 have o1:=oq
 simp only[PSt,pick,l_]at o1
 clear oq hm;refine lA o1 aB aC λb20 m20 o20=>?_;refine kW (ss:=[[101,113,117,97,108],[101,100,105,116],[106,97,99,99,97,114,100],[106,97,114,111],[110,101,97,114]]) zA rfl ⟨3,by decide,rfl⟩ hR1 zO zD (λms q2 w2 v h2 hm hv hle2 hR2 oq=>?_) (λe w' h' hm o2=>⟨e,w',hE.trans (aC9 hm),rfl,o2⟩);subst hv
 rw[aDa hm]at hE
 have o2:=oq
 simp only[PSt,pick,l_]at o2
 clear oq hm;by_cases h5:ms=5
 ·rw[pO (by simp[h5])]at hE
  refine rR (aDd bO ?_);refine aI rfl ?_;refine aI rfl ?_;refine aDH o2 cT λb31 m31 o31=>?_;(refine sA o31 4 cT ?_;intro m32 o32);refine fB bO ?_;refine oB o32 4 aK ?_;refine bB λc35=>cK.callL zA rfl hR2 zO (λtol_ q3 w3 v h3 hm hv hle3 hR3 oq=>?_) (λe w' h' hm o2=>⟨e,w',hE.trans (aC9 hm),rfl,o2⟩)
  obtain⟨rfl,hv0_3,hv1_3⟩:=hv
  rw[aDa hm]at hE
  have o3:=oq
  simp only[PSt,pick,l_]at o3
  clear oq hm;refine fB bO ?_;(refine sB o3 4 aK ?_;intro m41 o41);refine lA o41 aB aC λb42 m42 o42=>?_;refine aW (ss:=[[108,101,97,115,116]]) zA rfl ⟨5,by decide,rfl⟩ hR3 zO zD (λ_ q4 w4 v h4 hm hv hle4 hR4 oq=>?_) (λe w' h' hm o2=>⟨e,w',hE.trans (aC9 hm),rfl,o2⟩);subst hv
  rw[aDa hm]at hE
  have o4:=oq
  simp only[PSt,pick,l_]at o4
  clear oq hm;refine cK.callL zA rfl hR4 zO (λnum_ q5 w5 v h5 hm hv hle5 hR5 oq=>?_) (λe w' h' hm o2=>⟨e,w',hE.trans (aC9 hm),rfl,o2⟩)
  obtain⟨rfl,hv0_5,hv1_5⟩:=hv
  rw[aDa hm]at hE
  have o5:=oq
  simp only[PSt,pick,l_]at o5
  clear oq hm;refine rR (aDd iK ?_);refine aI rfl ?_;refine aI rfl ?_;refine fB bO ?_;(refine sB o5 4 ty134 ?_;intro m62 o62)
  rw[aDB]at hE
  refine(cZ [47]).callL zA rfl hR5 zO (λb q6 w6 v h6 hm hv hle6 hR6 oq=>?_) (λe w2 h2 hm o2=>absurd hm (dX _ _ e))
  subst hv
  rw[aDa hm]at hE
  have o6:=oq
  simp only[PSt,pick,l_]at o6
  clear oq hm;cases b with
  | true =>
   rw[if_pos rfl]at hE
   refine aDK (cK.callL zA rfl hR6 zO (λden_ q7 w7 v h7 hm hv hle7 hR7 oq=>?_) (λe w' h' hm o2=>⟨e,w',hE.trans (aC9 hm),rfl,o2⟩))
   obtain⟨rfl,hv0_7,hv1_7⟩:=hv
   rw[aDa hm]at hE
   have o7:=oq
   simp only[PSt,pick,l_]at o7
   clear oq hm;refine fB bO ?_;refine fB iK ?_;(refine sB o7 4 aK ?_;intro m82 o82);refine lA o82 aB aC λb83 m83 o83=>?_;refine aW (ss:=[[103,105,118,101,115]]) zA rfl ⟨6,by decide,rfl⟩ hR7 zO zD (λ_ q8 w8 v h8 hm hv hle8 hR8 oq=>?_) (λe w' h' hm o2=>⟨e,w',hE.trans (aC9 hm),rfl,o2⟩);subst hv
   rw[aDa hm]at hE
   have o8:=oq
   simp only[PSt,pick,l_]at o8
   clear oq hm;refine cK.callL zA rfl hR8 zO (λgv q9 w9 v h9 hm hv hle9 hR9 oq=>?_) (λe w' h' hm o2=>⟨e,w',hE.trans (aC9 hm),rfl,o2⟩)
   obtain⟨rfl,hv0_9,hv1_9⟩:=hv
   rw[aDa hm]at hE
   have o9:=oq
   simp only[PSt,pick,l_]at o9
   clear oq hm;refine fB bO ?_;(refine sB o9 4 aK ?_;intro m101 o101)
   rw[aDB]at hE
   refine(cZ [116,97,107,101,115]).callL zA rfl hR9 zO (λb q10 w10 v h10 hm hv hle10 hR10 oq=>?_) (λe w2 h2 hm o2=>absurd hm (dX _ _ e))
   subst hv
   rw[aDa hm]at hE
   have o10:=oq
   simp only[PSt,pick,l_]at o10
   clear oq hm;cases b with
   | true =>
    rw[if_pos rfl]at hE
    refine aDK (cK.callL zA rfl hR10 zO (λtk_ q11 w11 v h11 hm hv hle11 hR11 oq=>?_) (λe w' h' hm o2=>⟨e,w',hE.trans (aC9 hm),rfl,o2⟩))
    obtain⟨rfl,hv0_11,hv1_11⟩:=hv
    rw[aDa hm]at hE
    have o11:=oq
    simp only[PSt,pick,l_]at o11
    clear oq hm;refine fB bO ?_;(refine sB o11 4 aK ?_;intro m121 o121);refine lA o121 aB aC λb122 m122 o122=>?_;refine aW (ss:=[[59]]) zA rfl ⟨7,by decide,rfl⟩ hR11 zO zD (λ_ q12 w12 v h12 hm hv hle12 hR12 oq=>?_) (λe w' h' hm o2=>⟨e,w',hE.trans (aC9 hm),rfl,o2⟩);subst hv
    rw[aDa hm]at hE
    have o12:=oq
    simp only[PSt,pick,l_]at o12
    clear oq hm;refine nB o12 4 cT ?_;(refine sA o12 2 cT ?_;intro m131 o131)
    first|refine r1_ o131 2 cT ?_|refine r2_ o131 2 cT ?_
    exact⟨⟨nm,ms,tol_,num_,den_,gv,tk_⟩,q12,w12,hE,rfl,by omega,hR12,o_ [0,1]⟩
   | false =>
    rw[if_neg zD]at hE
    refine aDL (lA o10 aB aC λb140 m140 o140=>?_)
    rw[aDm]at hE
    refine aW (ss:=[[59]]) zA rfl ⟨7,by decide,rfl⟩ hR10 zO zD (λ_ q13 w13 v h13 hm hv hle13 hR13 oq=>?_) (λe w' h' hm o2=>⟨e,w',hE.trans (aC9 hm),rfl,o2⟩);subst hv
    rw[aDa hm]at hE
    have o13:=oq
    simp only[PSt,pick,l_]at o13
    clear oq hm;refine nB o13 4 cT ?_;(refine sA o13 2 cT ?_;intro m151 o151)
    first|refine r1_ o151 2 cT ?_|refine r2_ o151 2 cT ?_
    exact⟨⟨nm,ms,tol_,num_,den_,gv,0⟩,q13,w13,hE,rfl,by omega,hR13,o_ [0,1]⟩
  | false =>
   rw[if_neg zD]at hE
   refine aDL (lA o6 aB aC λb160 m160 o160=>?_)
   rw[aDm]at hE
   refine aW (ss:=[[103,105,118,101,115]]) zA rfl ⟨6,by decide,rfl⟩ hR6 zO zD (λ_ q14 w14 v h14 hm hv hle14 hR14 oq=>?_) (λe w' h' hm o2=>⟨e,w',hE.trans (aC9 hm),rfl,o2⟩);subst hv
   rw[aDa hm]at hE
   have o14:=oq
   simp only[PSt,pick,l_]at o14
   clear oq hm;refine cK.callL zA rfl hR14 zO (λgv q15 w15 v h15 hm hv hle15 hR15 oq=>?_) (λe w' h' hm o2=>⟨e,w',hE.trans (aC9 hm),rfl,o2⟩)
   obtain⟨rfl,hv0_15,hv1_15⟩:=hv
   rw[aDa hm]at hE
   have o15:=oq
   simp only[PSt,pick,l_]at o15
   clear oq hm;refine fB bO ?_;(refine sB o15 4 aK ?_;intro m181 o181)
   rw[aDB]at hE
   refine(cZ [116,97,107,101,115]).callL zA rfl hR15 zO (λb q16 w16 v h16 hm hv hle16 hR16 oq=>?_) (λe w2 h2 hm o2=>absurd hm (dX _ _ e))
   subst hv
   rw[aDa hm]at hE
   have o16:=oq
   simp only[PSt,pick,l_]at o16
   clear oq hm;cases b with
   | true =>
    rw[if_pos rfl]at hE
    refine aDK (cK.callL zA rfl hR16 zO (λtk_ q17 w17 v h17 hm hv hle17 hR17 oq=>?_) (λe w' h' hm o2=>⟨e,w',hE.trans (aC9 hm),rfl,o2⟩))
    obtain⟨rfl,hv0_17,hv1_17⟩:=hv
    rw[aDa hm]at hE
    have o17:=oq
    simp only[PSt,pick,l_]at o17
    clear oq hm;refine fB bO ?_;(refine sB o17 4 aK ?_;intro m201 o201);refine lA o201 aB aC λb202 m202 o202=>?_;refine aW (ss:=[[59]]) zA rfl ⟨7,by decide,rfl⟩ hR17 zO zD (λ_ q18 w18 v h18 hm hv hle18 hR18 oq=>?_) (λe w' h' hm o2=>⟨e,w',hE.trans (aC9 hm),rfl,o2⟩);subst hv
    rw[aDa hm]at hE
    have o18:=oq
    simp only[PSt,pick,l_]at o18
    clear oq hm;refine nB o18 4 cT ?_;(refine sA o18 2 cT ?_;intro m211 o211)
    first|refine r1_ o211 2 cT ?_|refine r2_ o211 2 cT ?_
    exact⟨⟨nm,ms,tol_,num_,1,gv,tk_⟩,q18,w18,hE,rfl,by omega,hR18,o_ [0,1]⟩
   | false =>
    rw[if_neg zD]at hE
    refine aDL (lA o16 aB aC λb220 m220 o220=>?_)
    rw[aDm]at hE
    refine aW (ss:=[[59]]) zA rfl ⟨7,by decide,rfl⟩ hR16 zO zD (λ_ q19 w19 v h19 hm hv hle19 hR19 oq=>?_) (λe w' h' hm o2=>⟨e,w',hE.trans (aC9 hm),rfl,o2⟩);subst hv
    rw[aDa hm]at hE
    have o19:=oq
    simp only[PSt,pick,l_]at o19
    clear oq hm;refine nB o19 4 cT ?_;(refine sA o19 2 cT ?_;intro m231 o231)
    first|refine r1_ o231 2 cT ?_|refine r2_ o231 2 cT ?_
    exact⟨⟨nm,ms,tol_,num_,1,gv,0⟩,q19,w19,hE,rfl,by omega,hR19,o_ [0,1]⟩
 ·rw[tH (by simp[h5]),aDm]at hE
  refine rR (aDd bO ?_);refine aI rfl ?_;refine aI rfl ?_;refine aDH o2 cT λb241 m241 o241=>?_;(refine sA o241 4 cT ?_;intro m242 o242);refine fB bO ?_;refine oB o242 4 aK ?_;refine bA λc245=>lA o242 aB aC λb246 m246 o246=>?_;refine aW (ss:=[[108,101,97,115,116]]) zA rfl ⟨5,by decide,rfl⟩ hR2 zO zD (λ_ q20 w20 v h20 hm hv hle20 hR20 oq=>?_) (λe w' h' hm o2=>⟨e,w',hE.trans (aC9 hm),rfl,o2⟩);subst hv
  rw[aDa hm]at hE
  have o20:=oq
  simp only[PSt,pick,l_]at o20
  clear oq hm;refine cK.callL zA rfl hR20 zO (λnum_ q21 w21 v h21 hm hv hle21 hR21 oq=>?_) (λe w' h' hm o2=>⟨e,w',hE.trans (aC9 hm),rfl,o2⟩)
  obtain⟨rfl,hv0_21,hv1_21⟩:=hv
  rw[aDa hm]at hE
  have o21:=oq
  simp only[PSt,pick,l_]at o21
  clear oq hm;refine rR (aDd iK ?_);refine aI rfl ?_;refine aI rfl ?_;refine fB bO ?_;(refine sB o21 4 ty134 ?_;intro m262 o262)
  rw[aDB]at hE
  refine(cZ [47]).callL zA rfl hR21 zO (λb q22 w22 v h22 hm hv hle22 hR22 oq=>?_) (λe w2 h2 hm o2=>absurd hm (dX _ _ e))
  subst hv
  rw[aDa hm]at hE
  have o22:=oq
  simp only[PSt,pick,l_]at o22
  clear oq hm;cases b with
  | true =>
   rw[if_pos rfl]at hE
   refine aDK (cK.callL zA rfl hR22 zO (λden_ q23 w23 v h23 hm hv hle23 hR23 oq=>?_) (λe w' h' hm o2=>⟨e,w',hE.trans (aC9 hm),rfl,o2⟩))
   obtain⟨rfl,hv0_23,hv1_23⟩:=hv
   rw[aDa hm]at hE
   have o23:=oq
   simp only[PSt,pick,l_]at o23
   clear oq hm;refine fB bO ?_;refine fB iK ?_;(refine sB o23 4 aK ?_;intro m282 o282);refine lA o282 aB aC λb283 m283 o283=>?_;refine aW (ss:=[[103,105,118,101,115]]) zA rfl ⟨6,by decide,rfl⟩ hR23 zO zD (λ_ q24 w24 v h24 hm hv hle24 hR24 oq=>?_) (λe w' h' hm o2=>⟨e,w',hE.trans (aC9 hm),rfl,o2⟩);subst hv
   rw[aDa hm]at hE
   have o24:=oq
   simp only[PSt,pick,l_]at o24
   clear oq hm;refine cK.callL zA rfl hR24 zO (λgv q25 w25 v h25 hm hv hle25 hR25 oq=>?_) (λe w' h' hm o2=>⟨e,w',hE.trans (aC9 hm),rfl,o2⟩)
   obtain⟨rfl,hv0_25,hv1_25⟩:=hv
   rw[aDa hm]at hE
   have o25:=oq
   simp only[PSt,pick,l_]at o25
   clear oq hm;refine fB bO ?_;(refine sB o25 4 aK ?_;intro m301 o301)
   rw[aDB]at hE
   refine(cZ [116,97,107,101,115]).callL zA rfl hR25 zO (λb q26 w26 v h26 hm hv hle26 hR26 oq=>?_) (λe w2 h2 hm o2=>absurd hm (dX _ _ e))
   subst hv
   rw[aDa hm]at hE
   have o26:=oq
   simp only[PSt,pick,l_]at o26
   clear oq hm;cases b with
   | true =>
    rw[if_pos rfl]at hE
    refine aDK (cK.callL zA rfl hR26 zO (λtk_ q27 w27 v h27 hm hv hle27 hR27 oq=>?_) (λe w' h' hm o2=>⟨e,w',hE.trans (aC9 hm),rfl,o2⟩))
    obtain⟨rfl,hv0_27,hv1_27⟩:=hv
    rw[aDa hm]at hE
    have o27:=oq
    simp only[PSt,pick,l_]at o27
    clear oq hm;refine fB bO ?_;(refine sB o27 4 aK ?_;intro m321 o321);refine lA o321 aB aC λb322 m322 o322=>?_;refine aW (ss:=[[59]]) zA rfl ⟨7,by decide,rfl⟩ hR27 zO zD (λ_ q28 w28 v h28 hm hv hle28 hR28 oq=>?_) (λe w' h' hm o2=>⟨e,w',hE.trans (aC9 hm),rfl,o2⟩);subst hv
    rw[aDa hm]at hE
    have o28:=oq
    simp only[PSt,pick,l_]at o28
    clear oq hm;refine nB o28 4 cT ?_;(refine sA o28 2 cT ?_;intro m331 o331)
    first|refine r1_ o331 2 cT ?_|refine r2_ o331 2 cT ?_
    exact⟨⟨nm,ms,0,num_,den_,gv,tk_⟩,q28,w28,hE,rfl,by omega,hR28,o_ [0,1]⟩
   | false =>
    rw[if_neg zD]at hE
    refine aDL (lA o26 aB aC λb340 m340 o340=>?_)
    rw[aDm]at hE
    refine aW (ss:=[[59]]) zA rfl ⟨7,by decide,rfl⟩ hR26 zO zD (λ_ q29 w29 v h29 hm hv hle29 hR29 oq=>?_) (λe w' h' hm o2=>⟨e,w',hE.trans (aC9 hm),rfl,o2⟩);subst hv
    rw[aDa hm]at hE
    have o29:=oq
    simp only[PSt,pick,l_]at o29
    clear oq hm;refine nB o29 4 cT ?_;(refine sA o29 2 cT ?_;intro m351 o351)
    first|refine r1_ o351 2 cT ?_|refine r2_ o351 2 cT ?_
    exact⟨⟨nm,ms,0,num_,den_,gv,0⟩,q29,w29,hE,rfl,by omega,hR29,o_ [0,1]⟩
  | false =>
   rw[if_neg zD]at hE
   refine aDL (lA o22 aB aC λb360 m360 o360=>?_)
   rw[aDm]at hE
   refine aW (ss:=[[103,105,118,101,115]]) zA rfl ⟨6,by decide,rfl⟩ hR22 zO zD (λ_ q30 w30 v h30 hm hv hle30 hR30 oq=>?_) (λe w' h' hm o2=>⟨e,w',hE.trans (aC9 hm),rfl,o2⟩);subst hv
   rw[aDa hm]at hE
   have o30:=oq
   simp only[PSt,pick,l_]at o30
   clear oq hm;refine cK.callL zA rfl hR30 zO (λgv q31 w31 v h31 hm hv hle31 hR31 oq=>?_) (λe w' h' hm o2=>⟨e,w',hE.trans (aC9 hm),rfl,o2⟩)
   obtain⟨rfl,hv0_31,hv1_31⟩:=hv
   rw[aDa hm]at hE
   have o31:=oq
   simp only[PSt,pick,l_]at o31
   clear oq hm;refine fB bO ?_;(refine sB o31 4 aK ?_;intro m381 o381)
   rw[aDB]at hE
   refine(cZ [116,97,107,101,115]).callL zA rfl hR31 zO (λb q32 w32 v h32 hm hv hle32 hR32 oq=>?_) (λe w2 h2 hm o2=>absurd hm (dX _ _ e))
   subst hv
   rw[aDa hm]at hE
   have o32:=oq
   simp only[PSt,pick,l_]at o32
   clear oq hm;cases b with
   | true =>
    rw[if_pos rfl]at hE
    refine aDK (cK.callL zA rfl hR32 zO (λtk_ q33 w33 v h33 hm hv hle33 hR33 oq=>?_) (λe w' h' hm o2=>⟨e,w',hE.trans (aC9 hm),rfl,o2⟩))
    obtain⟨rfl,hv0_33,hv1_33⟩:=hv
    rw[aDa hm]at hE
    have o33:=oq
    simp only[PSt,pick,l_]at o33
    clear oq hm;refine fB bO ?_;(refine sB o33 4 aK ?_;intro m401 o401);refine lA o401 aB aC λb402 m402 o402=>?_;refine aW (ss:=[[59]]) zA rfl ⟨7,by decide,rfl⟩ hR33 zO zD (λ_ q34 w34 v h34 hm hv hle34 hR34 oq=>?_) (λe w' h' hm o2=>⟨e,w',hE.trans (aC9 hm),rfl,o2⟩);subst hv
    rw[aDa hm]at hE
    have o34:=oq
    simp only[PSt,pick,l_]at o34
    clear oq hm;refine nB o34 4 cT ?_;(refine sA o34 2 cT ?_;intro m411 o411)
    first|refine r1_ o411 2 cT ?_|refine r2_ o411 2 cT ?_
    exact⟨⟨nm,ms,0,num_,1,gv,tk_⟩,q34,w34,hE,rfl,by omega,hR34,o_ [0,1]⟩
   | false =>
    rw[if_neg zD]at hE
    refine aDL (lA o32 aB aC λb420 m420 o420=>?_)
    rw[aDm]at hE
    refine aW (ss:=[[59]]) zA rfl ⟨7,by decide,rfl⟩ hR32 zO zD (λ_ q35 w35 v h35 hm hv hle35 hR35 oq=>?_) (λe w' h' hm o2=>⟨e,w',hE.trans (aC9 hm),rfl,o2⟩);subst hv
    rw[aDa hm]at hE
    have o35:=oq
    simp only[PSt,pick,l_]at o35
    clear oq hm;refine nB o35 4 cT ?_;(refine sA o35 2 cT ?_;intro m431 o431)
    first|refine r1_ o431 2 cT ?_|refine r2_ o431 2 cT ?_
    exact⟨⟨nm,ms,0,num_,1,gv,0⟩,q35,w35,hE,rfl,by omega,hR35,o_ [0,1]⟩
abbrev aP:Value:=.slice none 0 0
def zG (kind:Int)(table:aBs)(vk vc vn:Value)(attr as_:aBs)(agg:Int)(off:Nat):aVs :=
 [iv kind,sv table,vk,vc,vn,sv attr,sv as_,iv agg,iv off]
abbrev dG:={c:aVs // c.length=9}
mutual
def nK (I:Item)(c:aVs):Ex->Prop
 | .mk kind table kids conds names attr as_ agg off=>∃ vk vc vn,c=zG kind table vk vc vn attr as_ agg off /\
   Reads I 14 vc conds.length (conds.flatMap nN)/\Reads I 1 vn names.length (names.flatMap sD)/\∃ xs:List dG,Reads I 9 vk kids.length (xs.flatMap Subtype.val)/\tK I xs kids
def tK (I:Item):List dG->List Ex->Prop
 | [],[]=>True
 | c::cs,x::xs=>nK I c.1 x/\tK I cs xs
 | _,_=>False
end
theorem Reads.mono {I J:Item}{sz n:Nat}{v:Value}{xs:aVs}(r:Reads I sz v n xs)(hm:∀ h,J.sat h->I.sat h):Reads J sz v n xs:=λh s=>r h (hm h s)
mutual
theorem nK.mono {I J:Item}(hm:∀ h,J.sat h->I.sat h):∀(x:Ex)(c:aVs),nK I c x->nK J c x
 | .mk kind table kids conds names attr as_ agg off,c,h=>by
  rw[nK]at h ⊢
  obtain⟨vk,vc,vn,h1,h2,h3,xs,h4,h5⟩:=h
  exact⟨vk,vc,vn,h1,h2.mono hm,h3.mono hm,xs,h4.mono hm,tK.mono hm kids xs h5⟩
theorem tK.mono {I J:Item}(hm:∀ h,J.sat h->I.sat h):∀(xs:List Ex)(cs:List dG),tK I cs xs->tK J cs xs
 | [],[],_=>trivial
 | x::xs,c::cs,h=>by
  rw[tK]at h ⊢
  exact⟨nK.mono hm x c.1 h.1,tK.mono hm xs cs h.2⟩
 | [],_::_,h=>(by rw[tK]at h;exact h.elim;all_goals simp)
 | _::_,[],h=>(by rw[tK]at h;exact h.elim;all_goals simp)
end
theorem jT (I:Item):nK I (zG 0 [] aP aP aP [] [] 0 0) ex0:=by
 unfold ex0
 rw[nK]
 exact⟨_,_,_,rfl,aT,aT,[],aT,trivial⟩
def itC (x:It)(vc vn vt vf vv vd:Value)(e0 e1 e2 e3 e4 e5 e6 e7 e8:Value):aVs :=
 [iv x.kind,sv x.name,iv x.off,sv x.table,sv x.attr,vc,vn,iv x.by_,iv x.n,iv x.m,vt,sv x.other,sv x.oattr,vf,vv,vd,e0,e1,e2,e3,e4,e5,e6,e7,e8]
def itR (I:Item)(c:aVs)(x:It):Prop:=∃ vc vn vt vf vv vd e0 e1 e2 e3 e4 e5 e6 e7 e8,c=itC x vc vn vt vf vv vd e0 e1 e2 e3 e4 e5 e6 e7 e8 /\
 Reads I 5 vc x.cols.length (x.cols.flatMap vE)/\Reads I 1 vn x.names.length (x.names.flatMap sD)/\Reads I 7 vt x.terms.length (x.terms.flatMap wP) /\
 Reads I 4 vf x.fixed.length (x.fixed.flatMap xH)/\Reads I 2 vv x.vars.length (x.vars.flatMap vrC)/\Reads I 14 vd x.conds.length (x.conds.flatMap nN)/\nK I [e0,e1,e2,e3,e4,e5,e6,e7,e8] x.expr
def x0 (kd:Int)(nm:aBs)(off:Nat):It:={ uJ with kind:=kd,name:=nm,off:=off }
abbrev nX (kd:Int)(nm:aBs)(off:Nat):aVs :=
 [iv kd,sv nm,iv off,sv [],sv [],aP,aP,iv 0,iv 0,iv 0,aP,sv [],sv [],aP,aP,aP,iv 0,sv [],aP,aP,aP,sv [],sv [],iv 0,iv 0]
def jJ (B:Base)(bp z:Nat)(tk:Item)(bx:Nat)(n:Nat)(res:Except (Int×Nat) (It×List Tok)):Ending->Heap->Prop :=
 Ends (λv h'=>∃ x r w c I,res=.ok (x,r)/\v=.tuple ⟨[]⟩/\itR I c x/\r.length<=n/\dC tk w r/\Own B [box bp [w,iv z] 72,tk,box bx c 44,I] h')
  (λc h'=>∃ e w,res=.error e/\c=mG e/\Own B (PSt bp z w tk) h')
theorem Own.empty3 {B:Base}{x y z:Item}{h:Heap}(o:Own B [x,y,z] h):Own B [x,y,z,iV] h:=o.emptyI'.sel [1,2,3,0] rfl
theorem source_part (kd:Int)(nm:aBs)(off:Nat)(B:Base)(bp z:Nat)(tk:Item)(bx:Nat)(w:Value)(ts:List Tok)(h:Heap)(o:Own B [box bp [w,iv z] 72,tk,box bx (nX kd nm off) 44] h)(hR:dC tk w ts)(hl:ts.length<=5000) :
  Spec Tryz.prog 58 [pv bp 0,pv bx 0] h (jJ B bp z tk bx ts.length (aCz z (x0 kd nm off) ts)):=by
 have hE:=congrFun (aCz.eq_1 z (x0 kd nm off)) ts;unfold nX at o;refine eN Tryz.func58 Tryz.ntmps58 ?_;refine lA o aB aC λb10 m10 o10=>?_;refine aW (ss:=[[116,114,117,115,116]]) zA rfl ⟨3,by decide,rfl⟩ hR zO zD (λ_ q1 w1 v h1 hm hv hle1 hR1 oq=>?_) (λe w' h' hm o2=>⟨e,w',hE.trans (aC9 hm),rfl,o2⟩);subst hv
 rw[aDa hm]at hE
 have o1:=oq
 simp only[PSt,pick,l_]at o1
 clear oq hm;refine cK.callL zA rfl hR1 zO (λn_ q2 w2 v h2 hm hv hle2 hR2 oq=>?_) (λe w' h' hm o2=>⟨e,w',hE.trans (aC9 hm),rfl,o2⟩)
 obtain⟨rfl,hv0_2,hv1_2⟩:=hv
 rw[aDa hm]at hE
 have o2:=oq
 simp only[PSt,pick,l_]at o2
 clear oq hm;refine cB ?_;refine fB aA ?_;(refine sB o2 2 aK ?_;intro m32 o32);refine aDS rfl ?_
 exact⟨_,q2,w2,_,iV,hE,rfl,⟨_,_,_,_,_,_,_,_,_,_,_,_,_,_,_,rfl,aT,aT,aT,aT,aT,aT,jT _⟩,by omega,hR2,(o_ [0,1,2]).empty3⟩
theorem keep_part (kd:Int)(nm:aBs)(off:Nat)(B:Base)(bp z:Nat)(tk:Item)(bx:Nat)(w:Value)(ts:List Tok)(h:Heap)(o:Own B [box bp [w,iv z] 72,tk,box bx (nX kd nm off) 44] h)(hR:dC tk w ts)(hl:ts.length<=5000) :
  Spec Tryz.prog 61 [pv bp 0,pv bx 0] h (jJ B bp z tk bx ts.length (keepP z (x0 kd nm off) ts)):=by
 have hE:=congrFun (keepP.eq_1 z (x0 kd nm off)) ts;unfold nX at o;refine eN Tryz.func61 Tryz.ntmps61 ?_;refine qY.callL zA rfl hR zO (λpl q1 w1 v h1 hm hv hle1 hR1 oq=>?_) (λe w' h' hm o2=>⟨e,w',hE.trans (aC9 hm),rfl,o2⟩);subst hv
 rw[aDa hm]at hE
 have o1:=oq
 simp only[PSt,pick,l_]at o1
 clear oq hm;refine cB ?_;refine fB aA ?_;(refine sB o1 2 aC ?_;intro m22 o22);refine cB ?_;refine fB aA ?_;(refine sB o22 2 aC ?_;intro m25 o25);refine lA o25 aB aC λb26 m26 o26=>?_;refine aW (ss:=[[98,121]]) zA rfl ⟨3,by decide,rfl⟩ hR1 zO zD (λ_ q2 w2 v h2 hm hv hle2 hR2 oq=>?_) (λe w' h' hm o2=>⟨e,w',hE.trans (aC9 hm),rfl,o2⟩);subst hv
 rw[aDa hm]at hE
 have o2:=oq
 simp only[PSt,pick,l_]at o2
 clear oq hm;refine lA o2 aB aC λb30 m30 o30=>?_;refine kW (ss:=[[108,97,116,101,115,116],[109,111,115,116],[116,114,117,115,116,101,100],[108,111,110,103,101,115,116],[108,101,97,115,116],[103,114,101,97,116,101,115,116]]) zA rfl ⟨4,by decide,rfl⟩ hR2 zO zD (λb_ q3 w3 v h3 hm hv hle3 hR3 oq=>?_) (λe w' h' hm o2=>⟨e,w',hE.trans (aC9 hm),rfl,o2⟩);subst hv
 rw[aDa hm]at hE
 have o3:=oq
 simp only[PSt,pick,l_]at o3
 clear oq hm;refine cB ?_;refine fB aA ?_;(refine sB o3 2 aK ?_;intro m42 o42);refine aDS rfl ?_
 exact⟨_,q3,w3,_,iV,hE,rfl,⟨_,_,_,_,_,_,_,_,_,_,_,_,_,_,_,rfl,aT,aT,aT,aT,aT,aT,jT _⟩,by omega,hR3,(o_ [0,1,2]).empty3⟩
theorem aCU (kd:Int)(nm:aBs)(off:Nat)(B:Base)(bp z:Nat)(tk:Item)(bx:Nat)(w:Value)(ts:List Tok)(h:Heap)(o:Own B [box bp [w,iv z] 72,tk,box bx (nX kd nm off) 44] h)(hR:dC tk w ts)(hl:ts.length<=5000) :
  Spec Tryz.prog 64 [pv bp 0,pv bx 0] h (jJ B bp z tk bx ts.length (aA4 z (x0 kd nm off) ts)):=by
 have hE:=congrFun (aA4.eq_1 z (x0 kd nm off)) ts;unfold nX at o;refine eN Tryz.func64 Tryz.ntmps64 ?_;refine qY.callL zA rfl hR zO (λpl q1 w1 v h1 hm hv hle1 hR1 oq=>?_) (λe w' h' hm o2=>⟨e,w',hE.trans (aC9 hm),rfl,o2⟩);subst hv
 rw[aDa hm]at hE
 have o1:=oq
 simp only[PSt,pick,l_]at o1
 clear oq hm;refine cB ?_;refine fB aA ?_;(refine sB o1 2 aC ?_;intro m22 o22);refine cB ?_;refine fB aA ?_;(refine sB o22 2 aC ?_;intro m25 o25);refine lA o25 aB aC λb26 m26 o26=>?_;refine aW (ss:=[[105,110]]) zA rfl ⟨3,by decide,rfl⟩ hR1 zO zD (λ_ q2 w2 v h2 hm hv hle2 hR2 oq=>?_) (λe w' h' hm o2=>⟨e,w',hE.trans (aC9 hm),rfl,o2⟩);subst hv
 rw[aDa hm]at hE
 have o2:=oq
 simp only[PSt,pick,l_]at o2
 clear oq hm;refine qY.callL zA rfl hR2 zO (λpo q3 w3 v h3 hm hv hle3 hR3 oq=>?_) (λe w' h' hm o2=>⟨e,w',hE.trans (aC9 hm),rfl,o2⟩);subst hv
 rw[aDa hm]at hE
 have o3:=oq
 simp only[PSt,pick,l_]at o3
 clear oq hm;refine cB ?_;refine fB aA ?_;(refine sB o3 2 aC ?_;intro m42 o42);refine cB ?_;refine fB aA ?_;(refine sB o42 2 aC ?_;intro m45 o45);refine aDS rfl ?_
 exact⟨_,q3,w3,_,iV,hE,rfl,⟨_,_,_,_,_,_,_,_,_,_,_,_,_,_,_,rfl,aT,aT,aT,aT,aT,aT,jT _⟩,by omega,hR3,(o_ [0,1,2]).empty3⟩
theorem block_part (kd:Int)(nm:aBs)(off:Nat)(B:Base)(bp z:Nat)(tk:Item)(bx:Nat)(w:Value)(ts:List Tok)(h:Heap)(o:Own B [box bp [w,iv z] 72,tk,box bx (nX kd nm off) 44] h)(hR:dC tk w ts)(hl:ts.length<=5000) :
  Spec Tryz.prog 59 [pv bp 0,pv bx 0] h (jJ B bp z tk bx ts.length (blockP z (x0 kd nm off) ts)):=by
 have hE:=congrFun (blockP.eq_1 z (x0 kd nm off)) ts;unfold nX at o;refine eN Tryz.func59 Tryz.ntmps59 ?_;refine lA o aB aC λb10 m10 o10=>?_;refine aW (ss:=[[111,110]]) zA rfl ⟨3,by decide,rfl⟩ hR zO zD (λ_ q1 w1 v h1 hm hv hle1 hR1 oq=>?_) (λe w' h' hm o2=>⟨e,w',hE.trans (aC9 hm),rfl,o2⟩);subst hv
 rw[aDa hm]at hE
 have o1:=oq
 simp only[PSt,pick,l_]at o1
 clear oq hm;refine qY.callL zA rfl hR1 zO (λpl q2 w2 v h2 hm hv hle2 hR2 oq=>?_) (λe w' h' hm o2=>⟨e,w',hE.trans (aC9 hm),rfl,o2⟩);subst hv
 rw[aDa hm]at hE
 have o2:=oq
 simp only[PSt,pick,l_]at o2
 clear oq hm;refine cB ?_;refine fB aA ?_;(refine sB o2 2 aC ?_;intro m32 o32);refine cB ?_;refine fB aA ?_;(refine sB o32 2 aC ?_;intro m35 o35);refine lA o35 aB aC λb36 m36 o36=>?_;refine aW (ss:=[[98,121]]) zA rfl ⟨4,by decide,rfl⟩ hR2 zO zD (λ_ q3 w3 v h3 hm hv hle3 hR3 oq=>?_) (λe w' h' hm o2=>⟨e,w',hE.trans (aC9 hm),rfl,o2⟩);subst hv
 rw[aDa hm]at hE
 have o3:=oq
 simp only[PSt,pick,l_]at o3
 clear oq hm;refine lA o3 aB aC λb40 m40 o40=>?_;refine kW (ss:=[[101,120,97,99,116],[116,111,107,101,110],[112,114,101,102,105,120],[115,107,101,116,99,104]]) zA rfl ⟨5,by decide,rfl⟩ hR3 zO zD (λb_ q4 w4 v h4 hm hv hle4 hR4 oq=>?_) (λe w' h' hm o2=>⟨e,w',hE.trans (aC9 hm),rfl,o2⟩);subst hv
 rw[aDa hm]at hE
 have o4:=oq
 simp only[PSt,pick,l_]at o4
 clear oq hm;by_cases h3:b_=3
 ·rw[if_pos h3]at hE
  refine cB ?_;refine fB aA ?_;(refine sB o4 2 aK ?_;intro m52 o52);refine cB ?_;refine fB aA ?_;refine oB o52 2 aK ?_;refine bB λc56=>cK.callL zA rfl hR4 zO (λn_ q5 w5 v h5 hm hv hle5 hR5 oq=>?_) (λe w' h' hm o2=>⟨e,w',hE.trans (aC9 hm),rfl,o2⟩)
  obtain⟨rfl,hv0_5,hv1_5⟩:=hv
  rw[aDa hm]at hE
  have o5:=oq
  simp only[PSt,pick,l_]at o5
  clear oq hm;refine cB ?_;refine fB aA ?_;(refine sB o5 2 aK ?_;intro m62 o62);refine aDS rfl ?_
  exact⟨_,q5,w5,_,iV,hE,rfl,⟨_,_,_,_,_,_,_,_,_,_,_,_,_,_,_,rfl,aT,aT,aT,aT,aT,aT,jT _⟩,by omega,hR5,(o_ [0,1,2]).empty3⟩
 rw[if_neg h3]at hE
 by_cases h4:b_=4
 ·rw[if_pos h4]at hE
  refine cB ?_;refine fB aA ?_;(refine sB o4 2 aK ?_;intro m72 o72);refine cB ?_;refine fB aA ?_;refine oB o72 2 aK ?_;refine bA λc76=>bB λc77=>?_;refine cK.callL zA rfl hR4 zO (λn_ q6 w6 v h6 hm hv hle6 hR6 oq=>?_) (λe w' h' hm o2=>⟨e,w',hE.trans (aC9 hm),rfl,o2⟩)
  obtain⟨rfl,hv0_6,hv1_6⟩:=hv
  rw[aDa hm]at hE
  have o6:=oq
  simp only[PSt,pick,l_]at o6
  clear oq hm;refine cB ?_;refine fB aA ?_;(refine sB o6 2 aK ?_;intro m82 o82);refine cK.callL zA rfl hR6 zO (λm_ q7 w7 v h7 hm hv hle7 hR7 oq=>?_) (λe w' h' hm o2=>⟨e,w',hE.trans (aC9 hm),rfl,o2⟩)
  obtain⟨rfl,hv0_7,hv1_7⟩:=hv
  rw[aDa hm]at hE
  have o7:=oq
  simp only[PSt,pick,l_]at o7
  clear oq hm;refine cB ?_;refine fB aA ?_;(refine sB o7 2 aK ?_;intro m92 o92);refine aDS rfl ?_
  exact⟨_,q7,w7,_,iV,hE,rfl,⟨_,_,_,_,_,_,_,_,_,_,_,_,_,_,_,rfl,aT,aT,aT,aT,aT,aT,jT _⟩,by omega,hR7,(o_ [0,1,2]).empty3⟩
 rw[if_neg h4]at hE
 refine cB ?_;refine fB aA ?_;(refine sB o4 2 aK ?_;intro m102 o102);refine cB ?_;refine fB aA ?_;refine oB o102 2 aK ?_;refine bA λc106=>bA λc107=>?_;refine aDS rfl ?_
 exact⟨_,q4,w4,_,iV,hE,rfl,⟨_,_,_,_,_,_,_,_,_,_,_,_,_,_,_,rfl,aT,aT,aT,aT,aT,aT,jT _⟩,by omega,hR4,(o_ [0,1,2]).empty3⟩
theorem yE (kd:Int)(nm:aBs)(off:Nat)(B:Base)(bp z:Nat)(tk:Item)(bx:Nat)(w:Value)(ts:List Tok)(h:Heap)(o:Own B [box bp [w,iv z] 72,tk,box bx (nX kd nm off) 44] h)(hR:dC tk w ts)(hl:ts.length<=5000) :
  Spec Tryz.prog 62 [pv bp 0,pv bx 0] h (jJ B bp z tk bx ts.length (qP z (x0 kd nm off) ts)):=by
 have hE:=congrFun (qP.eq_1 z (x0 kd nm off)) ts;unfold nX at o;refine eN Tryz.func62 Tryz.ntmps62 ?_;refine lA o aB aC λb10 m10 o10=>?_;refine aW (ss:=[[111,110]]) zA rfl ⟨3,by decide,rfl⟩ hR zO zD (λ_ q1 w1 v h1 hm hv hle1 hR1 oq=>?_) (λe w' h' hm o2=>⟨e,w',hE.trans (aC9 hm),rfl,o2⟩);subst hv
 rw[aDa hm]at hE
 have o1:=oq
 simp only[PSt,pick,l_]at o1
 clear oq hm;refine dA.callL zA rfl hR1 zO (λtb q2 w2 v h2 hm hv hle2 hR2 oq=>?_) (λe w' h' hm o2=>⟨e,w',hE.trans (aC9 hm),rfl,o2⟩);subst hv
 rw[aDa hm]at hE
 have o2:=oq
 simp only[PSt,pick,l_]at o2
 clear oq hm;refine cB ?_;refine fB aA ?_;(refine sB o2 2 aC ?_;intro m32 o32);refine lA o32 aB aC λb33 m33 o33=>?_;refine aW (ss:=[[40]]) zA rfl ⟨4,by decide,rfl⟩ hR2 zO zD (λ_ q3 w3 v h3 hm hv hle3 hR3 oq=>?_) (λe w' h' hm o2=>⟨e,w',hE.trans (aC9 hm),rfl,o2⟩);subst hv
 rw[aDa hm]at hE
 have o3:=oq
 simp only[PSt,pick,l_]at o3
 clear oq hm;refine dP.callL (λB' o'=>rC B' bp z tk _ _ _ o' hR3 zO) zA rfl (λl4 q4 w4 v4 I h4 hm hv hle4 hR4 oq=>?_) (λe w' h' hm o2=>⟨e,w',hE.trans (aC9 hm),rfl,o2⟩)
 obtain⟨hn4,rfl⟩:=hv
 rw[aDa hm]at hE
 have o4:=oq
 simp only[PSt,pick,l_]at o4
 clear oq hm
 obtain⟨va4,vb4,rfl⟩:=o4.rowIs 2 rfl
 refine cB ?_;refine fB aA ?_;(refine sB o4 3 cS ?_;intro m52 o52);refine lA o52 aB aC λb53 m53 o53=>?_;refine aW (ss:=[[41]]) zA rfl ⟨6,by decide,rfl⟩ hR4 zO zD (λ_ q5 w5 v h5 hm hv hle5 hR5 oq=>?_) (λe w' h' hm o2=>⟨e,w',hE.trans (aC9 hm),rfl,o2⟩);subst hv
 rw[aDa hm]at hE
 have o5:=oq
 simp only[PSt,pick,l_]at o5
 clear oq hm;refine aDS rfl ?_
 exact⟨_,q5,w5,_,_,hE,rfl,⟨_,_,_,_,_,_,_,_,_,_,_,_,_,_,_,rfl,aT,eG,aT,aT,aT,aT,jT _⟩,by omega,hR5,o_ [0,1,3,2]⟩
theorem deny_part (kd:Int)(nm:aBs)(off:Nat)(B:Base)(bp z:Nat)(tk:Item)(bx:Nat)(w:Value)(ts:List Tok)(h:Heap)(o:Own B [box bp [w,iv z] 72,tk,box bx (nX kd nm off) 44] h)(hR:dC tk w ts)(hl:ts.length<=5000) :
  Spec Tryz.prog 65 [pv bp 0,pv bx 0] h (jJ B bp z tk bx ts.length (denyP z (x0 kd nm off) ts)):=by
 have hE:=congrFun (denyP.eq_1 z (x0 kd nm off)) ts;unfold nX at o;refine eN Tryz.func65 Tryz.ntmps65 ?_;refine rR (aDp ?_);refine dP.callL (λB' o'=>listV_spec _ (λz=>varP z) aBF [44] B' bp z tk _ _ _ o' hR zO) zA rfl (λl1 q1 w1 v1 I h1 hm hv hle1 hR1 oq=>?_) (λe w' h' hm o2=>⟨e,w',hE.trans (aC9 hm),rfl,o2⟩)
 obtain⟨hn1,rfl⟩:=hv
 rw[aDa hm]at hE
 have o1:=oq
 simp only[PSt,pick,l_]at o1
 clear oq hm
 obtain⟨va1,vb1,rfl⟩:=o1.rowIs 2 rfl
 refine cB ?_;refine fB aA ?_;(refine sB o1 3 lK ?_;intro m22 o22);refine dP.callL (λB' o'=>aBg B' bp z tk _ _ _ o' hR1 zO) zA rfl (λl2 q2 w2 v2 I h2 hm hv hle2 hR2 oq=>?_) (λe w' h' hm o2=>⟨e,w',hE.trans (aC9 hm),rfl,o2⟩)
 obtain⟨hn2,rfl⟩:=hv
 rw[aDa hm]at hE
 have o2:=oq
 simp only[PSt,pick,l_]at o2
 clear oq hm
 obtain⟨va2,vb2,rfl⟩:=o2.rowIs 2 rfl
 refine cB ?_;refine fB aA ?_;(refine sB o2 4 kI ?_;intro m32 o32);refine aDS rfl ?_
 exact⟨_,q2,w2,_,_,hE,rfl,⟨_,_,_,_,_,_,_,_,_,_,_,_,_,_,_,rfl,aT,aT,aT,aT,eG.inr,eG.inl,jT _⟩,by omega,hR2,((o_ [2,3,0,1,4]).join).sel [1,2,3,0] rfl⟩
theorem table_part (kd:Int)(nm:aBs)(off:Nat)(B:Base)(bp z:Nat)(tk:Item)(bx:Nat)(w:Value)(ts:List Tok)(h:Heap)(o:Own B [box bp [w,iv z] 72,tk,box bx (nX kd nm off) 44] h)(hR:dC tk w ts)(hl:ts.length<=5000) :
  Spec Tryz.prog 57 [pv bp 0,pv bx 0] h (jJ B bp z tk bx ts.length (tableP z (x0 kd nm off) ts)):=by
 have hE:=congrFun (tableP.eq_1 z (x0 kd nm off)) ts;unfold nX at o;refine eN Tryz.func57 Tryz.ntmps57 ?_;refine lA o aB aC λb10 m10 o10=>?_;refine aW (ss:=[[40]]) zA rfl ⟨3,by decide,rfl⟩ hR zO zD (λ_ q1 w1 v h1 hm hv hle1 hR1 oq=>?_) (λe w' h' hm o2=>⟨e,w',hE.trans (aC9 hm),rfl,o2⟩);subst hv
 rw[aDa hm]at hE
 have o1:=oq
 simp only[PSt,pick,l_]at o1
 clear oq hm;refine rR (aDp ?_);refine dP.callL (λB' o'=>listK_spec _ (λz=>uC z) column_spec [44] B' bp z tk _ _ _ o' hR1 zO) zA rfl (λl2 q2 w2 v2 I h2 hm hv hle2 hR2 oq=>?_) (λe w' h' hm o2=>⟨e,w',hE.trans (aC9 hm),rfl,o2⟩)
 obtain⟨hn2,rfl⟩:=hv
 rw[aDa hm]at hE
 have o2:=oq
 simp only[PSt,pick,l_]at o2
 clear oq hm
 obtain⟨va2,vb2,rfl⟩:=o2.rowIs 2 rfl
 refine cB ?_;refine fB aA ?_;(refine sB o2 3 kU ?_;intro m32 o32);refine lA o32 aB aC λb33 m33 o33=>?_;refine aW (ss:=[[41],[107,101,121]]) zA rfl ⟨5,by decide,rfl⟩ hR2 zO zD (λ_ q3 w3 v h3 hm hv hle3 hR3 oq=>?_) (λe w' h' hm o2=>⟨e,w',hE.trans (aC9 hm),rfl,o2⟩);subst hv
 rw[aDa hm]at hE
 have o3:=oq
 simp only[PSt,pick,l_]at o3
 clear oq hm;refine dP.callL (λB' o'=>rC B' bp z tk _ _ _ o' hR3 zO) zA rfl (λl4 q4 w4 v4 I h4 hm hv hle4 hR4 oq=>?_) (λe w' h' hm o2=>⟨e,w',hE.trans (aC9 hm),rfl,o2⟩)
 obtain⟨hn4,rfl⟩:=hv
 rw[aDa hm]at hE
 have o4:=oq
 simp only[PSt,pick,l_]at o4
 clear oq hm
 obtain⟨va4,vb4,rfl⟩:=o4.rowIs 2 rfl
 refine cB ?_;refine fB aA ?_;(refine sB o4 4 cS ?_;intro m52 o52);refine aDS rfl ?_
 exact⟨_,q4,w4,_,_,hE,rfl,⟨_,_,_,_,_,_,_,_,_,_,_,_,_,_,_,rfl,eG.inr,eG.inl,aT,aT,aT,aT,jT _⟩,by omega,hR4,((o_ [2,3,0,1,4]).join).sel [1,2,3,0] rfl⟩
def Dec {α:Type}(m:PM α):Prop:=∀ ts a r,m ts=.ok (a,r)->r.length<=ts.length
theorem Dec.pure {α:Type}(a:α):Dec (Pure.pure a:PM α):=by
 intro ts x r h;cases h;exact aD6 _
theorem Dec.bind {α β:Type}{m:PM α}{f:α->PM β}(hm:Dec m)(hf:∀ a,Dec (f a)):Dec (m >>= f):=by
 intro ts b r h;cases hq:m ts with
 | error e=>rw[aC9 hq]at h;cases h
 | ok p =>
  obtain⟨a,q⟩:=p
  rw[aDa hq]at h
  exact aEc (hf a _ _ _ h) (hm _ _ _ hq)
theorem Dec.take (s:aBs):Dec (fP s):=by
 intro ts b r h;unfold fP at h;split at h
 ·cases h;simp
 ·cases h;exact aD6 _
theorem Dec.fail {α:Type}(z:Nat)(e:Int):Dec (aCc z e:PM α):=by
 intro ts b r h;cases h
theorem kindP_lt {z:Nat}{k:Int}{ts:List Tok}{t:Tok}{r:List Tok}(h:oW z k ts=.ok (t,r)):r.length+1=ts.length:=by
 cases ts with
 | nil=>cases h
 | cons x q =>
  unfold oW at h;dsimp only at h;split at h
  ·cases h;rfl
  ·cases h
theorem nameP_lt {z:Nat}{ts:List Tok}{a:aBs}{r:List Tok}(h:gB z ts=.ok (a,r)):r.length+1=ts.length:=by
 unfold gB at h;cases hq:oW z 1 ts with
 | error e=>rw[aC9 hq]at h;cases h
 | ok p =>
  obtain⟨t,q⟩:=p
  rw[aDa hq]at h
  cases h
  exact kindP_lt hq
theorem Dec.kind (z:Nat)(k:Int):Dec (oW z k):=λ_ _ _ h=>by have:=kindP_lt h;omega
theorem Dec.name (z:Nat):Dec (gB z):=Dec.bind (Dec.kind z 1) λ_=>Dec.pure _
theorem Dec.num (z:Nat):Dec (rB z):=Dec.bind (Dec.kind z 2) λ_=>Dec.pure _
theorem Dec.need:∀(z:Nat)(ss:List aBs),Dec (cO z ss)
 | _,[]=>Dec.pure _
 | z,s::ss=>Dec.bind (Dec.bind (Dec.take s) λb=>by cases b<;>first|exact Dec.fail _ _|exact Dec.pure _) λ_=>Dec.need z ss
theorem Dec.word:∀(z:Nat)(ss:List aBs)(i:Int),Dec (iJ z ss i)
 | z,[],_=>Dec.fail z 4
 | z,s::ss,i=>Dec.bind (Dec.take s) λb=>by cases b<;>first|exact Dec.word z ss (i+1)|exact Dec.pure _
theorem Dec.ifP {α:Type}{c:Bool}{m:PM α}{d:α}(h:Dec m):Dec (ifP c m d):=by
 unfold Go.Proofs.YtohlogbnpfofpaaGreatDoor.ifP;split
 ·exact h
 ·exact Dec.pure _
theorem Dec.opt {α:Type}{s:aBs}{m n:PM α}(h1:Dec m)(h2:Dec n):Dec (fP s >>= λb=>if b=true then m else n):=Dec.bind (Dec.take s) λb=>by cases b<;>assumption
theorem termP_lt {z:Nat}{ts:List Tok}{a:Trm}{r:List Tok}(h:yH z ts=.ok (a,r)):r.length+1<=ts.length:=by
 unfold yH at h;cases hq:gB z ts with
 | error e=>rw[aC9 hq]at h;cases h
 | ok p =>
  obtain⟨n,q⟩:=p
  rw[aDa hq]at h
  have h1:=nameP_lt hq;have h2:=(Dec.bind (Dec.word _ _ _) λ_=>Dec.bind (Dec.ifP (Dec.num z)) λ_=>Dec.bind (Dec.need _ _) λ_=>Dec.bind (Dec.num z) λ_=>Dec.bind (Dec.opt (Dec.num z) (Dec.pure _)) λ_=>Dec.bind (Dec.need _ _) λ_=>Dec.bind (Dec.num z) λ_ =>
   Dec.bind (Dec.opt (Dec.num z) (Dec.pure _)) λ_=>Dec.bind (Dec.need _ _) λ_=>Dec.pure _) _ _ _ h
  omega
def termsM (bx:Nat)(h:Heap):Nat:=match bI h ⟨bx,10,none⟩ with
 | some (.slice _ n _)=>6000 - n
 | _=>0
theorem aBQ {B:Base}{L:List Item}{h:Heap}{bx n:Nat}{cs:aVs}{t:TypeId}{a:Option Addr}{c:Nat}(o:Own B L h)(k:Nat)(hk:L[k]?=some (box bx cs t))(hc:cs[10]?=some (.slice a n c)):termsM bx h=6000 - n:=by
 unfold termsM
 rw[(o.cellB k hk 10).trans hc]
theorem uO {z f:Nat}{acc:List Trm}{ts:List Tok}(h:cJ [[125]] ts=true):termsA z (f+1) acc ts=.ok (acc,ts):=by
 have e:=congrFun (termsA.eq_2 z acc f) ts
 simp only[h,if_true]at e
 exact e
theorem wQ {z f:Nat}{acc:List Trm}{ts:List Tok}(h:cJ [[125]] ts=false):termsA z (f+1) acc ts=(yH z >>= λa=>termsA z f (acc++[a])) ts:=by
 have e:=congrFun (termsA.eq_2 z acc f) ts
 simp only[h,aD9,if_false]at e
 exact e
theorem depend_part (kd:Int)(nm:aBs)(off:Nat)(B:Base)(bp z:Nat)(tk:Item)(bx:Nat)(w:Value)(ts:List Tok)(h:Heap)(o:Own B [box bp [w,iv z] 72,tk,box bx (nX kd nm off) 44] h)(hR:dC tk w ts)(hl:ts.length<=5000) :
  Spec Tryz.prog 63 [pv bp 0,pv bx 0] h (jJ B bp z tk bx ts.length (aC3 z (x0 kd nm off) ts)):=by
 have hE:=congrFun (aC3.eq_1 z (x0 kd nm off)) ts;unfold nX at o;refine eN Tryz.func63 Tryz.ntmps63 ?_;refine aDO (yE kd nm off B bp z tk bx w ts h o hR hl) (λv h' ⟨x,q,wu,c,I,hm,hv,hI,hle,hRu,ou⟩=>?_) (λc h' ⟨e,w',hm,hc,o'⟩=>⟨e,w',hE.trans (aC9 hm),hc,o'⟩);subst hv
 rw[aDa hm]at hE
 obtain⟨vc,vn,vt,vf,vv,vd,e0,e1,e2,e3,e4,e5,e6,e7,e8,rfl,r1,r2,r3,r4,r5,r6,rx⟩:=hI
 unfold itC at ou;clear hm;refine lA ou aB aC λb20 m20 o20=>?_;refine aW (ss:=[[116,111]]) zA rfl ⟨4,by decide,rfl⟩ hRu zO zD (λ_ q1 w1 v h1 hm hv hle1 hR1 oq=>?_) (λe w' h' hm o2=>⟨e,w',hE.trans (aC9 hm),rfl,o2⟩);subst hv
 rw[aDa hm]at hE
 have o1:=oq
 simp only[PSt,pick,l_]at o1
 clear oq hm;refine dA.callL zA rfl hR1 zO (λat_ q2 w2 v h2 hm hv hle2 hR2 oq=>?_) (λe w' h' hm o2=>⟨e,w',hE.trans (aC9 hm),rfl,o2⟩);subst hv
 rw[aDa hm]at hE
 have o2:=oq
 simp only[PSt,pick,l_]at o2
 clear oq hm;refine cB ?_;refine fB aA ?_;(refine sB o2 2 aC ?_;intro m42 o42)
 refine(cZ [119,104,101,114,101]).callL zA rfl hR2 zO (λb q3 w3 v h3 hm hv hle3 hR3 oq=>?_) (λe w2 h2 hm o2=>absurd hm (dX _ _ e))
 subst hv
 rw[aDa hm]at hE
 have o3:=oq
 simp only[PSt,pick,l_]at o3
 clear oq hm;cases b with
 | true =>
  rw[if_pos rfl]at hE
  refine aDK (rR (aDp ?_));refine dP.callL (λB' o'=>listN_spec _ (λz=>xV z) fixed_spec [44] B' bp z tk _ _ _ o' hR3 zO) zA rfl (λl4 q4 w4 v4 I h4 hm hv hle4 hR4 oq=>?_) (λe w' h' hm o2=>⟨e,w',hE.trans (aC9 hm),rfl,o2⟩)
  obtain⟨hn4,rfl⟩:=hv
  rw[aDa hm]at hE
  have o4:=oq
  simp only[PSt,pick,l_]at o4
  clear oq hm
  obtain⟨va4,vb4,rfl⟩:=o4.rowIs 2 rfl
  refine cB ?_;refine fB aA ?_;(refine sB o4 3 lZ ?_;intro m62 o62);refine aDS rfl ?_
  exact⟨_,q4,w4,_,_,hE,rfl,⟨_,_,_,_,_,_,_,_,_,_,_,_,_,_,_,rfl,r1.inr,r2.inr,r3.inr,eG.inl,r5.inr,r6.inr,nK.mono (λ_ (s:(fE _ _).sat _)=>s.2) _ _ rx⟩,by omega,hR4,((o_ [2,4,0,1,3]).join).sel [1,2,3,0] rfl⟩
 | false =>
  rw[if_neg zD]at hE
  refine aDL (aDS rfl ?_)
  exact⟨_,q3,w3,_,_,hE,rfl,⟨_,_,_,_,_,_,_,_,_,_,_,_,_,_,_,rfl,r1,r2,r3,r4,r5,r6,rx⟩,by omega,hR3,o_ [0,1,2,3]⟩
theorem match_part (kd:Int)(nm:aBs)(off:Nat)(B:Base)(bp z:Nat)(tk:Item)(bx:Nat)(w:Value)(ts:List Tok)(h:Heap)(o:Own B [box bp [w,iv z] 72,tk,box bx (nX kd nm off) 44] h)(hR:dC tk w ts)(hl:ts.length<=5000) :
  Spec Tryz.prog 60 [pv bp 0,pv bx 0] h (jJ B bp z tk bx ts.length (matchP z (x0 kd nm off) ts)):=by
 have hE:=congrFun (matchP.eq_1 z (x0 kd nm off)) ts;unfold nX at o;refine eN Tryz.func60 Tryz.ntmps60 ?_;refine lA o aB aC λb10 m10 o10=>?_;refine aW (ss:=[[111,110]]) zA rfl ⟨3,by decide,rfl⟩ hR zO zD (λ_ q1 w1 v h1 hm hv hle1 hR1 oq=>?_) (λe w' h' hm o2=>⟨e,w',hE.trans (aC9 hm),rfl,o2⟩);subst hv
 rw[aDa hm]at hE
 have o1:=oq
 simp only[PSt,pick,l_]at o1
 clear oq hm;refine dA.callL zA rfl hR1 zO (λtb q2 w2 v h2 hm hv hle2 hR2 oq=>?_) (λe w' h' hm o2=>⟨e,w',hE.trans (aC9 hm),rfl,o2⟩);subst hv
 rw[aDa hm]at hE
 have o2:=oq
 simp only[PSt,pick,l_]at o2
 clear oq hm;refine cB ?_;refine fB aA ?_;(refine sB o2 2 aC ?_;intro m32 o32);refine lA o32 aB aC λb33 m33 o33=>?_;refine aW (ss:=[[97,116]]) zA rfl ⟨4,by decide,rfl⟩ hR2 zO zD (λ_ q3 w3 v h3 hm hv hle3 hR3 oq=>?_) (λe w' h' hm o2=>⟨e,w',hE.trans (aC9 hm),rfl,o2⟩);subst hv
 rw[aDa hm]at hE
 have o3:=oq
 simp only[PSt,pick,l_]at o3
 clear oq hm;refine cK.callL zA rfl hR3 zO (λn_ q4 w4 v h4 hm hv hle4 hR4 oq=>?_) (λe w' h' hm o2=>⟨e,w',hE.trans (aC9 hm),rfl,o2⟩)
 obtain⟨rfl,hv0_4,hv1_4⟩:=hv
 rw[aDa hm]at hE
 have o4:=oq
 simp only[PSt,pick,l_]at o4
 clear oq hm;refine cB ?_;refine fB aA ?_;(refine sB o4 2 aK ?_;intro m52 o52);refine lA o52 aB aC λb53 m53 o53=>?_;refine aW (ss:=[[123]]) zA rfl ⟨5,by decide,rfl⟩ hR4 zO zD (λ_ q5 w5 v h5 hm hv hle5 hR5 oq=>?_) (λe w' h' hm o2=>⟨e,w',hE.trans (aC9 hm),rfl,o2⟩);subst hv
 rw[aDa hm]at hE
 have o5:=oq
 simp only[PSt,pick,l_]at o5
 clear oq hm;have on:=Own.nilRow zA 136 7;have on:=Own.sel on [0,1,2,6] rfl;refine aDT [23,24,25,26,27,28,29,30,31,32,33,34,35,36,37] [] (λ_ hh=>∃(f:Nat) (acc:List Trm) (q:List Tok) (w':Value) (va:Option Addr) (vc:Nat),termsA z f acc q=termsA z (q5.length+1) [] q5/\q.length<f/\q.length<=ts.length/\acc.length+q.length<=ts.length/\dC tk w' q/\Own B [box bp [w',iv z] 72,tk,box bx [iv kd,sv nm,iv off,sv tb,sv [],aP,aP,iv 0,iv n_,iv 0,.slice va acc.length vc,sv [],sv [],aP,aP,aP,iv 0,sv [],aP,aP,aP,sv [],sv [],iv 0,iv 0] 44,row (.slice va acc.length vc) 136 7 acc.length (acc.flatMap wP)] hh) (λ_ hh=>termsM bx hh) ?_ ?_
 ·exact⟨q5.length+1,[],q5,w5,none,0,rfl,by omega,by omega,by simp;omega,hR5,on⟩
 ·rintro vs junk hh ⟨f,acc,q,w',va,vc,hT,hf,hq,hac,hR',oh⟩
  obtain⟨f,rfl⟩:∃ f',f=f'+1:=⟨f - 1,by omega⟩
  have hm0:=aBQ oh 2 rfl rfl;refine lA oh aB aC λb70 m70 o70=>?_;refine aDN (bZ [[125]] _ bp w' q _ (Own.cellB zA 0 rfl 0) (Own.reads zA 1 hR'.1 rfl) (Own.boxArr zA 4 rfl rfl zD) zO) ?_;rintro _ h2 ⟨rfl,oc⟩;have op:=oc.thenE zA;clear oc;cases hb:cJ [[125]] q with
  | true =>
   rw[uO hb]at hT
   have hE:=hE.trans (aDa (m:=λts=>termsA z (ts.length+1) [] ts) hT.symm);refine aDL (aDS rfl ?_)
   exact⟨_,q,w',_,_,hE,rfl,⟨_,_,_,_,_,_,_,_,_,_,_,_,_,_,_,rfl,aT,aT,eG,aT,aT,aT,jT _⟩,by omega,hR',o_ [0,1,2,3]⟩
  | false =>
   rw[wQ hb]at hT
   refine aDK (d2_ bx [0,1,2,3,5,9,10] [4] [8,11] [0,1,2,3,4,5,6,7,8,9,10,11] ?_);refine nC rfl ?_;refine fC aA ?_;refine StillVCA.load1 mC rfl rfl ((op.cellB 2 rfl _).trans rfl) ?_;refine term_spec.callL zA rfl hR' zO (λa q2 w2 v h3 hm hv hle hR2 oq=>?_) (λe w2 h3 hm o2=>⟨e,w2,hE.trans (aC9 (m:=λts=>termsA z (ts.length+1) [] ts) (hT.symm.trans (aC9 hm))),rfl,o2⟩);subst hv
   rw[aDa hm]at hT
   have o9:=oq
   simp only[PSt,pick,l_]at o9
   clear oq
   refine⟨(Own.satK o9 2 rfl).trans (Own.satK op 2 rfl).symm,?_⟩
   (refine aDt o9 mE cT rfl rfl zD ?_);refine aI rfl ?_;intro b111 m111 o111;refine aI ((o111.boxBlk 2 rfl).trans (o9.boxBlk 2 rfl).symm) ?_;refine aDI zA 3 rfl mE cT zD (Own.boxArrN zA 5 rfl (n:=1) rfl zO) c_ (by simp only[maxLen];omega) zO ?_;intro v915 m915 o915
   obtain⟨ua,uc,rfl⟩:=o915.rowIs 3 rfl
   refine nC rfl ?_;refine fC aA ?_;(refine sB o915 2 mC ?_;intro m922 o922)
   refine⟨rfl,?_⟩
   have e1:(acc++[a]).flatMap wP=acc.flatMap wP++wP a:=by rw[aEy,aEf,List.flatMap_nil,aD7]
   have e2:(acc++[a]).length=acc.length+1:=by simp
   have hlt:=termP_lt hm
   refine⟨⟨f,acc++[a],q2,w2,ua,uc,hT,by omega,by omega,by omega,hR2,?_⟩,?_⟩
   ·rw[e1,e2]
    exact o_ [0,1,2,3]
   ·have hm1:=aBQ (bx:=bx) zA 2 rfl rfl
    rw[hm0,hm1]
    omega
def sU (pb:Nat):aVs:=[sv [115,101,108,101,99,116],.bool false,.func (.func 161) ⟨[]⟩ ⟨[pv pb 0]⟩,sv [112,114,111,106,101,99,116],.bool false,.func (.func 162) ⟨[]⟩ ⟨[pv pb 0]⟩,sv [106,111,105,110],.bool true,.func (.func 160) ⟨[]⟩ ⟨[]⟩,sv [117,110,105,111,110],.bool true,.func (.func 160) ⟨[]⟩ ⟨[]⟩,sv [109,105,110,117,115],.bool true,.func (.func 160) ⟨[]⟩ ⟨[]⟩,sv [114,101,110,97,109,101],.bool false,.func (.func 163) ⟨[]⟩ ⟨[pv pb 0]⟩,sv [103,114,111,117,112],.bool false,.func (.func 164) ⟨[]⟩ ⟨[pv pb 0]⟩]
theorem fQ (bp:Nat)(h:Heap):bG Tryz.prog 145 [pv bp 0] h λv h'=>∃ b pb,v=.slice (some ⟨b,0,none⟩) 7 7/\Own h [box pb [pv bp 0] 70,box b (sU pb) 188] h':=by
 refine eN Tryz.func145 Tryz.ntmps145 ?_;have o0:=Own.refl h;refine xB o0 λb10 m10 o10=>?_;refine rR (aDp ?_);refine rR (aDd cX ?_);refine aI rfl ?_;refine aI rfl ?_;refine aI rfl ?_;refine rR (aDp ?_);refine rR (aDd cX ?_);refine aI rfl ?_;refine aI rfl ?_;refine aI rfl ?_;refine rR (aDd cX ?_);refine aI rfl ?_;refine aI rfl ?_;refine aI rfl ?_;refine rR (aDd cX ?_);refine aI rfl ?_;refine aI rfl ?_;refine aI rfl ?_;refine rR (aDd cX ?_);refine aI rfl ?_;refine aI rfl ?_;refine aI rfl ?_;refine rR (aDp ?_);refine rR (aDd cX ?_);refine aI rfl ?_;refine aI rfl ?_;refine aI rfl ?_;refine rR (aDp ?_);refine rR (aDd cX ?_);refine aI rfl ?_;refine aI rfl ?_;refine aI rfl ?_;(refine aDt o10 eR aX rfl rfl zD ?_);refine aI rfl ?_;refine aI rfl ?_;refine aI rfl ?_;refine aI rfl ?_;refine aI rfl ?_;refine aI rfl ?_;refine aI rfl ?_;intro b23 m23 o23;refine rO ?_
 exact⟨_,_,rfl,o_ [0,1]⟩
def restR (I:Item)(c:aVs)(kind:Int)(vk:Value)(kids:List Ex)(off:Nat)(x:Ex):Prop:=∃ vc vn conds names attr as_ agg,x=.mk kind [] kids conds names attr as_ agg off/\c=zG kind [] vk vc vn attr as_ agg off /\
 Reads I 14 vc conds.length (conds.flatMap nN)/\Reads I 1 vn names.length (names.flatMap sD)
def mS (B:Base)(bp z:Nat)(tk:Item)(bx pb:Nat)(n:Nat)(res:Except (Int×Nat) (Ex×List Tok))(kind:Int)(vk:Value)(kids:List Ex)(off:Nat):Ending->Heap->Prop :=
 Ends (λv h'=>∃ x r w c I,res=.ok (x,r)/\v=.tuple ⟨[]⟩/\restR I c kind vk kids off x/\r.length<=n/\dC tk w r/\Own B [box bp [w,iv z] 72,tk,box bx c 42,box pb [pv bp 0] 70,I] h')
  (λc h'=>∃ e w,res=.error e/\c=mG e/\Own B (PSt bp z w tk) h')
theorem Own.empty4 {B:Base}{x y z u:Item}{h:Heap}(o:Own B [x,y,z,u] h):Own B [x,y,z,u,iV] h:=o.emptyI'.sel [1,2,3,4,0] rfl
theorem rest0_spec (off:Nat)(vk:Value)(kids:List Ex)(B:Base)(bp z:Nat)(tk:Item)(bx pb:Nat)(w:Value)(ts:List Tok)(h:Heap)(o:Own B [box bp [w,iv z] 72,tk,box bx (zG 2 [] vk aP aP [] [] 0 off) 42,box pb [pv bp 0] 70] h)(hR:dC tk w ts)(hl:ts.length<=5000) :
  Spec Tryz.prog 161 [pv bx 0,pv pb 0] h (mS B bp z tk bx pb ts.length (gZ z 0 off kids ts) 2 vk kids off):=by
 have hE:gZ z 0 off kids ts=(vD z >>= λc=>(pure (Ex.mk 2 [] kids c [] [] [] 0 off):PM Ex)) ts:=rfl;unfold zG at o;refine eN Tryz.func161 Tryz.ntmps161 ?_;refine oB o 3 mJ ?_;refine dP.callL (λB' o'=>aBg B' bp z tk _ _ _ o' hR zO) zA rfl (λl1 q1 w1 v1 I h1 hm hv hle1 hR1 oq=>?_) (λe w' h' hm o2=>⟨e,w',hE.trans (aC9 hm),rfl,o2⟩)
 obtain⟨hn1,rfl⟩:=hv
 rw[aDa hm]at hE
 have o1:=oq
 simp only[PSt,pick,l_]at o1
 clear oq hm
 obtain⟨va1,vb1,rfl⟩:=o1.rowIs 2 rfl
 refine cB ?_;refine fB aE ?_;(refine sB o1 3 kI ?_;intro m22 o22);refine aDS rfl ?_
 exact⟨_,q1,w1,_,_,hE,rfl,⟨_,_,l1,[],[],[],0,rfl,rfl,eG,aT⟩,by omega,hR1,o_ [0,1,3,4,2]⟩
theorem rest1_spec (off:Nat)(vk:Value)(kids:List Ex)(B:Base)(bp z:Nat)(tk:Item)(bx pb:Nat)(w:Value)(ts:List Tok)(h:Heap)(o:Own B [box bp [w,iv z] 72,tk,box bx (zG 3 [] vk aP aP [] [] 0 off) 42,box pb [pv bp 0] 70] h)(hR:dC tk w ts)(hl:ts.length<=5000) :
  Spec Tryz.prog 162 [pv bx 0,pv pb 0] h (mS B bp z tk bx pb ts.length (gZ z 1 off kids ts) 3 vk kids off):=by
 have hE:gZ z 1 off kids ts=(cO z [[111,110]] >>= λ_=>namesU z [41] >>= λl=>(pure (Ex.mk 3 [] kids [] l [] [] 0 off):PM Ex)) ts:=rfl;unfold zG at o;refine eN Tryz.func162 Tryz.ntmps162 ?_;refine oB o 3 mJ ?_;refine lA o aB aC λb11 m11 o11=>?_;refine aW (ss:=[[111,110]]) zA rfl ⟨4,by decide,rfl⟩ hR zO zD (λ_ q1 w1 v h1 hm hv hle1 hR1 oq=>?_) (λe w' h' hm o2=>⟨e,w',hE.trans (aC9 hm),rfl,o2⟩);subst hv
 rw[aDa hm]at hE
 have o1:=oq
 simp only[PSt,pick,l_]at o1
 clear oq hm;refine oB o1 3 mJ ?_;refine lA o1 aB aC λb21 m21 o21=>?_;refine aDN (bZ [[41]] _ bp w1 q1 _ (Own.cellB zA 0 rfl 0) (Own.reads zA 1 hR1.1 rfl) (Own.boxArr zA 5 rfl rfl zD) zO) ?_;rintro _ hp ⟨rfl,oc⟩;have op:=oc.thenE zA;clear oc;cases hb:cJ [[41]] q1 with
 | true =>
  rw[aDa (rD hb)]at hE
  refine aDL (aDS rfl ?_)
  exact⟨_,q1,w1,_,iV,hE,rfl,⟨_,_,[],[],[],[],0,rfl,rfl,aT,aT⟩,by omega,hR1,(o_ [0,1,2,3]).empty4⟩
 | false =>
  refine aDK (oB op 3 mJ ?_);refine dP.callL (λB' o'=>rC B' bp z tk _ _ _ o' hR1 zO) zA rfl (λl2 q2 w2 v2 I h2 hm hv hle2 hR2 oq=>?_) (λe w' h' hm o2=>⟨e,w',hE.trans (aC9 ((oE hb).trans hm)),rfl,o2⟩)
  obtain⟨hn2,rfl⟩:=hv
  rw[aDa ((oE hb).trans hm)]at hE
  have o2:=oq
  simp only[PSt,pick,l_]at o2
  clear oq hm
  obtain⟨va2,vb2,rfl⟩:=o2.rowIs 2 rfl
  refine cB ?_;refine fB aE ?_;(refine sB o2 3 cS ?_;intro m52 o52);refine aDS rfl ?_
  exact⟨_,q2,w2,_,_,hE,rfl,⟨_,_,[],l2,[],[],0,rfl,rfl,aT,eG⟩,by omega,hR2,o_ [0,1,3,4,2]⟩
theorem rest5_spec (off:Nat)(vk:Value)(kids:List Ex)(B:Base)(bp z:Nat)(tk:Item)(bx pb:Nat)(w:Value)(ts:List Tok)(h:Heap)(o:Own B [box bp [w,iv z] 72,tk,box bx (zG 7 [] vk aP aP [] [] 0 off) 42,box pb [pv bp 0] 70] h)(hR:dC tk w ts)(hl:ts.length<=5000) :
  Spec Tryz.prog 163 [pv bx 0,pv pb 0] h (mS B bp z tk bx pb ts.length (gZ z 5 off kids ts) 7 vk kids off):=by
 have hE:gZ z 5 off kids ts=(cO z [[44]] >>= λ_=>gB z >>= λa=>cO z [[97,115]] >>= λ_=>gB z >>= λb=>(pure (Ex.mk 7 [] kids [] [] a b 0 off):PM Ex)) ts:=rfl;unfold zG at o;refine eN Tryz.func163 Tryz.ntmps163 ?_;refine oB o 3 mJ ?_;refine lA o aB aC λb11 m11 o11=>?_;refine aW (ss:=[[44]]) zA rfl ⟨4,by decide,rfl⟩ hR zO zD (λ_ q1 w1 v h1 hm hv hle1 hR1 oq=>?_) (λe w' h' hm o2=>⟨e,w',hE.trans (aC9 hm),rfl,o2⟩);subst hv
 rw[aDa hm]at hE
 have o1:=oq
 simp only[PSt,pick,l_]at o1
 clear oq hm;refine oB o1 3 mJ ?_;refine dA.callL zA rfl hR1 zO (λat_ q2 w2 v h2 hm hv hle2 hR2 oq=>?_) (λe w' h' hm o2=>⟨e,w',hE.trans (aC9 hm),rfl,o2⟩);subst hv
 rw[aDa hm]at hE
 have o2:=oq
 simp only[PSt,pick,l_]at o2
 clear oq hm;refine cB ?_;refine fB aE ?_;(refine sB o2 2 aC ?_;intro m32 o32);refine oB o32 3 mJ ?_;refine lA o32 aB aC λb34 m34 o34=>?_;refine aW (ss:=[[97,115]]) zA rfl ⟨5,by decide,rfl⟩ hR2 zO zD (λ_ q3 w3 v h3 hm hv hle3 hR3 oq=>?_) (λe w' h' hm o2=>⟨e,w',hE.trans (aC9 hm),rfl,o2⟩);subst hv
 rw[aDa hm]at hE
 have o3:=oq
 simp only[PSt,pick,l_]at o3
 clear oq hm;refine oB o3 3 mJ ?_;refine dA.callL zA rfl hR3 zO (λas_ q4 w4 v h4 hm hv hle4 hR4 oq=>?_) (λe w' h' hm o2=>⟨e,w',hE.trans (aC9 hm),rfl,o2⟩);subst hv
 rw[aDa hm]at hE
 have o4:=oq
 simp only[PSt,pick,l_]at o4
 clear oq hm;refine cB ?_;refine fB aE ?_;(refine sB o4 2 aC ?_;intro m52 o52);refine aDS rfl ?_
 exact⟨_,q4,w4,_,iV,hE,rfl,⟨_,_,[],[],at_,as_,0,rfl,rfl,aT,aT⟩,by omega,hR4,(o_ [0,1,2,3]).empty4⟩
theorem rest6_spec (off:Nat)(vk:Value)(kids:List Ex)(B:Base)(bp z:Nat)(tk:Item)(bx pb:Nat)(w:Value)(ts:List Tok)(h:Heap)(o:Own B [box bp [w,iv z] 72,tk,box bx (zG 8 [] vk aP aP [] [] 0 off) 42,box pb [pv bp 0] 70] h)(hR:dC tk w ts)(hl:ts.length<=5000) :
  Spec Tryz.prog 164 [pv bx 0,pv pb 0] h (mS B bp z tk bx pb ts.length (gZ z 6 off kids ts) 8 vk kids off):=by
 have hE:gZ z 6 off kids ts=(cO z [[111,110]] >>= λ_=>namesU z [119,105,116,104] >>= λl=>cO z [[119,105,116,104]] >>= λ_=>iJ z [[99,111,117,110,116],[115,117,109],[108,101,97,115,116],[103,114,101,97,116,101,115,116]] 1 >>= λg=>ifP (g != 1) (gB z) [] >>= λa=>cO z [[97,115]] >>= λ_=>gB z >>= λb=>(pure (Ex.mk 8 [] kids [] l a b g off):PM Ex)) ts:=rfl;unfold zG at o;refine eN Tryz.func164 Tryz.ntmps164 ?_;refine oB o 3 mJ ?_;refine lA o aB aC λb11 m11 o11=>?_;refine aW (ss:=[[111,110]]) zA rfl ⟨4,by decide,rfl⟩ hR zO zD (λ_ q1 w1 v h1 hm hv hle1 hR1 oq=>?_) (λe w' h' hm o2=>⟨e,w',hE.trans (aC9 hm),rfl,o2⟩);subst hv
 rw[aDa hm]at hE
 have o1:=oq
 simp only[PSt,pick,l_]at o1
 clear oq hm;refine oB o1 3 mJ ?_;refine lA o1 aB aC λb21 m21 o21=>?_;refine aDN (bZ [[119,105,116,104]] _ bp w1 q1 _ (Own.cellB zA 0 rfl 0) (Own.reads zA 1 hR1.1 rfl) (Own.boxArr zA 5 rfl rfl zD) zO) ?_;rintro _ hp ⟨rfl,oc⟩;have op:=oc.thenE zA;clear oc;cases hb:cJ [[119,105,116,104]] q1 with
 | true =>
  rw[aDa (rD hb)]at hE
  refine aDL (oB op 3 mJ ?_);refine lA op aB aC λb31 m31 o31=>?_;refine aW (ss:=[[119,105,116,104]]) zA rfl ⟨6,by decide,rfl⟩ hR1 zO zD (λ_ q2 w2 v h2 hm hv hle2 hR2 oq=>?_) (λe w' h' hm o2=>⟨e,w',hE.trans (aC9 hm),rfl,o2⟩);subst hv
  rw[aDa hm]at hE
  have o2:=oq
  simp only[PSt,pick,l_]at o2
  clear oq hm;refine oB o2 3 mJ ?_;refine lA o2 aB aC λb41 m41 o41=>?_;refine kW (ss:=[[99,111,117,110,116],[115,117,109],[108,101,97,115,116],[103,114,101,97,116,101,115,116]]) zA rfl ⟨7,by decide,rfl⟩ hR2 zO zD (λg q3 w3 v h3 hm hv hle3 hR3 oq=>?_) (λe w' h' hm o2=>⟨e,w',hE.trans (aC9 hm),rfl,o2⟩);subst hv
  rw[aDa hm]at hE
  have o3:=oq
  simp only[PSt,pick,l_]at o3
  clear oq hm;by_cases hg:g=1
  ·rw[tH (by simp[hg]),aDm]at hE
   refine cB ?_;refine fB aE ?_;(refine sB o3 2 aK ?_;intro m52 o52);refine cB ?_;refine fB aE ?_;refine oB o52 2 aK ?_;refine bC λc56=>oB o52 3 mJ ?_;refine lA o52 aB aC λb58 m58 o58=>?_;refine aW (ss:=[[97,115]]) zA rfl ⟨8,by decide,rfl⟩ hR3 zO zD (λ_ q4 w4 v h4 hm hv hle4 hR4 oq=>?_) (λe w' h' hm o2=>⟨e,w',hE.trans (aC9 hm),rfl,o2⟩);subst hv
   rw[aDa hm]at hE
   have o4:=oq
   simp only[PSt,pick,l_]at o4
   clear oq hm;refine oB o4 3 mJ ?_;refine dA.callL zA rfl hR4 zO (λas_ q5 w5 v h5 hm hv hle5 hR5 oq=>?_) (λe w' h' hm o2=>⟨e,w',hE.trans (aC9 hm),rfl,o2⟩);subst hv
   rw[aDa hm]at hE
   have o5:=oq
   simp only[PSt,pick,l_]at o5
   clear oq hm;refine cB ?_;refine fB aE ?_;(refine sB o5 2 aC ?_;intro m72 o72);refine aDS rfl ?_
   exact⟨_,q5,w5,_,iV,hE,rfl,⟨_,_,[],[],[],as_,g,rfl,rfl,aT,aT⟩,by omega,hR5,(o_ [0,1,2,3]).empty4⟩
  ·rw[pO (by simp[hg])]at hE
   refine cB ?_;refine fB aE ?_;(refine sB o3 2 aK ?_;intro m82 o82);refine cB ?_;refine fB aE ?_;refine oB o82 2 aK ?_;refine bD λc86=>oB o82 3 mJ ?_;refine dA.callL zA rfl hR3 zO (λat_ q6 w6 v h6 hm hv hle6 hR6 oq=>?_) (λe w' h' hm o2=>⟨e,w',hE.trans (aC9 hm),rfl,o2⟩);subst hv
   rw[aDa hm]at hE
   have o6:=oq
   simp only[PSt,pick,l_]at o6
   clear oq hm;refine cB ?_;refine fB aE ?_;(refine sB o6 2 aC ?_;intro m92 o92);refine oB o92 3 mJ ?_;refine lA o92 aB aC λb94 m94 o94=>?_;refine aW (ss:=[[97,115]]) zA rfl ⟨8,by decide,rfl⟩ hR6 zO zD (λ_ q7 w7 v h7 hm hv hle7 hR7 oq=>?_) (λe w' h' hm o2=>⟨e,w',hE.trans (aC9 hm),rfl,o2⟩);subst hv
   rw[aDa hm]at hE
   have o7:=oq
   simp only[PSt,pick,l_]at o7
   clear oq hm;refine oB o7 3 mJ ?_;refine dA.callL zA rfl hR7 zO (λas_ q8 w8 v h8 hm hv hle8 hR8 oq=>?_) (λe w' h' hm o2=>⟨e,w',hE.trans (aC9 hm),rfl,o2⟩);subst hv
   rw[aDa hm]at hE
   have o8:=oq
   simp only[PSt,pick,l_]at o8
   clear oq hm;refine cB ?_;refine fB aE ?_;(refine sB o8 2 aC ?_;intro m112 o112);refine aDS rfl ?_
   exact⟨_,q8,w8,_,iV,hE,rfl,⟨_,_,[],[],at_,as_,g,rfl,rfl,aT,aT⟩,by omega,hR8,(o_ [0,1,2,3]).empty4⟩
 | false =>
  refine aDK (oB op 3 mJ ?_);refine dP.callL (λB' o'=>rC B' bp z tk _ _ _ o' hR1 zO) zA rfl (λl9 q9 w9 v9 I h9 hm hv hle9 hR9 oq=>?_) (λe w' h' hm o2=>⟨e,w',hE.trans (aC9 ((oE hb).trans hm)),rfl,o2⟩)
  obtain⟨hn9,rfl⟩:=hv
  rw[aDa ((oE hb).trans hm)]at hE
  have o9:=oq
  simp only[PSt,pick,l_]at o9
  clear oq hm
  obtain⟨va9,vb9,rfl⟩:=o9.rowIs 2 rfl
  refine cB ?_;refine fB aE ?_;(refine sB o9 3 cS ?_;intro m132 o132);refine oB o132 4 mJ ?_;refine lA o132 aB aC λb134 m134 o134=>?_;refine aW (ss:=[[119,105,116,104]]) zA rfl ⟨7,by decide,rfl⟩ hR9 zO zD (λ_ q10 w10 v h10 hm hv hle10 hR10 oq=>?_) (λe w' h' hm o2=>⟨e,w',hE.trans (aC9 hm),rfl,o2⟩);subst hv
  rw[aDa hm]at hE
  have o10:=oq
  simp only[PSt,pick,l_]at o10
  clear oq hm;refine oB o10 4 mJ ?_;refine lA o10 aB aC λb141 m141 o141=>?_;refine kW (ss:=[[99,111,117,110,116],[115,117,109],[108,101,97,115,116],[103,114,101,97,116,101,115,116]]) zA rfl ⟨8,by decide,rfl⟩ hR10 zO zD (λg q11 w11 v h11 hm hv hle11 hR11 oq=>?_) (λe w' h' hm o2=>⟨e,w',hE.trans (aC9 hm),rfl,o2⟩);subst hv
  rw[aDa hm]at hE
  have o11:=oq
  simp only[PSt,pick,l_]at o11
  clear oq hm;by_cases hg:g=1
  ·rw[tH (by simp[hg]),aDm]at hE
   refine cB ?_;refine fB aE ?_;(refine sB o11 3 aK ?_;intro m152 o152);refine cB ?_;refine fB aE ?_;refine oB o152 3 aK ?_;refine bC λc156=>oB o152 4 mJ ?_;refine lA o152 aB aC λb158 m158 o158=>?_;refine aW (ss:=[[97,115]]) zA rfl ⟨9,by decide,rfl⟩ hR11 zO zD (λ_ q12 w12 v h12 hm hv hle12 hR12 oq=>?_) (λe w' h' hm o2=>⟨e,w',hE.trans (aC9 hm),rfl,o2⟩);subst hv
   rw[aDa hm]at hE
   have o12:=oq
   simp only[PSt,pick,l_]at o12
   clear oq hm;refine oB o12 4 mJ ?_;refine dA.callL zA rfl hR12 zO (λas_ q13 w13 v h13 hm hv hle13 hR13 oq=>?_) (λe w' h' hm o2=>⟨e,w',hE.trans (aC9 hm),rfl,o2⟩);subst hv
   rw[aDa hm]at hE
   have o13:=oq
   simp only[PSt,pick,l_]at o13
   clear oq hm;refine cB ?_;refine fB aE ?_;(refine sB o13 3 aC ?_;intro m172 o172);refine aDS rfl ?_
   exact⟨_,q13,w13,_,_,hE,rfl,⟨_,_,[],l9,[],as_,g,rfl,rfl,aT,eG⟩,by omega,hR13,o_ [0,1,3,4,2]⟩
  ·rw[pO (by simp[hg])]at hE
   refine cB ?_;refine fB aE ?_;(refine sB o11 3 aK ?_;intro m182 o182);refine cB ?_;refine fB aE ?_;refine oB o182 3 aK ?_;refine bD λc186=>oB o182 4 mJ ?_;refine dA.callL zA rfl hR11 zO (λat_ q14 w14 v h14 hm hv hle14 hR14 oq=>?_) (λe w' h' hm o2=>⟨e,w',hE.trans (aC9 hm),rfl,o2⟩);subst hv
   rw[aDa hm]at hE
   have o14:=oq
   simp only[PSt,pick,l_]at o14
   clear oq hm;refine cB ?_;refine fB aE ?_;(refine sB o14 3 aC ?_;intro m192 o192);refine oB o192 4 mJ ?_;refine lA o192 aB aC λb194 m194 o194=>?_;refine aW (ss:=[[97,115]]) zA rfl ⟨9,by decide,rfl⟩ hR14 zO zD (λ_ q15 w15 v h15 hm hv hle15 hR15 oq=>?_) (λe w' h' hm o2=>⟨e,w',hE.trans (aC9 hm),rfl,o2⟩);subst hv
   rw[aDa hm]at hE
   have o15:=oq
   simp only[PSt,pick,l_]at o15
   clear oq hm;refine oB o15 4 mJ ?_;refine dA.callL zA rfl hR15 zO (λas_ q16 w16 v h16 hm hv hle16 hR16 oq=>?_) (λe w' h' hm o2=>⟨e,w',hE.trans (aC9 hm),rfl,o2⟩);subst hv
   rw[aDa hm]at hE
   have o16:=oq
   simp only[PSt,pick,l_]at o16
   clear oq hm;refine cB ?_;refine fB aE ?_;(refine sB o16 3 aC ?_;intro m212 o212);refine aDS rfl ?_
   exact⟨_,q16,w16,_,_,hE,rfl,⟨_,_,[],l9,at_,as_,g,rfl,rfl,aT,eG⟩,by omega,hR16,o_ [0,1,3,4,2]⟩
theorem xD:∀(l acc:aBs)(k:Nat),jK l acc k≠.none
 | [],_,_=>by simp[jK]
 | [c],acc,k=>by
  rw[jK]
  split
  ·split<;>simp
  ·split<;>simp
 | c::d::r,acc,k=>by
  rw[jK]
  split
  ·split<;>simp
  ·split
   ·simp
   ·split
    ·split
     ·simp
     ·exact xD r _ _
    ·exact xD (d::r) _ _
theorem aAI:∀(l acc:aBs)(k:Nat) {e:Int},jK l acc k=.err e->e=3∨e=5∨e=7
 | [],_,_,_,h=>by cases h;omega
 | [c],acc,k,_,h=>by
  rw[jK]at h
  split at h
  ·split at h<;>cases h
   omega
  ·split at h<;>cases h<;>omega
 | c::d::r,acc,k,_,h=>by
  rw[jK]at h
  split at h
  ·split at h<;>cases h
   omega
  ·split at h
   ·cases h;omega
   ·split at h
    ·split at h
     ·cases h;omega
     ·exact aAI r _ _ h
    ·exact aAI (d::r) _ _ h
theorem aAG:∀(l acc:aBs)(k:Nat) {kd n:Int}{x:aBs}{len:Nat},jK l acc k=.tok kd x n len->kd=3/\n=0
 | [],_,_,_,_,_,_,h=>by cases h
 | [c],acc,k,_,_,_,_,h=>by
  rw[jK]at h
  split at h
  ·split at h<;>cases h
   exact⟨rfl,rfl⟩
  ·split at h<;>cases h
 | c::d::r,acc,k,_,_,_,_,h=>by
  rw[jK]at h
  split at h
  ·split at h<;>cases h
   exact⟨rfl,rfl⟩
  ·split at h
   ·cases h
   ·split at h
    ·split at h
     ·cases h
     ·exact aAG r _ _ h
    ·exact aAG (d::r) _ _ h
theorem vR {c:UInt8}{r:aBs}(hc:eZ c=true):jQ (c::r)=if 24<cP eA (c::r) then .err 3 else .tok 1 ((c::r).take (cP eA (c::r))) 0 (cP eA (c::r)):=by
 have:yT (c::r)=if 24<cP eA (c::r) then .err 3 else .tok 1 ((c::r).take (cP eA (c::r))) 0 (cP eA (c::r)):=by rw[yT,if_pos hc]
 unfold jQ readers kJ
 rw[this]
 by_cases h:24<cP eA (c::r)
 ·simp only[if_pos h]
 ·simp only[if_neg h]
theorem xJ {c:UInt8}{r:aBs}(hc:eZ c=false):yT (c::r)=.none:=by
 rw[yT,if_neg (by rw[hc];simp)]
theorem span_zero {p:UInt8->Bool}{c:UInt8}{r:aBs}(hc:p c=false):cP p (c::r)=0:=by
 unfold cP;rw[aEG,hc];rfl
theorem yP {c:UInt8}{r:aBs}(hl:eZ c=false)(hc:dH c=true):jQ (c::r)=if 10<cP dH (c::r)∨cP dH (c::r)<cP eA (c::r) then .err 6 else .tok 2 ((c::r).take (cP dH (c::r))) (undec ((c::r).take (cP dH (c::r)))) (cP dH (c::r)):=by
 have h0:¬ cP dH (c::r)=0:=by have:=aBV (r:=r) hc;omega
 unfold jQ readers kJ
 rw[xJ hl]
 simp only[kJ,rA,if_neg h0]
 by_cases h:10<cP dH (c::r)∨cP dH (c::r)<cP eA (c::r)
 ·simp only[if_pos h]
 ·simp only[if_neg h]
theorem yS {c:UInt8}{r:aBs}(hc:dH c=false):rA (c::r)=.none:=by
 rw[rA,if_pos (span_zero hc)]
theorem yO {c:UInt8}{r:aBs}(hl:eZ c=false)(hd:dH c=false)(hc:c.toNat=34):jQ (c::r)=jK r [] 0:=by
 unfold jQ readers kJ
 rw[xJ hl]
 simp only[kJ,yS hd,tW,if_pos hc]
 cases h:jK r [] 0 with
 | none=>exact absurd h (xD _ _ _)
 | _=>rfl
theorem vQ {c:UInt8}{r:aBs}(hl:eZ c=false)(hd:dH c=false)(hc:c.toNat≠34):jQ (c::r)=if wR (c::r)=0 then .err 5 else .tok 4 ((c::r).take (wR (c::r))) 0 (wR (c::r)):=by
 unfold jQ readers kJ
 rw[xJ hl]
 simp only[kJ,yS hd,tW,if_neg hc,vI]
 by_cases h:wR (c::r)=0
 ·simp only[if_pos h]
 ·simp only[if_neg h]
theorem undec_snoc (l:aBs)(c:UInt8):undec (l++[c])=undec l*10+(c.toNat - 48):=by
 simp[undec,List.foldl_append]
theorem undec_lt (l:aBs)(h:∀ c∈l,dH c=true):undec l<10 ^ l.length:=by
 have key:∀(r:aBs),(∀ c∈r,dH c=true)->undec r.reverse<10 ^ r.length:=by
  intro r
  induction r with
  | nil=>intro _;simp[undec]
  | cons c r ih =>
   intro h;have h1:=ih (λd hd=>h d (by simp[hd]));have h2:=aBf (h c zS)
   rw[List.reverse_cons,undec_snoc,aD1,Nat.pow_succ]
   omega
 have:=key l.reverse (λc hc=>h c (by simpa using hc))
 simpa using this
theorem readR_err {l:aBs}{e:Int}(h:jQ l=.err e):e=3∨e=5∨e=6∨e=7:=by
 cases l with
 | nil =>
  have:jQ []=.err 5:=rfl
  rw[this]at h
  cases h;omega
 | cons c r =>
  cases hl:eZ c with
  | true =>
   rw[vR hl]at h
   split at h<;>cases h
   omega
  | false =>
   cases hd:dH c with
   | true =>
    rw[yP hl hd]at h
    split at h<;>cases h
    omega
   | false =>
    by_cases h34:c.toNat=34
    ·rw[yO hl hd h34]at h
     have:=aAI _ _ _ h
     omega
    ·rw[vQ hl hd h34]at h
     split at h<;>cases h
     omega
theorem readR_some (l:aBs):jQ l≠.none:=by
 have key:∀ rs,kJ rs l≠.none:=by
  intro rs
  induction rs with
  | nil=>simp[kJ]
  | cons r rs ih =>
   rw[kJ]
   split
   ·exact ih
   ·assumption
 exact key _
def Post {α:Type}(m:PM α)(φ:α->Prop):Prop:=∀ ts a r,m ts=.ok (a,r)->φ a
theorem gN {α:Type}{φ:α->Prop}{a:α}(h:φ a):Post (pure a:PM α) φ:=by
 intro ts x r e;cases e;exact h
theorem cA {α β:Type}{m:PM α}{f:α->PM β}{φ:β->Prop}(hf:∀ a,Post (f a) φ):Post (m >>= f) φ:=by
 intro ts b r h;cases hq:m ts with
 | error e=>rw[aC9 hq]at h;cases h
 | ok p =>
  obtain⟨a,q⟩:=p
  rw[aDa hq]at h
  exact hf a _ _ _ h
theorem post_from {α β:Type}{m:PM α}{f:α->PM β}{ψ:α->Prop}{φ:β->Prop}(hm:Post m ψ)(hf:∀ a,ψ a->Post (f a) φ):Post (m >>= f) φ:=by
 intro ts b r h;cases hq:m ts with
 | error e=>rw[aC9 hq]at h;cases h
 | ok p =>
  obtain⟨a,q⟩:=p
  rw[aDa hq]at h
  exact hf a (hm _ _ _ hq) _ _ _ h
theorem iZ {α:Type}{p:Prop} [Decidable p] {m n:PM α}{φ:α->Prop}(hm:Post m φ)(hn:Post n φ):Post (if p then m else n) φ:=by
 split
 ·exact hm
 ·exact hn
def Kept (x y:It):Prop:=y.kind=x.kind/\y.name=x.name/\y.off=x.off
theorem yZ (z:Nat)(x:It):Post (qP z x) (Kept x):=cA λ_=>cA λ_=>cA λ_=>cA λ_=>cA λ_=>gN ⟨rfl,rfl,rfl⟩
theorem kept_part (z:Nat)(k:Int)(x:It):Post (uI z k x) (Kept x):=by
 unfold uI;refine iZ ?_ (iZ ?_ (iZ ?_ (iZ ?_ (iZ ?_ (iZ ?_ (iZ ?_ (iZ ?_ (iZ ?_ ?_))))))))
 ·exact cA λ_=>cA λ_=>cA λ_=>cA λ_=>gN ⟨rfl,rfl,rfl⟩
 ·exact cA λ_=>cA λ_=>gN ⟨rfl,rfl,rfl⟩
 ·exact cA λ_=>cA λ_=>cA λ_=>cA λ_=>iZ (cA λ_=>gN ⟨rfl,rfl,rfl⟩) (iZ (cA λ_=>cA λ_=>gN ⟨rfl,rfl,rfl⟩) (gN ⟨rfl,rfl,rfl⟩))
 ·exact cA λ_=>cA λ_=>cA λ_=>cA λ_=>cA λ_=>cA λ_=>gN ⟨rfl,rfl,rfl⟩
 ·exact cA λ_=>cA λ_=>cA λ_=>gN ⟨rfl,rfl,rfl⟩
 ·exact yZ z x
 ·refine post_from (yZ z x) λy hy=>cA λ_=>cA λ_=>cA λ_=>iZ (cA λ_=>gN ?_) (gN ?_)
  ·exact hy
  ·exact hy
 ·exact cA λ_=>cA λ_=>cA λ_=>gN ⟨rfl,rfl,rfl⟩
 ·exact cA λ_=>cA λ_=>gN ⟨rfl,rfl,rfl⟩
 ·exact cA λ_=>cA λ_=>gN ⟨rfl,rfl,rfl⟩
theorem Dec.lit (z:Nat):Dec (litE z) :=
 Dec.opt (Dec.bind (Dec.num z) λ_=>Dec.pure _) (Dec.opt (Dec.bind (Dec.num z) λ_=>Dec.pure _) (Dec.opt (Dec.pure _) (Dec.opt (Dec.pure _) (Dec.opt (Dec.pure _) (Dec.pure _)))))
theorem Dec.literal (z:Nat):Dec (kM z):=by
 intro ts a r h;cases ts with
 | nil=>cases h;exact aD6 _
 | cons t q =>
  unfold kM at h;dsimp only at h;split at h
  ·cases h;simp
  ·split at h
   ·cases h;simp
   ·exact Dec.lit z _ _ _ h
theorem Dec.value (z:Nat):Dec (wO z):=Dec.bind (Dec.literal z) λo=>by cases o<;>first|exact Dec.fail _ _|exact Dec.pure _
theorem Dec.side (z:Nat):Dec (aBZ z):=Dec.bind (Dec.literal z) λo=>by
 cases o with
 | some v=>exact Dec.pure _
 | none=>exact Dec.bind (Dec.name z) λ_=>Dec.opt (Dec.bind (Dec.name z) λ_=>Dec.pure _) (Dec.pure _)
theorem Dec.cond (z:Nat):Dec (aCk z) :=
 Dec.bind (Dec.side z) λ_=>Dec.bind (Dec.word _ _ _) λ_=>Dec.bind (Dec.side z) λ_=>Dec.opt (Dec.bind (Dec.num z) λ_=>Dec.pure _) (Dec.opt (Dec.bind (Dec.num z) λ_=>Dec.pure _) (Dec.pure _))
theorem Dec.column (z:Nat):Dec (uC z) :=
 Dec.bind (Dec.name z) λ_=>Dec.bind (Dec.word _ _ _) λ_=>Dec.opt (Dec.bind (Dec.value z) λ_=>Dec.pure _) (Dec.pure _)
theorem Dec.fixed (z:Nat):Dec (xV z):=Dec.bind (Dec.name z) λ_=>Dec.bind (Dec.need _ _) λ_=>Dec.bind (Dec.value z) λ_=>Dec.pure _
theorem Dec.var (z:Nat):Dec (varP z):=Dec.bind (Dec.name z) λ_=>Dec.bind (Dec.name z) λ_=>Dec.pure _
theorem Dec.term (z:Nat):Dec (yH z):=λ_ _ _ h=>by have:=termP_lt h;omega
theorem Dec.listA {α:Type}{sep:aBs}{one:PM α}(h:Dec one):∀(n:Nat)(acc:List α),Dec (Go.Proofs.YtohlogbnpfofpaaGreatDoor.listA sep one n acc)
 | 0,_=>Dec.pure _
 | n+1,acc=>Dec.opt (Dec.bind h λ_=>Dec.listA h n _) (Dec.pure _)
theorem Dec.list {α:Type}{sep:aBs}{one:PM α}(h:Dec one):Dec (nE sep one):=Dec.bind h λ_ ts a r e=>Dec.listA h _ _ ts a r e
theorem Dec.names (z:Nat):Dec (sY z):=Dec.list (Dec.name z)
theorem Dec.namesU (z:Nat)(s:aBs):Dec (Go.Proofs.YtohlogbnpfofpaaGreatDoor.namesU z s):=by
 intro ts a r h;cases hb:cJ [s] ts with
 | true=>rw[rD hb]at h;cases h;exact aD6 _
 | false=>rw[oE hb]at h;exact Dec.names z _ _ _ h
theorem Dec.conds (z:Nat):Dec (vD z):=Dec.bind (Dec.need _ _) λ_=>Dec.list (Dec.cond z)
theorem Dec.place (z:Nat):Dec (sQ z):=Dec.bind (Dec.name z) λ_=>Dec.bind (Dec.need _ _) λ_=>Dec.bind (Dec.name z) λ_=>Dec.pure _
theorem Dec.termsA (z:Nat):∀(n:Nat)(acc:List Trm),Dec (Go.Proofs.YtohlogbnpfofpaaGreatDoor.termsA z n acc)
 | 0,_=>Dec.pure _
 | n+1,acc=>by
  intro ts a r h;cases hb:cJ [[125]] ts with
  | true=>rw[uO hb]at h;cases h;exact aD6 _
  | false=>rw[wQ hb]at h;exact(Dec.bind (Dec.term z) λ_=>Dec.termsA z n _) _ _ _ h
theorem Dec.rest (z i off:Nat)(kids:List Ex):Dec (gZ z i off kids):=by
 match i with
 | 0=>exact Dec.bind (Dec.conds z) λ_=>Dec.pure _
 | 1=>exact Dec.bind (Dec.need _ _) λ_=>Dec.bind (Dec.namesU _ _) λ_=>Dec.pure _
 | 2=>exact Dec.pure _
 | 3=>exact Dec.pure _
 | 4=>exact Dec.pure _
 | 5=>exact Dec.bind (Dec.need _ _) λ_=>Dec.bind (Dec.name z) λ_=>Dec.bind (Dec.need _ _) λ_=>Dec.bind (Dec.name z) λ_=>Dec.pure _
 | 6=>exact Dec.bind (Dec.need _ _) λ_=>Dec.bind (Dec.namesU _ _) λ_=>Dec.bind (Dec.need _ _) λ_=>Dec.bind (Dec.word _ _ _) λ_=>Dec.bind (Dec.ifP (Dec.name z)) λ_=>Dec.bind (Dec.need _ _) λ_=>Dec.bind (Dec.name z) λ_=>Dec.pure _
 | n+7=>exact Dec.pure _
theorem Dec.expr (z:Nat):∀(n:Nat),Dec (dQ z n)
 | 0=>Dec.fail z 3
 | n+1=>by
  intro ts a r h
  rw[dQ]at h
  cases ho:vW ts with
  | none =>
   simp only[ho]at h
   exact(Dec.bind (Dec.name z) λ_=>Dec.pure _) _ _ _ h
  | some i =>
   simp only[ho]at h
   exact(Dec.bind (Dec.need _ _) λ_=>Dec.bind (Dec.expr z n) λ_=>Dec.bind (Dec.ifP (Dec.bind (Dec.need _ _) λ_=>Dec.bind (Dec.expr z n) λ_=>Dec.pure _)) λ_=>Dec.bind (Dec.rest _ _ _ _) λ_=>Dec.bind (Dec.need _ _) λ_=>Dec.pure _) _ _ _ h
theorem Dec.ite {α:Type}{p:Prop} [Decidable p] {m n:PM α}(hm:Dec m)(hn:Dec n):Dec (if p then m else n):=by
 split
 ·exact hm
 ·exact hn
theorem Dec.unique (z:Nat)(x:It):Dec (qP z x):=Dec.bind (Dec.need _ _) λ_=>Dec.bind (Dec.name z) λ_=>Dec.bind (Dec.need _ _) λ_=>Dec.bind (Dec.names z) λ_=>Dec.bind (Dec.need _ _) λ_=>Dec.pure _
theorem Dec.part (z:Nat)(k:Int)(x:It):Dec (uI z k x):=by
 unfold uI;refine Dec.ite ?_ (Dec.ite ?_ (Dec.ite ?_ (Dec.ite ?_ (Dec.ite ?_ (Dec.ite ?_ (Dec.ite ?_ (Dec.ite ?_ (Dec.ite ?_ ?_))))))))
 ·exact Dec.bind (Dec.need _ _) λ_=>Dec.bind (Dec.list (Dec.column z)) λ_=>Dec.bind (Dec.need _ _) λ_=>Dec.bind (Dec.names z) λ_=>Dec.pure _
 ·exact Dec.bind (Dec.need _ _) λ_=>Dec.bind (Dec.num z) λ_=>Dec.pure _
 ·exact Dec.bind (Dec.need _ _) λ_=>Dec.bind (Dec.place z) λ_=>Dec.bind (Dec.need _ _) λ_=>Dec.bind (Dec.word _ _ _) λ_=>Dec.ite (Dec.bind (Dec.num z) λ_=>Dec.pure _) (Dec.ite (Dec.bind (Dec.num z) λ_=>Dec.bind (Dec.num z) λ_=>Dec.pure _) (Dec.pure _))
 ·exact Dec.bind (Dec.need _ _) λ_=>Dec.bind (Dec.name z) λ_=>Dec.bind (Dec.need _ _) λ_=>Dec.bind (Dec.num z) λ_=>Dec.bind (Dec.need _ _) λ_=>Dec.bind (λts a r e=>Dec.termsA z _ _ ts a r e) λ_=>Dec.pure _
 ·exact Dec.bind (Dec.place z) λ_=>Dec.bind (Dec.need _ _) λ_=>Dec.bind (Dec.word _ _ _) λ_=>Dec.pure _
 ·exact Dec.unique z x
 ·exact Dec.bind (Dec.unique z x) λ_=>Dec.bind (Dec.need _ _) λ_=>Dec.bind (Dec.name z) λ_=>Dec.opt (Dec.bind (Dec.list (Dec.fixed z)) λ_=>Dec.pure _) (Dec.pure _)
 ·exact Dec.bind (Dec.place z) λ_=>Dec.bind (Dec.need _ _) λ_=>Dec.bind (Dec.place z) λ_=>Dec.pure _
 ·exact Dec.bind (Dec.list (Dec.var z)) λ_=>Dec.bind (Dec.conds z) λ_=>Dec.pure _
 ·exact Dec.bind (Dec.need _ _) λ_=>Dec.bind (Dec.expr z 12) λ_=>Dec.pure _
section
variable {Q : Nat -> Nat -> Prop}
class QT (Q : Nat -> Nat -> Prop) : Prop where
 tot:∀ n,∃ n',Q n n'
 zero:Q 0 0
instance:QT Eq:=⟨λn=>⟨n,rfl⟩,rfl⟩
instance:QT λ_ _=>True:=⟨λn=>⟨n,trivial⟩,trivial⟩
end
mutual
def ExQ (Q:Nat->Nat->Prop):Ex->Ex->Prop
 | .mk k t ks c n a s g o,.mk k' t' ks' c' n' a' s' g' o'=>k=k'/\t=t'/\c=c'/\n=n'/\a=a'/\s=s'/\g=g'/\Q o o'/\wM Q ks ks'
def wM (Q:Nat->Nat->Prop):List Ex->List Ex->Prop
 | [],[]=>True
 | x::xs,y::ys=>ExQ Q x y/\wM Q xs ys
 | _,_=>False
end
def ItQ (Q:Nat->Nat->Prop)(x y:It):Prop:=∃ o' e',y={ x with off:=o',expr:=e' }/\Q x.off o'/\ExQ Q x.expr e'
section
variable {Q : Nat -> Nat -> Prop}
variable [QT Q] {x x' : It} (h : ItQ Q x x')
include h
end
theorem aB4:∀(vs cs:aVs)(off m:Nat),(lset cs off vs).take m=lset (cs.take m) off vs
 | [],_,_,_=>rfl
 | v::vs,cs,off,m=>by rw[lset,aB4 vs,List.take_set,lset]
theorem StillVC.aDi {P:Program}{ty:TypeId}{s:aVs}{h:Heap}{K:KK}{Q:QQ}{h0:Base}{L:List Item}{t:TypeId}{a x:Operand}{zero vs:aVs}{by_:Nat}{agg:Bool}{v:Value}{e:TypeId}{sz n i:Nat}{xs:aVs}(o:Own h0 L h)(k:Nat)(hk:L[k]?=some (row v e sz n xs))(hT:TyI P t agg zero by_)
  (hz:zero.length=sz) (ha:ev s a=adr v (i*sz)) (hx:ev s x=.agg ⟨vs⟩) (hv:vs.length=sz) (hi:i<n) (hs0:0<sz) (h1:vs.all (λu=>u.oneCell')=true)
  (hK:∀ h',Own h0 (L.set k (row v e sz n (lset xs (i*sz) vs))) h'->K undef false h'):RunVC P (.store t a x) ty s h K Q :=
 .of_skip λw hw=>by
  subst hw;have hr:uE w.heap e sz v n xs:=o.sat _ (aDY hk)
  obtain⟨hl,hr⟩:=hr
  rcases hr with ⟨rfl,rfl⟩|⟨g,cap,cur,rfl,hg,hn,hm,hs,ht⟩
  ·omega
  ·have hb:w.heap[g]?=some (.cells cur.toList.toArray e (0,0)):=by simpa using hg
   have hroom:i*sz+sz<=cap*sz:=by
    have:(i+1)*sz<=cap*sz:=Nat.mul_le_mul_right _ zO
    rw[Nat.add_mul]at this;omega
   have hrun:=sK (P:=P) (b:=g) (off:=i*sz) vs 0 w cur.toList e 0 0 hb (.inl rfl) v_ (aD4.1 h1)
   refine⟨wsets w g (i*sz) vs,?_,(iT _ w g (i*sz)).2.2,?_⟩
   ·rw[adr]at ha
    have hva:(Value.agg ⟨vs⟩).cells=⟨vs⟩:=rfl
    simp[execOp,ha,hx,Instr.storeAt,Instr.sureAddr,storeVar,hT.sizeOf,hz,hv,hva,hrun]
   ·refine hK _ (o.set hk (Nat.le_of_eq (iT _ w g (i*sz)).1.symm) (λx _ hx=>(iT _ w g (i*sz)).2.1 x (λe=>hx (by subst e;rfl))) ?_ (λx hx=>.inl hx) (λx hx=>?_))
    ·refine⟨by rw[sZ];exact hl,.inr ⟨g,cap,(lset cur.toList (i*sz) vs).toArray,rfl,sets_blk _ _ _ _ _ _ _ _ hb,hn,hm,by simp[sZ,hs],?_⟩⟩
     rw[← ht]
     exact aB4 _ _ _ _
    ·rw[(iT _ w g (i*sz)).1];exact o.hi _ (aDY hk) x hx
theorem opIdx_none {ts:List Tok}(h:∀ j,j<7->cJ [dV.getD j [],[40]] ts=false):vW ts=none:=by
 unfold vW
 rw[List.find?_eq_none]
 intro j hj
 rw[h j (by simpa using hj)]
 decide
theorem exprP_none {z n:Nat}{ts:List Tok}(h:vW ts=none):dQ z (n+1) ts=(gB z >>= λt=>(pure (uB (bW ts) t):PM Ex)) ts:=by
 rw[dQ]
 simp only[h]
theorem kX {ts:List Tok}{i:Nat}(hi:i<7)(h:∀ j,j<i->cJ [dV.getD j [],[40]] ts=false)(hb:cJ [dV.getD i [],[40]] ts=true):vW ts=some i:=by
 unfold vW
 rw[List.find?_range_eq_some]
 exact⟨hb,by simpa using hi,λj hj=>by rw[h j hj];rfl⟩
theorem kZ {z n:Nat}{ts:List Tok}{i:Nat}(h:vW ts=some i):dQ z (n+1) ts=(cO z [dV.getD i [],[40]] >>= λ_=>dQ z n >>= λa=>ifP (aCx i) (cO z [[44]] >>= λ_=>dQ z n >>= λb=>pure [a,b]) [a] >>= λkids=>gZ z i (bW ts) kids >>= λx=>cO z [[41]] >>= λ_=>(pure x:PM Ex)) ts:=by
 rw[dQ]
 simp only[h]
theorem exR_leaf (I:Item)(t:aBs)(off:Nat):nK I (zG 1 t aP aP aP [] [] 0 off) (uB off t):=by
 unfold uB
 rw[nK]
 exact⟨_,_,_,rfl,aT,aT,[],aT,trivial⟩
theorem fY {I:Item}{h:Heap}(hI:I.sat h):∀ {x:Ex}{c:aVs},nK I c x->c.all (λu=>u.oneCell')=true
 | .mk kind table kids conds names attr as_ agg off,c,hx=>by
  rw[nK]at hx
  obtain⟨vk,vc,vn,rfl,h2,h3,xs,h4,_⟩:=hx
  obtain⟨a1,b1,rfl⟩:=h2.isS hI
  obtain⟨a2,b2,rfl⟩:=h3.isS hI
  obtain⟨a3,b3,rfl⟩:=h4.isS hI
  rfl
theorem cV {cs:aVs}{c:dG}(h:cs.length=9):lset ([]++cs) (0*9) c.1=c.1:=by
 rw[lnA,Nat.zero_mul,zZ _ _ _ (by rw[c.2,h];omega)]
 simp[c.2,h]
theorem mS.callL {g:FuncId}{args:aVs}{s:aVs}{h:Heap}{K:KK}{Q:QQ}{B:Base}{L X:List Item}{bp z:Nat}{tk:Item}{bx pb n:Nat}{res:Except (Int×Nat) (Ex×List Tok)}{kind:Int}{vk:Value}{kids:List Ex}{off:Nat}
  (sp:∀ B':Base,Own B' X h->Spec Tryz.prog g args h (mS B' bp z tk bx pb n res kind vk kids off)) (o:Own B L h) (ks js:List Nat) (hd:dst (ks++js)=true) (e:pick L ks=X)
  (hret:∀ x r w' c I h',res=.ok (x,r)->restR I c kind vk kids off x->r.length<=n->dC tk w' r->Own B ([box bp [w',iv z] 72,tk,box bx c 42,box pb [pv bp 0] 70,I]++pick L js) h'->K (.tuple ⟨[]⟩) false h')
  (hpan:∀ e w' h',res=.error e->Own B (PSt bp z w' tk) h'->Q (.panic (mG e)) s h'):CallVC Tryz.prog g args s h K Q:=by
 have ol:=o.lend ks js hd
 rw[e]at ol
 exact aDO (sp _ ol) (λv h' ⟨x,r,w',c,I,h1,h2,h3,h4,h5,h6⟩=>by subst h2;exact hret x r w' c I h' h1 h3 h4 h5 h6.back) (λc h' ⟨e,w',h1,h2,h3⟩=>by subst h2;exact hpan e w' h' h1 (h3.back.sel [0,1] rfl))
theorem fR {cs:aVs}{c d:dG}(h:cs.length=9):lset (c.1++cs) (1*9) d.1=c.1++d.1:=by
 rw[Nat.one_mul,zZ _ _ _ (by rw[aDX,d.2,c.2,h];exact aD6 _)]
 simp[c.2,d.2,h]
theorem xG (bx:Nat)(h:Heap):bG Tryz.prog 160 [pv bx 0] h λv h'=>v=.tuple ⟨[]⟩/\Own h [] h':=by
 refine eN Tryz.func160 Tryz.ntmps160 ?_;have o0:=Own.refl h;refine aDS rfl ?_
 exact⟨rfl,o0⟩
def exV (x:Ex)(v:Value)(I:Item):Prop:=∃ c:dG,v=.agg ⟨c.1⟩/\nK I c.1 x
def nO (n:Nat):Prop:=∀(level:Int)(_:level=13 - n)(B:Base)(bp z:Nat)(tk:Item)(w:Value)(ts:List Tok)(h:Heap)(_:Own B (PSt bp z w tk) h)(_:dC tk w ts)(_:ts.length<=5000),
 Spec Tryz.prog 118 [pv bp 0,iv level] h (dP B bp z tk ts.length (dQ z n ts) exV)
theorem expr_zero:nO 0:=by
 intro level hlv B bp z tk w ts h o hR hl;refine eN Tryz.func118 Tryz.ntmps118 ?_;refine aDH o aQ λb10 m10 o10=>?_;refine bB λc11=>aDO (mL 3 bp z w ts _ (Own.cellB zA 0 rfl 0) (Own.cellB zA 0 rfl 1) (Own.reads zA 1 hR.1 rfl)) (λ_ _ h=>h.elim) (λc h4 ⟨hc,ho⟩=>?_)
 exact⟨_,w,rfl,hc,(ho.thenE zA).sel [0,1] rfl⟩
theorem expr_leaf (n:Nat)(hn:n<=11)(ih:nO n):∀(level:Int)(_:level=13 - ((n+1:Nat):Int))(B:Base)(bp z:Nat)(tk:Item)(w:Value)(ts:List Tok)(h:Heap)(_:Own B (PSt bp z w tk) h)(_:dC tk w ts)(_:ts.length<=5000)(_:∀ j,j<7->cJ [dV.getD j [],[40]] ts=false),
  Spec Tryz.prog 118 [pv bp 0,iv level] h (dP B bp z tk ts.length (dQ z (n+1) ts) exV):=by
 intro level hlv B bp z tk w ts h o hR hl hno
 obtain⟨hRd,hK⟩:=hR
 have hR:dC tk w ts:=⟨hRd,hK⟩;refine eN Tryz.func118 Tryz.ntmps118 ?_;refine aDH o aQ λb10 m10 o10=>?_;refine bA λc11=>rR (aDd aE ?_);refine aI rfl ?_;refine aDH o10 aQ λb13 m13 o13=>?_;(refine sA o13 3 aQ ?_;intro m14 o14);refine cB ?_;refine fB gV ?_;refine oB o14 0 fS ?_;refine rR (aDw (o14.reads 1 hRd rfl) gW ?_);refine Br.join [19,20,21,22,23,24,25,26] [] (λ_ hh=>Own B [box bp [w,iv z] 72,tk,box b10 [iv 0,sv [],aP,aP,aP,sv [],sv [],iv 0,iv 0] 42,box b13 [iv 1,sv [],aP,aP,aP,sv [],sv [],iv 0,iv (bW ts)] 42] hh) rfl rfl ?_ ?_
 ·cases ts with
  | nil =>
   refine aDL ?_
   refine⟨rfl,?_⟩
   exact o14
  | cons t r =>
   have hx:(t::r)[0]?=some t:=rfl;have hln:(t::r).length=r.length+1:=rfl;refine bB λc30=>cB ?_;refine fB gV ?_;refine oB o14 0 fS ?_;refine rR (aDe gW bR (o14.reads 1 hRd rfl) rfl zO zO ?_);refine rR (aDf (o14.reads 1 hRd rfl) zO fU rfl rfl rfl ?_);refine rR (aDl (o14.reads 1 hRd rfl) aK (λ_=>rfl) rfl zA rfl ?_);refine fB aE ?_;(refine sA o14 3 aK ?_;intro m38 o38)
   refine⟨rfl,?_⟩
   exact o_ [0,1,2,3]
 ·intro vs junk hh oh
  refine aDN (fQ bp _) ?_;rintro _ h2 ⟨bo,pb,rfl,oc⟩;have o2:=oh.call oc
  simp only[lcA,lnA]at o2
  clear oc;refine lB eR ?_;refine aDT [6,7,30,31,32,33,34,35,36,37,38,39,40,41,42,43,44,45,46,47,48,49,50,51,52,53,54,55,56,57,58,59,60,61,62,63,64,65,66,67,68,69,70,71,72,73,74,75,76,77,78,79,80,81,82,83] [30] (λvs hh=>∃(i:Nat),i<=7/\vs=[.int .i64 i]/\Own B [box bp [w,.int .i64 z] 72,tk,box b10 [.int .i64 0,.string ⟨⟨[]⟩⟩,aP,aP,aP,.string ⟨⟨[]⟩⟩,.string ⟨⟨[]⟩⟩,.int .i64 0,.int .i64 0] 42,box b13 [.int .i64 1,.string ⟨⟨[]⟩⟩,aP,aP,aP,.string ⟨⟨[]⟩⟩,.string ⟨⟨[]⟩⟩,.int .i64 0,.int .i64 (bW ts)] 42,box pb [pv bp 0] 70,box bo (sU pb) 188] hh) (λvs _=>match vs with|[.int _ i]=>7 - i.toNat|_=>0) ?_ ?_
  ·exact⟨0,by omega,rfl,o2⟩
  ·rintro vs' junk' h3 ⟨i,hi,rfl,o3⟩
   clear o14 oh o2;have hoL:(sU pb).length=7*3:=rfl
   rcases(by omega:i=0∨i=1∨i=2∨i=3∨i=4∨i=5∨i=6∨i=7) with rfl|rfl|rfl|rfl|rfl|rfl|rfl|rfl
   ·refine aDK ?_
    refine rR (aDe eR aX (o3.boxArrN 5 rfl zA zO) rfl zO zO ?_);refine nB o3 5 aX ?_;refine aDH o3 aX λb1002 m1002 o1002=>?_;(refine sA o1002 6 aX ?_;intro m1003 o1003);refine fB cX ?_;refine oB o1003 6 aC ?_;refine lA o1003 aB aC λb1006 m1006 o1006=>?_;refine aDN (bZ [[115,101,108,101,99,116],[40]] _ bp w ts _ (Own.cellB zA 0 rfl 0) (Own.reads zA 1 hR.1 rfl) (Own.boxArr zA 7 rfl rfl zD) hl) ?_;rintro _ h4 ⟨rv,oc⟩;have o4:=oc.thenE zA;clear oc;have hb:cJ [[115,101,108,101,99,116],[40]] ts=false:=hno 0 zD
    rw[hb]at rv
    subst rv;refine aDK (aR ?_)
    refine⟨rfl,?_⟩
    exact⟨⟨1,by omega,rfl,o_ [0,1,2,3,4,5]⟩,by simp⟩
   ·refine aDK ?_
    refine rR (aDe eR aX (o3.boxArrN 5 rfl zA zO) rfl zO zO ?_);refine nB o3 5 aX ?_;refine aDH o3 aX λb2002 m2002 o2002=>?_;(refine sA o2002 6 aX ?_;intro m2003 o2003);refine fB cX ?_;refine oB o2003 6 aC ?_;refine lA o2003 aB aC λb2006 m2006 o2006=>?_;refine aDN (bZ [[112,114,111,106,101,99,116],[40]] _ bp w ts _ (Own.cellB zA 0 rfl 0) (Own.reads zA 1 hR.1 rfl) (Own.boxArr zA 7 rfl rfl zD) hl) ?_;rintro _ h4 ⟨rv,oc⟩;have o4:=oc.thenE zA;clear oc;have hb:cJ [[112,114,111,106,101,99,116],[40]] ts=false:=hno 1 zD
    rw[hb]at rv
    subst rv;refine aDK (aR ?_)
    refine⟨rfl,?_⟩
    exact⟨⟨2,by omega,rfl,o_ [0,1,2,3,4,5]⟩,by simp⟩
   ·refine aDK ?_
    refine rR (aDe eR aX (o3.boxArrN 5 rfl zA zO) rfl zO zO ?_);refine nB o3 5 aX ?_;refine aDH o3 aX λb3002 m3002 o3002=>?_;(refine sA o3002 6 aX ?_;intro m3003 o3003);refine fB cX ?_;refine oB o3003 6 aC ?_;refine lA o3003 aB aC λb3006 m3006 o3006=>?_;refine aDN (bZ [[106,111,105,110],[40]] _ bp w ts _ (Own.cellB zA 0 rfl 0) (Own.reads zA 1 hR.1 rfl) (Own.boxArr zA 7 rfl rfl zD) hl) ?_;rintro _ h4 ⟨rv,oc⟩;have o4:=oc.thenE zA;clear oc;have hb:cJ [[106,111,105,110],[40]] ts=false:=hno 2 zD
    rw[hb]at rv
    subst rv;refine aDK (aR ?_)
    refine⟨rfl,?_⟩
    exact⟨⟨3,by omega,rfl,o_ [0,1,2,3,4,5]⟩,by simp⟩
   ·refine aDK ?_
    refine rR (aDe eR aX (o3.boxArrN 5 rfl zA zO) rfl zO zO ?_);refine nB o3 5 aX ?_;refine aDH o3 aX λb4002 m4002 o4002=>?_;(refine sA o4002 6 aX ?_;intro m4003 o4003);refine fB cX ?_;refine oB o4003 6 aC ?_;refine lA o4003 aB aC λb4006 m4006 o4006=>?_;refine aDN (bZ [[117,110,105,111,110],[40]] _ bp w ts _ (Own.cellB zA 0 rfl 0) (Own.reads zA 1 hR.1 rfl) (Own.boxArr zA 7 rfl rfl zD) hl) ?_;rintro _ h4 ⟨rv,oc⟩;have o4:=oc.thenE zA;clear oc;have hb:cJ [[117,110,105,111,110],[40]] ts=false:=hno 3 zD
    rw[hb]at rv
    subst rv;refine aDK (aR ?_)
    refine⟨rfl,?_⟩
    exact⟨⟨4,by omega,rfl,o_ [0,1,2,3,4,5]⟩,by simp⟩
   ·refine aDK ?_
    refine rR (aDe eR aX (o3.boxArrN 5 rfl zA zO) rfl zO zO ?_);refine nB o3 5 aX ?_;refine aDH o3 aX λb5002 m5002 o5002=>?_;(refine sA o5002 6 aX ?_;intro m5003 o5003);refine fB cX ?_;refine oB o5003 6 aC ?_;refine lA o5003 aB aC λb5006 m5006 o5006=>?_;refine aDN (bZ [[109,105,110,117,115],[40]] _ bp w ts _ (Own.cellB zA 0 rfl 0) (Own.reads zA 1 hR.1 rfl) (Own.boxArr zA 7 rfl rfl zD) hl) ?_;rintro _ h4 ⟨rv,oc⟩;have o4:=oc.thenE zA;clear oc;have hb:cJ [[109,105,110,117,115],[40]] ts=false:=hno 4 zD
    rw[hb]at rv
    subst rv;refine aDK (aR ?_)
    refine⟨rfl,?_⟩
    exact⟨⟨5,by omega,rfl,o_ [0,1,2,3,4,5]⟩,by simp⟩
   ·refine aDK ?_
    refine rR (aDe eR aX (o3.boxArrN 5 rfl zA zO) rfl zO zO ?_);refine nB o3 5 aX ?_;refine aDH o3 aX λb6002 m6002 o6002=>?_;(refine sA o6002 6 aX ?_;intro m6003 o6003);refine fB cX ?_;refine oB o6003 6 aC ?_;refine lA o6003 aB aC λb6006 m6006 o6006=>?_;refine aDN (bZ [[114,101,110,97,109,101],[40]] _ bp w ts _ (Own.cellB zA 0 rfl 0) (Own.reads zA 1 hR.1 rfl) (Own.boxArr zA 7 rfl rfl zD) hl) ?_;rintro _ h4 ⟨rv,oc⟩;have o4:=oc.thenE zA;clear oc;have hb:cJ [[114,101,110,97,109,101],[40]] ts=false:=hno 5 zD
    rw[hb]at rv
    subst rv;refine aDK (aR ?_)
    refine⟨rfl,?_⟩
    exact⟨⟨6,by omega,rfl,o_ [0,1,2,3,4,5]⟩,by simp⟩
   ·refine aDK ?_
    refine rR (aDe eR aX (o3.boxArrN 5 rfl zA zO) rfl zO zO ?_);refine nB o3 5 aX ?_;refine aDH o3 aX λb7002 m7002 o7002=>?_;(refine sA o7002 6 aX ?_;intro m7003 o7003);refine fB cX ?_;refine oB o7003 6 aC ?_;refine lA o7003 aB aC λb7006 m7006 o7006=>?_;refine aDN (bZ [[103,114,111,117,112],[40]] _ bp w ts _ (Own.cellB zA 0 rfl 0) (Own.reads zA 1 hR.1 rfl) (Own.boxArr zA 7 rfl rfl zD) hl) ?_;rintro _ h4 ⟨rv,oc⟩;have o4:=oc.thenE zA;clear oc;have hb:cJ [[103,114,111,117,112],[40]] ts=false:=hno 6 zD
    rw[hb]at rv
    subst rv;refine aDK (aR ?_)
    refine⟨rfl,?_⟩
    exact⟨⟨7,by omega,rfl,o_ [0,1,2,3,4,5]⟩,by simp⟩
   ·have hE:dQ z (n+1) ts=(gB z >>= λt=>(pure (uB (bW ts) t):PM Ex)) ts:=exprP_none (opIdx_none hno)
    refine aDL (dA.callL zA rfl hR zO (λa q w2 v h4 hm hv hle hR2 oq=>?_) (λe w2 h4 hm o2=>⟨e,w2,hE.trans (aC9 hm),rfl,o2⟩));subst hv
    rw[aDa hm]at hE
    have o9:=oq
    simp only[PSt,pick,l_]at o9
    clear oq hm;refine fB aE ?_;(refine sB o9 3 aC ?_;intro m71 o71);refine nB o71 3 aQ ?_;(refine sA o71 2 aQ ?_;intro m73 o73)
    first|refine r1_ o73 2 aQ ?_|refine r2_ o73 2 aQ ?_
    exact⟨uB (bW ts) a,q,w2,iV,hE,⟨⟨zG 1 a aP aP aP [] [] 0 (bW ts),rfl⟩,rfl,exR_leaf _ _ _⟩,by omega,hR2,(o_ [0,1]).emptyI'.sel [1,2,0] rfl⟩
theorem expr_select (n:Nat)(hn:n<=11)(ih:nO n):∀(level:Int)(_:level=13 - ((n+1:Nat):Int))(B:Base)(bp z:Nat)(tk:Item)(w:Value)(ts:List Tok)(h:Heap)(_:Own B (PSt bp z w tk) h)(_:dC tk w ts)(_:ts.length<=5000)(_:∀ j,j<0->cJ [dV.getD j [],[40]] ts=false)(_:cJ [[115,101,108,101,99,116],[40]] ts=true),
  Spec Tryz.prog 118 [pv bp 0,iv level] h (dP B bp z tk ts.length (dQ z (n+1) ts) exV):=by
 intro level hlv B bp z tk w ts h o hR hl hno hb
 obtain⟨hRd,hK⟩:=hR
 have hR:dC tk w ts:=⟨hRd,hK⟩;refine eN Tryz.func118 Tryz.ntmps118 ?_;refine aDH o aQ λb10 m10 o10=>?_;refine bA λc11=>rR (aDd aE ?_);refine aI rfl ?_;refine aDH o10 aQ λb13 m13 o13=>?_;(refine sA o13 3 aQ ?_;intro m14 o14);refine cB ?_;refine fB gV ?_;refine oB o14 0 fS ?_;refine rR (aDw (o14.reads 1 hRd rfl) gW ?_);refine Br.join [19,20,21,22,23,24,25,26] [] (λ_ hh=>Own B [box bp [w,iv z] 72,tk,box b10 [iv 0,sv [],aP,aP,aP,sv [],sv [],iv 0,iv 0] 42,box b13 [iv 1,sv [],aP,aP,aP,sv [],sv [],iv 0,iv (bW ts)] 42] hh) rfl rfl ?_ ?_
 ·cases ts with
  | nil =>
   refine aDL ?_
   refine⟨rfl,?_⟩
   exact o14
  | cons t r =>
   have hx:(t::r)[0]?=some t:=rfl;have hln:(t::r).length=r.length+1:=rfl;refine bB λc30=>cB ?_;refine fB gV ?_;refine oB o14 0 fS ?_;refine rR (aDe gW bR (o14.reads 1 hRd rfl) rfl zO zO ?_);refine rR (aDf (o14.reads 1 hRd rfl) zO fU rfl rfl rfl ?_);refine rR (aDl (o14.reads 1 hRd rfl) aK (λ_=>rfl) rfl zA rfl ?_);refine fB aE ?_;(refine sA o14 3 aK ?_;intro m38 o38)
   refine⟨rfl,?_⟩
   exact o_ [0,1,2,3]
 ·intro vs junk hh oh
  refine aDN (fQ bp _) ?_;rintro _ h2 ⟨bo,pb,rfl,oc⟩;have o2:=oh.call oc
  simp only[lcA,lnA]at o2
  clear oc;refine lB eR ?_;refine aDT [6,7,30,31,32,33,34,35,36,37,38,39,40,41,42,43,44,45,46,47,48,49,50,51,52,53,54,55,56,57,58,59,60,61,62,63,64,65,66,67,68,69,70,71,72,73,74,75,76,77,78,79,80,81,82,83] [30] (λvs hh=>∃(i:Nat),i<=0/\vs=[.int .i64 i]/\Own B [box bp [w,.int .i64 z] 72,tk,box b10 [.int .i64 0,.string ⟨⟨[]⟩⟩,aP,aP,aP,.string ⟨⟨[]⟩⟩,.string ⟨⟨[]⟩⟩,.int .i64 0,.int .i64 0] 42,box b13 [.int .i64 1,.string ⟨⟨[]⟩⟩,aP,aP,aP,.string ⟨⟨[]⟩⟩,.string ⟨⟨[]⟩⟩,.int .i64 0,.int .i64 (bW ts)] 42,box pb [pv bp 0] 70,box bo (sU pb) 188] hh) (λvs _=>match vs with|[.int _ i]=>7 - i.toNat|_=>0) ?_ ?_
  ·exact⟨0,by omega,rfl,o2⟩
  ·rintro vs' junk' h3 ⟨i,hi,rfl,o3⟩
   clear o14 oh o2;have hoL:(sU pb).length=7*3:=rfl
   rcases(by omega:i=0) with rfl
   ·refine aDK ?_
    refine rR (aDe eR aX (o3.boxArrN 5 rfl zA zO) rfl zO zO ?_);refine nB o3 5 aX ?_;refine aDH o3 aX λb1002 m1002 o1002=>?_;(refine sA o1002 6 aX ?_;intro m1003 o1003);refine fB cX ?_;refine oB o1003 6 aC ?_;refine lA o1003 aB aC λb1006 m1006 o1006=>?_;refine aDN (bZ [[115,101,108,101,99,116],[40]] _ bp w ts _ (Own.cellB zA 0 rfl 0) (Own.reads zA 1 hR.1 rfl) (Own.boxArr zA 7 rfl rfl zD) hl) ?_;rintro _ h4 ⟨rv,oc⟩;have o4:=oc.thenE zA;clear oc
    rw[hb]at rv
    subst rv;have hE:dQ z (n+1) ts=(cO z [[115,101,108,101,99,116],[40]] >>= λ_=>dQ z n >>= λa=>ifP (aCx 0) (cO z [[44]] >>= λ_=>dQ z n >>= λb=>pure [a,b]) [a] >>= λkids=>gZ z 0 (bW ts) kids >>= λx=>cO z [[41]] >>= λ_=>(pure x:PM Ex)) ts:=kZ (kX zD hno hb);have o5:=o4.sel [0,1,2,3,4,6] rfl
    simp only[PSt,pick,l_]at o5
    clear o3 o4;refine aDL (aR ?_);refine fB aE ?_;(refine sB o5 3 aK ?_;intro m1041 o1041);refine fB cX ?_;refine oB o1041 5 aC ?_;refine lA o1041 aB aC λb1044 m1044 o1044=>?_;refine aW (ss:=[[115,101,108,101,99,116],[40]]) zA rfl ⟨6,by decide,rfl⟩ hR zO zD (λ_ q1 w1 v h5 hm hv hle1 hR1 oq=>?_) (λe w' h' hm o2=>⟨e,w',hE.trans (aC9 hm),rfl,o2⟩);subst hv
    rw[aDa hm]at hE
    have o6:=oq.sel [0,1,2,3,4,5] rfl
    simp only[PSt,pick,l_]at o6
    clear oq hm;refine DrawVC.join [49,50,51,52,53,54,55,56,57,58,59] [] (λ_ hh=>∃(a1:Ex) (q2:List Tok) (w2:Value) (c1:dG) (I1:Item) (ua:Option Addr) (uc:Nat),dQ z n q1=.ok (a1,q2)/\q2.length<=q1.length/\dC tk w2 q2/\nK I1 c1.1 a1/\Own B [box bp [w2,iv z] 72,tk,I1,box b10 [iv 0,sv [],aP,aP,aP,sv [],sv [],iv 0,iv 0] 42,box b13 [iv 2,sv [],.slice ua 1 uc,aP,aP,sv [],sv [],iv 0,iv (bW ts)] 42,box pb [pv bp 0] 70,box b1002 [sv [115,101,108,101,99,116],.bool false,.func (.func 161) ⟨[]⟩ ⟨[pv pb 0]⟩] 188,row (.slice ua 1 uc) 42 9 1 c1.1] hh) ?_ ?_
    ·refine aDs b13 [0,2,3,4,6,9,11] [1] [8,10,12] (.one 0 (.one 1 (.one 2 (.one 3 (.one 4 (.one 6 (.fork 5 7 (.one 7 (.one 8 (.one 9 (.one 11 (.fork 10 12 (.one 12 .done) (.one 10 .done)))))) (.one 5 (.one 8 (.one 9 (.one 11 (.fork 10 12 (.one 12 .done) (.one 10 .done))))))))))))) mixed k_ rfl (λ_ _ _ _ h=>h) ?_
     refine fC aE ?_;refine StillVCA.load1 cR rfl rfl ((o6.cellB 3 rfl _).trans rfl) ?_;refine aR (aDz rfl cH ?_)
     refine⟨?_,?_⟩
     ·skip
      refine dP.callL (λB' o'=>ih (level+1) zO B' bp z tk _ _ _ o' hR1 zO) zA rfl (λa1 q2 w2 v I1 h6 hm hv hle2 hR2 oq=>?_) (λe w' h' hm o2=>⟨e,w',hE.trans (aC9 hm),rfl,o2⟩)
      obtain⟨c1,rfl,hx1⟩:=hv
      have o7:=oq
      simp only[PSt,pick,l_]at o7
      clear oq
      refine⟨Eq.trans (Own.satK o7 4 rfl) (Eq.symm (Own.satK (x:=box b13 _ _) zA 3 rfl)),?_⟩
      have one1:=fY (Own.satK o7 2 rfl) hx1;(refine aDt o7 cH aQ rfl rfl zD ?_);refine aI rfl ?_;intro b1101 m1101 o1101;refine aI ((o1101.boxBlk 4 rfl).trans (o7.boxBlk 4 rfl).symm) ?_;have on:=Own.nilRow zA 42 9
      simp only[lcA,lnA]at on
      refine aDI on 8 rfl cH aQ zD (Own.boxArrN on 7 rfl (n:=1) rfl zO) c_ (by simp only[maxLen];omega) zO ?_;intro vA mA oA
      obtain⟨ua,uc,rfl⟩:=oA.rowIs 8 rfl
      refine aDe cH aQ (oA.rowArrN 8 rfl) rfl zO zO ?_;refine fC aE ?_
      refine⟨?_,?_⟩
      ·skip
       refine aDi (i:=0) zA 8 rfl aQ rfl rfl rfl c1.2 zD zD one1 ?_;intro mB oB
       simp only[lsS,lsZ]at oB
       (refine sB oB 4 cR ?_;intro m1140 o1140)
       refine⟨rfl,?_⟩
       have ef:=cV (cs:=[iv 0,sv [],aP,aP,aP,sv [],sv [],iv 0,iv 0]) (c:=c1) rfl
       exact⟨a1,q2,w2,c1,I1,ua,uc,hm,hle2,hR2,hx1,ef▸o_ [0,1,2,3,4,5,6,8]⟩
      ·skip
       (refine sB oA 4 cR ?_;intro m1150 o1150);refine aDi (i:=0) zA 8 rfl aQ rfl rfl rfl c1.2 zD zD one1 ?_;intro mB oB
       simp only[lsS,lsZ]at oB
       refine⟨rfl,?_⟩
       have ef:=cV (cs:=[iv 0,sv [],aP,aP,aP,sv [],sv [],iv 0,iv 0]) (c:=c1) rfl
       exact⟨a1,q2,w2,c1,I1,ua,uc,hm,hle2,hR2,hx1,ef▸o_ [0,1,2,3,4,5,6,8]⟩
     ·skip
      (refine aDt o6 cH aQ rfl rfl zD ?_);refine aI rfl ?_;intro b1281 m1281 o1281;refine aI ((o1281.boxBlk 3 rfl).trans (o6.boxBlk 3 rfl).symm) ?_;refine dP.callL (λB' o'=>ih (level+1) zO B' bp z tk _ _ _ o' hR1 zO) zA rfl (λa1 q2 w2 v I1 h6 hm hv hle2 hR2 oq=>?_) (λe w' h' hm o2=>⟨e,w',hE.trans (aC9 hm),rfl,o2⟩)
      obtain⟨c1,rfl,hx1⟩:=hv
      have o7:=oq
      simp only[PSt,pick,l_]at o7
      clear oq
      refine⟨Eq.trans (Own.satK o7 4 rfl) (Eq.symm (Own.satK (x:=box b13 _ _) zA 3 rfl)),?_⟩
      have one1:=fY (Own.satK o7 2 rfl) hx1;have on:=Own.nilRow zA 42 9
      simp only[lcA,lnA]at on
      refine aDI on 8 rfl cH aQ zD (Own.boxArrN on 7 rfl (n:=1) rfl zO) c_ (by simp only[maxLen];omega) zO ?_;intro vA mA oA
      obtain⟨ua,uc,rfl⟩:=oA.rowIs 8 rfl
      refine aDe cH aQ (oA.rowArrN 8 rfl) rfl zO zO ?_;refine fC aE ?_
      refine⟨?_,?_⟩
      ·skip
       refine aDi (i:=0) zA 8 rfl aQ rfl rfl rfl c1.2 zD zD one1 ?_;intro mB oB
       simp only[lsS,lsZ]at oB
       (refine sB oB 4 cR ?_;intro m1340 o1340)
       refine⟨rfl,?_⟩
       have ef:=cV (cs:=[iv 0,sv [],aP,aP,aP,sv [],sv [],iv 0,iv 0]) (c:=c1) rfl
       exact⟨a1,q2,w2,c1,I1,ua,uc,hm,hle2,hR2,hx1,ef▸o_ [0,1,2,3,4,5,6,8]⟩
      ·skip
       (refine sB oA 4 cR ?_;intro m1350 o1350);refine aDi (i:=0) zA 8 rfl aQ rfl rfl rfl c1.2 zD zD one1 ?_;intro mB oB
       simp only[lsS,lsZ]at oB
       refine⟨rfl,?_⟩
       have ef:=cV (cs:=[iv 0,sv [],aP,aP,aP,sv [],sv [],iv 0,iv 0]) (c:=c1) rfl
       exact⟨a1,q2,w2,c1,I1,ua,uc,hm,hle2,hR2,hx1,ef▸o_ [0,1,2,3,4,5,6,8]⟩
    ·rintro _ junk2 h7 ⟨a1,q2,w2,c1,I1,ua,uc,hm,hle2,hR2,hx1,o8⟩
     rw[aDa hm]at hE
     rw[tH (by rfl),aDm]at hE
     refine fB cX ?_;refine oB o8 6 yF ?_;refine aDL (aDU ?_);refine fB cX ?_;refine oB o8 6 aAk ?_;refine mS.callL (λB' o'=>rest0_spec (bW ts) (.slice ua 1 uc) [a1] B' bp z tk b13 pb w2 q2 h7 o' hR2 zO) o8 [0,1,4,5] [2,3,7] rfl rfl (λx q3 w3 c J h8 hm3 hJ hle3 hR3 oq=>?_) (λe w' h' hm3 o2=>⟨e,w',hE.trans (aC9 hm3),rfl,o2⟩)
     rw[aDa hm3]at hE
     obtain⟨vc,vn,cs,ns,at_,as_,ag,rfl,rfl,rc,rn⟩:=hJ
     unfold zG at oq;have o9:=oq
     simp only[PSt,pick,l_]at o9
     clear oq o8
     obtain⟨xa,xb,rfl⟩:=rc.isS (Own.satK o9 4 rfl)
     obtain⟨ya,yb,rfl⟩:=rn.isS (Own.satK o9 4 rfl)
     refine lA o9 aB aC λb1520 m1520 o1520=>?_;refine aW (ss:=[[41]]) zA rfl ⟨8,by decide,rfl⟩ hR3 zO zD (λ_ q4 w4 v h9 hm4 hv hle4 hR4 oq=>?_) (λe w' h' hm o2=>⟨e,w',hE.trans (aC9 hm),rfl,o2⟩);subst hv
     rw[aDa hm4]at hE
     have o10:=oq
     simp only[PSt,pick,l_]at o10
     clear oq o9;refine nB o10 2 aQ ?_;(refine sA o10 6 aQ ?_;intro m1541 o1541)
     first|refine r1_ o1541 6 aQ ?_|refine r2_ o1541 6 aQ ?_
     have er:[c1].flatMap Subtype.val=c1.1:=by simp
     exact⟨_,q4,w4,fE (fE J I1) (row (.slice ua 1 uc) 42 9 1 c1.1),hE,⟨⟨zG 2 [] (.slice ua 1 uc) (.slice xa cs.length xb) (.slice ya ns.length yb) at_ as_ ag (bW ts),rfl⟩,rfl,by rw[nK];exact⟨_,_,_,rfl,rc.inl.inl,rn.inl.inl,[c1],by rw[er];exact eG.inr,nK.mono (λ_ (s:(fE (fE _ _) _).sat _)=>s.1.2) _ _ hx1,trivial⟩⟩,by omega,hR4,((o_ [4,5,7,0,1]).join.join).sel [1,2,0] rfl⟩
end Go.Proofs.YtohlogbnpfofpaaGreatDoor
