/- Part 7 of the proof of gaps,items: FnQy, FnIt, FnPr, FnPs, FnSm, FnSo, FnLr, FnLexA, FnQa, FnWa, FnWb, FnWc, FnWd, FnWe, FnWf, FnQb, FnQg, FnXa, FnRepS, FnRepO. -/
import Derived.Lib.Builder
import Derived.Test.YtohlogbnpfofpaaGreatDoorPA06
set_option linter.all false
set_option maxHeartbeats 100000000
set_option maxRecDepth 100000
namespace Go.Proofs.YtohlogbnpfofpaaGreatDoor
open Go StillVC
theorem query_part (kd:Int)(nm:List UInt8)(off:Nat)(B:Base)(bp z:Nat)(tk:Item)(bx:Nat)(w:Value)(ts:List Tok)(h:Heap)(o:Own B [box bp [w,.int .i64 z] 72,tk,box bx (lK kd nm off) 44] h)(hR:cH tk w ts)(hl:ts.length≤5000) :
  Spec Tryz.prog 66 [.pointer (some ⟨bp,0,none⟩),.pointer (some ⟨bx,0,none⟩)] h (gU B bp z tk bx ts.length (aA8 z (x0 kd nm off) ts)):=by
 have hE:=congrFun (aA8.eq_1 z (x0 kd nm off)) ts;unfold lK at o;refine Spec.enter Tryz.func66 rfl Tryz.ntmps66 (by kernel_rfl) ?_;(refine RunVC.lit o aH aN rfl rfl (by decide) (aI rfl ?_);intro b10 m10 o10);refine aS (ss:=[[61]]) ‹_› rfl (by first|exact⟨2,by decide,rfl⟩|exact⟨3,by decide,rfl⟩|exact⟨4,by decide,rfl⟩|exact⟨5,by decide,rfl⟩|exact⟨6,by decide,rfl⟩|exact⟨7,by decide,rfl⟩|exact⟨8,by decide,rfl⟩|exact⟨9,by decide,rfl⟩) hR (by omega) (by decide) (fun _ q1 w1 v h1 hm hv hle1 hR1 oq=>?_) (fun e w' h' hm o2=>⟨e,w',hE.trans (PM.aBy hm),rfl,o2⟩);subst hv
 rw[PM.aBz hm]at hE
 have o1:=oq
 simp only[PSt,pick,lcA,lnA,lgS,lgZ,lgN]at o1
 clear oq hm;refine cQ.callL (fun B' o'=>aAM 12 (Nat.le_refl _) 1 (by omega) B' bp z tk _ _ _ o' hR1 (by omega)) ‹_› rfl (fun x q wq v I h' hm hv hle hR' oq=>?_) (fun e w' h' hm o2=>⟨e,w',hE.trans (PM.aBy hm),rfl,o2⟩)
 obtain⟨⟨c,hc⟩,rfl,hx⟩:=hv
 rw[PM.aBz hm]at hE
 have o9:=oq
 simp only[PSt,pick,lcA,lnA,lgS,lgZ,lgN]at o9
 clear oq hm
 obtain⟨kind,table,kids,conds,names,attr,as_,agg,eo⟩:=x
 simp only[lB]at hx
 have hx0:=hx
 obtain⟨vk,vc,vn,rfl,h2,h3,xs,h4,h5⟩:=hx
 obtain⟨a1,b1,rfl⟩:=h2.isS (Own.satK o9 2 rfl)
 obtain⟨a2,b2,rfl⟩:=h3.isS (Own.satK o9 2 rfl)
 obtain⟨a3,b3,rfl⟩:=h4.isS (Own.satK o9 2 rfl)
 unfold wB at hx0 hc;refine run (nC rfl ?_);refine run (fA aY rfl rfl rfl ?_);(refine RunVC.store o9 3 rfl aT rfl (by simp) (aI ⟨rfl,rfl⟩ ?_);intro m32 o32);refine RetVC.zero rfl ?_
 exact⟨_,q,wq,_,I,hE,rfl,⟨_,_,_,_,_,_,_,_,_,_,_,_,_,_,_,rfl,aM,aM,aM,aM,aM,aM,by simp only[lB];exact hx0⟩,by omega,hR',Own.sel ‹_› [0,1,3,2] rfl⟩
def jE (h:Heap):Prop:=∀ i,i<10→aX h ⟨0,i,none⟩=(strs eM)[i]?
theorem jE.ext {h h':Heap}(w:jE h)(e:Ext h h'):jE h':=fun i hi=>by
 have h1:(strs eM)[i]?=some ((strs eM)[i]'(by have:(strs eM).length=10:=rfl;omega)):=by simp
 rw[h1]
 exact e.cell ((w i hi).trans h1)
theorem jE.keep {B:Base}(w:jE B.h):qZ B (.slice (some ⟨0,0,none⟩) 10 10) eM:=fun L h o =>
 ⟨_,_,rfl,Nat.le_refl _,.inr ⟨_,0,rfl,fun i hi=>by rw[Nat.zero_add];exact(w.ext o.ext) i hi⟩⟩
theorem tW:∀(z:Nat)(ss:List (List UInt8))(i:Int) {ts r:List Tok}{k:Int},fG z ss i ts=.ok (k,r)→i≤k∧k<i+ss.length∧r.length<ts.length
 | z,[],i,ts,r,k,h=>by cases h
 | z,s::ss,i,ts,r,k,h=>by
  unfold fG at h;cases hq:dK s ts with
  | error e=>exact absurd hq (cS _ _ _)
  | ok x =>
   obtain⟨b,q⟩:=x
   rw[PM.aBz hq]at h
   cases b with
   | true =>
    cases h
    have:=lY hq
    simp only[List.length_cons]
    omega
   | false =>
    have:=gB hq
    subst this
    have:=tW z ss (i+1) h
    simp only[List.length_cons]
    omega
def partF (k:Int):FuncId :=
 if k=1 then 57 else if k=2 then 58 else if k=3 then 59 else if k=4 then 60 else if k=5 then 61
 else if k=6 then 62 else if k=7 then 63 else if k=8 then 64 else if k=9 then 65 else 66
theorem part_spec (k:Int)(h1:1≤k)(h2:k<11)(kd:Int)(nm:List UInt8)(off:Nat)(B:Base)(bp z:Nat)(tk:Item)(bx:Nat)(w:Value)(ts:List Tok)(h:Heap)(o:Own B [box bp [w,.int .i64 z] 72,tk,box bx (lK kd nm off) 44] h)(hR:cH tk w ts)(hl:ts.length≤5000) :
  Spec Tryz.prog (partF k) [.pointer (some ⟨bp,0,none⟩),.pointer (some ⟨bx,0,none⟩)] h (gU B bp z tk bx ts.length (mF z k (x0 kd nm off) ts)):=by
 rcases(by omega:k=1∨k=2∨k=3∨k=4∨k=5∨k=6∨k=7∨k=8∨k=9∨k=10) with rfl|rfl|rfl|rfl|rfl|rfl|rfl|rfl|rfl|rfl
 ·exact table_part kd nm off B bp z tk bx w ts h o hR hl
 ·exact source_part kd nm off B bp z tk bx w ts h o hR hl
 ·exact block_part kd nm off B bp z tk bx w ts h o hR hl
 ·exact match_part kd nm off B bp z tk bx w ts h o hR hl
 ·exact keep_part kd nm off B bp z tk bx w ts h o hR hl
 ·exact vG kd nm off B bp z tk bx w ts h o hR hl
 ·exact depend_part kd nm off B bp z tk bx w ts h o hR hl
 ·exact aBj kd nm off B bp z tk bx w ts h o hR hl
 ·exact deny_part kd nm off B bp z tk bx w ts h o hR hl
 ·exact query_part kd nm off B bp z tk bx w ts h o hR hl
def mfn (bp g:Nat):Value:=.func (.func g) ⟨[.pointer (some ⟨bp,0,none⟩)]⟩ ⟨[]⟩
def partsM (bp:Nat):List MapEntry:=[⟨.int .i64 1,mfn bp 57,0⟩,⟨.int .i64 2,mfn bp 58,1⟩,⟨.int .i64 3,mfn bp 59,2⟩,
 ⟨.int .i64 4,mfn bp 60,3⟩,⟨.int .i64 5,mfn bp 61,4⟩,⟨.int .i64 6,mfn bp 62,5⟩,⟨.int .i64 7,mfn bp 63,6⟩,
 ⟨.int .i64 8,mfn bp 64,7⟩,⟨.int .i64 9,mfn bp 65,8⟩,⟨.int .i64 10,mfn bp 66,9⟩]
theorem partsM_find (bp:Nat)(k:Int)(h1:1≤k)(h2:k<11):∃ i,Instr.findNow (.int .i64) (.int .i64 k) (partsM bp) 0=some (some (i,mfn bp (partF k))):=by
 rcases(by omega:k=1∨k=2∨k=3∨k=4∨k=5∨k=6∨k=7∨k=8∨k=9∨k=10) with rfl|rfl|rfl|rfl|rfl|rfl|rfl|rfl|rfl|rfl
 all_goals exact⟨_,rfl⟩
def itV (x:It)(v:Value)(I:Item):Prop:=∃ c,v=.agg ⟨c⟩∧itR I c x
theorem yL (z:Nat)(t:Tok)(r:List Tok):kV z (t::r)=(fG z eM 1 >>= fun k=>ifP (k != 5) (dG z) [] >>= fun nm=>mF z k (x0 k nm t.off) >>= fun x=>(if k=4 then bP z [[125]] else bP z [[59]]) >>= fun _=>(pure x:PM It)) (t::r):=by
 refine congrFun (congrArg (fun f=>fG z eM 1 >>= f) (funext fun k=>congrArg (fun f=>ifP (k != 5) (dG z) [] >>= f) (funext fun nm=>congrArg (fun f=>mF z k (x0 k nm t.off) >>= f) (funext fun x=>?_)))) _;by_cases hk:k=4
 ·simp only[if_pos hk]
 ·simp only[if_neg hk]
theorem pwordK_call {ss:List (List UInt8)}{vs:Value}{s:List Value}{h:Heap}{K:KK}{Q:QQ}{B:Base}{L:List Item}{bp z:Nat}{tk:Item}{w:Value}{ts:List Tok}
  (o:Own B L h) (e:pick L [0,1]=PSt bp z w tk) (hk:qZ ⟨B.h,rP L++B.T⟩ vs ss) (hR:cH tk w ts) (hl:ts.length≤5000) (hsl:ss.length≤100)
  (hret:∀ a r w' v h',fG z ss 1 ts=.ok (a,r)→v=.int .i64 a→r.length≤ts.length→cH tk w' r→Own B (PSt bp z w' tk++rP L) h'→K v false h')
  (hpan:∀ e w' h',fG z ss 1 ts=.error e→Own B (PSt bp z w' tk) h'→Q (.panic (kB e)) s h'):CallVC Tryz.prog 55 [.pointer (some ⟨bp,0,none⟩),vs] s h K Q:=by
 have ol:=o.lend [0,1] [2,3,4,5,6,7,8,9] rfl
 rw[e]at ol
 exact PEnd.call (xS ss _ _ bp z tk w ts h hk ol hR hl hsl) (fun a r w' v h' h1 h2 h3 h4 h5=>hret a r w' v h' h1 h2 h3 h4 h5.back) (fun e w' h' h1 h2=>hpan e w' h' h1 (h2.back.sel [0,1] rfl))
theorem gU.callL {g:FuncId}{args:List Value}{s:List Value}{h:Heap}{K:KK}{Q:QQ}{B:Base}{L X:List Item}{bp z:Nat}{tk:Item}{bx n:Nat}{res:Except (Int×Nat) (It×List Tok)}
  (sp:∀ B':Base,Own B' X h→Spec Tryz.prog g args h (gU B' bp z tk bx n res)) (o:Own B L h) (ks js:List Nat) (hd:dst (ks++js)=true) (e:pick L ks=X)
  (hret:∀ x r w' c I h',res=.ok (x,r)→itR I c x→r.length≤n→cH tk w' r→Own B ([box bp [w',.int .i64 z] 72,tk,box bx c 44,I]++pick L js) h'→K (.tuple ⟨[]⟩) false h')
  (hpan:∀ e w' h',res=.error e→Own B (PSt bp z w' tk) h'→Q (.panic (kB e)) s h'):CallVC Tryz.prog g args s h K Q:=by
 have ol:=o.lend ks js hd
 rw[e]at ol
 exact CallVC.ends (sp _ ol) (fun v h' ⟨x,r,w',c,I,h1,h2,h3,h4,h5,h6⟩=>by subst h2;exact hret x r w' c I h' h1 h3 h4 h5 h6.back) (fun c h' ⟨e,w',h1,h2,h3⟩=>by subst h2;exact hpan e w' h' h1 (h3.back.sel [0,1] rfl))
theorem item_spec (t0:Tok)(r0:List Tok)(B:Base)(bp z:Nat)(tk:Item)(w:Value)(h:Heap)(hW:jE B.h)(o:Own B (PSt bp z w tk) h)(hR:cH tk w (t0::r0))(hl:(t0::r0).length≤5000) :
  Spec Tryz.prog 28 [.pointer (some ⟨bp,0,none⟩)] h (cQ B bp z tk (t0::r0).length (kV z (t0::r0)) itV):=by
 have hE:=yL z t0 r0;have hx:(t0::r0)[0]?=some t0:=rfl;have hln:(t0::r0).length=r0.length+1:=rfl
 obtain⟨hRd,hK⟩:=hR
 have hR:cH tk w (t0::r0):=⟨hRd,hK⟩;refine Spec.enter Tryz.func28 rfl Tryz.ntmps28 (by kernel_rfl) ?_;(refine RunVC.alloc o iG ?_;intro b10 m10 o10);refine run (nC rfl ?_);refine run (fA fD rfl rfl rfl ?_);refine run (aBx o10 0 rfl eF rfl rfl ?_);refine run (aBJ fE bA (o10.reads 1 hRd rfl) rfl (by omega) (by omega) ?_);refine run (aBT (o10.reads 1 hRd rfl) (by omega) eI rfl rfl rfl ?_);refine run (aBW (o10.reads 1 hRd rfl) aW (fun _=>rfl) rfl ‹_› rfl ?_);refine run (aBE aY ?_);refine aI rfl ?_;(refine RunVC.alloc o10 iG ?_;intro b18 m18 o18);(refine RunVC.aBA o18 3 rfl iG rfl (by decide) (aI ⟨rfl,rfl⟩ ?_);intro m19 o19);refine RunVC.sliceG arr115.1 aN rfl ?_;refine pwordK_call ‹_› rfl (jE.keep hW) hR hl (by decide) (fun k q1 w1 v h1 hm hv hle1 hR1 oq=>?_) (fun e w' h' hm o2=>⟨e,w',hE.trans (PM.aBy hm),rfl,o2⟩);subst hv
 rw[PM.aBz hm]at hE
 obtain⟨hk1,hk2,hk3⟩:=tW _ _ _ hm
 have hk2:k<11:=by have:eM.length=10:=rfl;omega
 have o1:=oq
 simp only[PSt,pick,lcA,lnA,lgS,lgZ,lgN]at o1
 clear oq hm;refine run (fA aY rfl rfl rfl ?_);(refine RunVC.store o1 3 rfl aW rfl (by simp) (aI ⟨rfl,rfl⟩ ?_);intro m31 o31);refine run (fA aY rfl rfl rfl ?_);refine run (aBx o31 3 rfl aW rfl rfl ?_);refine Br.join [20,21,22] [] (fun _ hh=>∃(nm:List UInt8) (q2:List Tok) (w2:Value),ifP (k != 5) (dG z) [] q1=.ok (nm,q2)∧q2.length≤q1.length∧cH tk w2 q2∧Own B [box bp [w2,.int .i64 z] 72,tk,box b10 (lK 0 [] 0) 44,box b18 (lK k nm t0.off) 44] hh) rfl rfl ?_ ?_
 ·by_cases h5:k=5
  ·refine Br.aBO (fun hc=>absurd (by first|omega|assumption|decide|exact rfl) hc) (fun c40=>?_)
   refine⟨rfl,?_⟩
   exact⟨[],q1,w1,by rw[qO (by simp[h5])];rfl,Nat.le_refl _,hR1,Own.sel ‹_› [0,1,2,3] rfl⟩
  ·refine Br.aBO (fun c50=>?_) (fun hc=>absurd hc (by first|omega|assumption|decide|exact rfl))
   refine cF.callL ‹_› rfl hR1 (by omega) (fun nm q2 w2 v h2 hm hv hle2 hR2 oq=>?_) (fun e w' h' hm o2=>⟨e,w',hE.trans (PM.aBy (by rw[mX (by simp[h5])];exact hm)),rfl,o2⟩);subst hv;have o2:=oq
   simp only[PSt,pick,lcA,lnA,lgS,lgZ,lgN]at o2
   clear oq;refine run (fA aY rfl rfl rfl ?_);(refine RunVC.store o2 3 rfl aN rfl (by simp) (aI ⟨rfl,rfl⟩ ?_);intro m61 o61)
   refine⟨rfl,?_⟩
   exact⟨nm,q2,w2,by rw[mX (by simp[h5])];exact hm,hle2,hR2,Own.sel ‹_› [0,1,2,3] rfl⟩
 ·rintro _ junk h3 ⟨nm,q2,w2,hm,hle2,hR2,o3⟩
  rw[PM.aBz hm]at hE
  unfold lK at o3;(refine RunVC.makeMap ‹_› ?_;intro rm mI oI);refine run (aBQ ?_);(refine RunVC.insert ‹_› 4 rfl Tryz.underlying117 Tryz.underlying3 rfl rfl rfl ?_;intro mI oI);refine run (aBQ ?_);(refine RunVC.insert ‹_› 4 rfl Tryz.underlying117 Tryz.underlying3 rfl rfl rfl ?_;intro mI oI);refine run (aBQ ?_);(refine RunVC.insert ‹_› 4 rfl Tryz.underlying117 Tryz.underlying3 rfl rfl rfl ?_;intro mI oI);refine run (aBQ ?_);(refine RunVC.insert ‹_› 4 rfl Tryz.underlying117 Tryz.underlying3 rfl rfl rfl ?_;intro mI oI);refine run (aBQ ?_);(refine RunVC.insert ‹_› 4 rfl Tryz.underlying117 Tryz.underlying3 rfl rfl rfl ?_;intro mI oI);refine run (aBQ ?_);(refine RunVC.insert ‹_› 4 rfl Tryz.underlying117 Tryz.underlying3 rfl rfl rfl ?_;intro mI oI);refine run (aBQ ?_);(refine RunVC.insert ‹_› 4 rfl Tryz.underlying117 Tryz.underlying3 rfl rfl rfl ?_;intro mI oI);refine run (aBQ ?_);(refine RunVC.insert ‹_› 4 rfl Tryz.underlying117 Tryz.underlying3 rfl rfl rfl ?_;intro mI oI);refine run (aBQ ?_);(refine RunVC.insert ‹_› 4 rfl Tryz.underlying117 Tryz.underlying3 rfl rfl rfl ?_;intro mI oI);refine run (aBQ ?_);(refine RunVC.insert ‹_› 4 rfl Tryz.underlying117 Tryz.underlying3 rfl rfl rfl ?_;intro mI oI);refine RegVC.plain ?_;refine run (fA aY rfl rfl rfl ?_);refine run (aBx oI 3 rfl aW rfl rfl ?_)
  obtain⟨i,hf⟩:=partsM_find bp k hk1 hk2
  refine RunVC.lookup ‹_› 4 rfl Tryz.underlying117 Tryz.underlying3 rfl rfl hf ?_;refine gU.callL (fun B' o'=>part_spec k hk1 hk2 k nm t0.off B' bp z tk b18 w2 q2 _ o' hR2 (by omega)) ‹_› [0,1,3] [2] rfl rfl (fun x q3 w3 c I h4 hm hI hle3 hR3 oq=>?_) (fun e w' h' hm o2=>⟨e,w',hE.trans (PM.aBy hm),rfl,o2⟩)
  rw[PM.aBz hm]at hE
  have hkind:x.kind=k:=(kept_part z k _ _ _ _ hm).1
  obtain⟨vc,vn,vt,vf,vv,vd,e0,e1,e2,e3,e4,e5,e6,e7,e8,rfl,r1,r2,r3,r4,r5,r6,rx⟩:=hI
  unfold itC at oq;have o4:=oq
  simp only[PSt,pick,lcA,lnA,lgS,lgZ,lgN]at o4
  clear oq hm;have hx0:=rx;refine run (fA aY rfl rfl rfl ?_);refine run (aBx o4 2 rfl aW rfl rfl ?_)
  obtain⟨y1,z1,rfl⟩:=r1.isS (Own.satK o4 3 rfl)
  obtain⟨y2,z2,rfl⟩:=r2.isS (Own.satK o4 3 rfl)
  obtain⟨y3,z3,rfl⟩:=r3.isS (Own.satK o4 3 rfl)
  obtain⟨y4,z4,rfl⟩:=r4.isS (Own.satK o4 3 rfl)
  obtain⟨y5,z5,rfl⟩:=r5.isS (Own.satK o4 3 rfl)
  obtain⟨y6,z6,rfl⟩:=r6.isS (Own.satK o4 3 rfl)
  have hx1:∃ q,q=x.expr:=⟨_,rfl⟩
  obtain⟨xe,hxe⟩:=hx1
  rw[← hxe]at rx
  obtain⟨xk,xt,xks,xcs,xns,xa,xs',xg,xo⟩:=xe
  simp only[lB]at rx
  obtain⟨uk,uc,un,heq,u1,u2,us,u3,_⟩:=rx
  unfold wB at heq
  simp only[List.cons.injEq,and_true]at heq
  obtain⟨rfl,rfl,rfl,rfl,rfl,rfl,rfl,rfl,rfl⟩:=heq
  obtain⟨y7,z7,rfl⟩:=u1.isS (Own.satK o4 3 rfl)
  obtain⟨y8,z8,rfl⟩:=u2.isS (Own.satK o4 3 rfl)
  obtain⟨y9,z9,rfl⟩:=u3.isS (Own.satK o4 3 rfl)
  by_cases hk4:k=4
  ·skip
   rw[if_pos hk4]at hE
   refine Br.dec (fun c300=>?_) (fun hc=>absurd (by omega) hc);(refine RunVC.lit o4 aH aN rfl rfl (by decide) (aI rfl ?_);intro b301 m301 o301);refine aS (ss:=[[125]]) ‹_› rfl (by first|exact⟨2,by decide,rfl⟩|exact⟨3,by decide,rfl⟩|exact⟨4,by decide,rfl⟩|exact⟨5,by decide,rfl⟩|exact⟨6,by decide,rfl⟩|exact⟨7,by decide,rfl⟩|exact⟨8,by decide,rfl⟩|exact⟨9,by decide,rfl⟩) hR3 (by omega) (by decide) (fun _ q4 w4 v h5 hm hv hle4 hR4 oq=>?_) (fun e w' h' hm o2=>⟨e,w',hE.trans (PM.aBy hm),rfl,o2⟩);subst hv
   rw[PM.aBz hm]at hE
   have o5:=oq
   simp only[PSt,pick,lcA,lnA,lgS,lgZ,lgN]at o5
   clear oq hm;refine run (aBB o5 2 rfl iG rfl rfl rfl ?_);(refine RunVC.aBA o5 4 rfl iG rfl (by decide) (aI ⟨rfl,rfl⟩ ?_);intro m321 o321)
   first|refine RetVC.aBL rfl o321 4 rfl iG rfl rfl ?_|refine RetVC.aBK rfl o321 4 rfl iG rfl rfl ?_|refine RetVC.cellTT rfl o321 4 rfl iG rfl rfl ?_
   exact⟨x,q4,w4,I,hE,⟨_,rfl,⟨_,_,_,_,_,_,_,_,_,_,_,_,_,_,_,rfl,r1,r2,r3,r4,r5,r6,hx0⟩⟩,by omega,hR4,Own.sel ‹_› [0,1,3] rfl⟩
  ·skip
   rw[if_neg hk4]at hE
   refine Br.dec (fun hc=>absurd hc (by omega)) (fun c400=>?_);(refine RunVC.lit o4 aH aN rfl rfl (by decide) (aI rfl ?_);intro b401 m401 o401);refine aS (ss:=[[59]]) ‹_› rfl (by first|exact⟨2,by decide,rfl⟩|exact⟨3,by decide,rfl⟩|exact⟨4,by decide,rfl⟩|exact⟨5,by decide,rfl⟩|exact⟨6,by decide,rfl⟩|exact⟨7,by decide,rfl⟩|exact⟨8,by decide,rfl⟩|exact⟨9,by decide,rfl⟩) hR3 (by omega) (by decide) (fun _ q4 w4 v h5 hm hv hle4 hR4 oq=>?_) (fun e w' h' hm o2=>⟨e,w',hE.trans (PM.aBy hm),rfl,o2⟩);subst hv
   rw[PM.aBz hm]at hE
   have o5:=oq
   simp only[PSt,pick,lcA,lnA,lgS,lgZ,lgN]at o5
   clear oq hm;refine run (aBB o5 2 rfl iG rfl rfl rfl ?_);(refine RunVC.aBA o5 4 rfl iG rfl (by decide) (aI ⟨rfl,rfl⟩ ?_);intro m421 o421)
   first|refine RetVC.aBL rfl o421 4 rfl iG rfl rfl ?_|refine RetVC.aBK rfl o421 4 rfl iG rfl rfl ?_|refine RetVC.cellTT rfl o421 4 rfl iG rfl rfl ?_
   exact⟨x,q4,w4,I,hE,⟨_,rfl,⟨_,_,_,_,_,_,_,_,_,_,_,_,_,_,_,rfl,r1,r2,r3,r4,r5,r6,hx0⟩⟩,by omega,hR4,Own.sel ‹_› [0,1,3] rfl⟩
def uD (p q r v:Value):List Value:=[p,q,r,v,undef,undef,v,undef,undef,undef,undef,undef,undef,undef,undef,undef,undef,undef,undef,undef,undef,undef]
theorem qD (p q r:Value):Recovers Tryz.prog (match Tryz.f26.body with|some (.seq (.region _ ops _) _)=>ops|_=>#[]) ([p,q,r]++List.replicate (22 - [p,q,r].length) undef) (uD p q r):=by
 intro cs w Q hQ;unfold wpOpsS
 simp[Tryz.f26,List.range,List.range.loop,wpOpsS,Region.wanted,yielded,execOp,resolve,invoke,builtin,act,Act.put]
 cases hrec:recoverD cs with
 | none=>exact hQ _ _ (.inr ⟨hrec,rfl,rfl⟩)
 | some x=>exact hQ _ _ (.inl hrec)
theorem pleave_ok (s:List Value)(h:Heap)(R:Ending→Heap→Prop)(p q r:Value)
  (hr:RetVC Tryz.prog Tryz.f13 s h fun v h=>R (.returned v) h) :
  LeaveVC Tryz.prog Tryz.f13 ⟨.fn (.func 26) ⟨[p,q,r]⟩,#[]⟩ .returning s h R:=by
 refine LeaveVC.recovers (f:=uD p q r) .nilIface Tryz.func26 rfl (n:=22) (by kernel_rfl) (by kernel_rfl) rfl (.inl ⟨rfl,rfl⟩) (qD p q r) ?_;refine run (neI aAD (by first|assumption|rfl) ?_);refine Br.ff ?_;exact hr
theorem pleave_err (s:List Value)(h:Heap)(R:Ending→Heap→Prop)(B:Base)(b2 b3 b4:Nat)(x y z:Value)(e:Int×Nat)
  (o0:Own B [box b2 [x] 24,box b3 [y] 27,box b4 [z] 3] h)
  (h2:sget s 2=.pointer (some ⟨b2,0,none⟩)) (h3:sget s 3=.pointer (some ⟨b3,0,none⟩)) (h4:sget s 4=.pointer (some ⟨b4,0,none⟩))
  (hR:∀ h',Own B [] h'→R (.returned (.tuple ⟨[.agg ⟨[aK]⟩,.int .i64 e.1,.int .i64 e.2]⟩)) h') :
  LeaveVC Tryz.prog Tryz.f13 ⟨.fn (.func 26) ⟨[.pointer (some ⟨b2,0,none⟩),.pointer (some ⟨b3,0,none⟩),.pointer (some ⟨b4,0,none⟩)]⟩,#[]⟩ (.panicking (kB e)) s h R:=by
 refine LeaveVC.recovers (f:=uD (.pointer (some ⟨b2,0,none⟩)) (.pointer (some ⟨b3,0,none⟩)) (.pointer (some ⟨b4,0,none⟩))) (.iface 68 (.agg ⟨[.int .i64 e.1,.int .i64 e.2]⟩)) Tryz.func26 rfl (n:=22) (by kernel_rfl) (by kernel_rfl) rfl (.inr rfl) (qD _ _ _) ?_;refine run (neI aAD (by first|assumption|rfl) ?_);refine Br.tt ?_;refine run (assertOk con68 rfl ?_);(refine RunVC.alloc o0 ty68 ?_;intro b12 m12 o12);(refine RunVC.aBA o12 3 rfl ty68 rfl (by decide) (aI ⟨rfl,rfl⟩ ?_);intro m13 o13);refine Br.ff ?_;refine DrawVC.introB b12 [0,1,3] [2,4] [7] [0,1,2,3,4,5,6,7] mixed (by kernel_rfl) rfl (fun _ _ _ _ h=>h) ?_;refine aBE lZ ?_;refine fA st68 rfl rfl rfl ?_;refine StillVCA.load1 gW rfl rfl ((o13.cellB 3 rfl _).trans rfl) ?_;refine fA st68 rfl rfl rfl ?_;refine StillVCA.load1 aW rfl rfl ((o13.cellB 3 rfl _).trans rfl) ?_;(refine RunVC.store o13 0 rfl rL rfl (by simp) (aI ⟨rfl,rfl⟩ ?_);intro m25 o25);refine aI ((o25.boxBlk 3 rfl).trans (o13.boxBlk 3 rfl).symm) ?_;(refine RunVC.store o25 1 rfl gW rfl (by simp) (aI ⟨rfl,rfl⟩ ?_);intro m26 o26);refine aI ((o26.boxBlk 3 rfl).trans (o25.boxBlk 3 rfl).symm) ?_;(refine RunVC.store o26 2 rfl aW rfl (by simp) (aI ⟨rfl,rfl⟩ ?_);intro m27 o27);exact RetVC.cell3A rfl rL rfl gW aW h2 h3 h4 (o27.cellB 0 rfl 0) (o27.cellB 1 rfl 0) (o27.cellB 2 rfl 0) (hR _ (o27.sel [] rfl))
def uQ (I:Item):List (List Value)→List It→Prop
 | [],[]=>True
 | c::cs,x::xs=>itR I c x∧uQ I cs xs
 | _,_=>False
theorem itR.mono {I J:Item}(hm:∀ h,J.sat h→I.sat h) {c:List Value}{x:It}(r:itR I c x):itR J c x:=by
 obtain⟨vc,vn,vt,vf,vv,vd,e0,e1,e2,e3,e4,e5,e6,e7,e8,h,r1,r2,r3,r4,r5,r6,rx⟩:=r
 exact⟨vc,vn,vt,vf,vv,vd,e0,e1,e2,e3,e4,e5,e6,e7,e8,h,r1.mono hm,r2.mono hm,r3.mono hm,r4.mono hm,r5.mono hm,r6.mono hm,rx.mono hm⟩
theorem itR.len {I:Item}{c:List Value}{x:It}(r:itR I c x):c.length=25:=by
 obtain⟨vc,vn,vt,vf,vv,vd,e0,e1,e2,e3,e4,e5,e6,e7,e8,rfl,_⟩:=r
 rfl
theorem itR.one {I:Item}{h:Heap}(hI:I.sat h) {c:List Value}{x:It}(r:itR I c x):∀ u∈c,u.oneCell'=true:=by
 obtain⟨vc,vn,vt,vf,vv,vd,e0,e1,e2,e3,e4,e5,e6,e7,e8,rfl,r1,r2,r3,r4,r5,r6,rx⟩:=r
 obtain⟨y1,z1,rfl⟩:=r1.isS hI
 obtain⟨y2,z2,rfl⟩:=r2.isS hI
 obtain⟨y3,z3,rfl⟩:=r3.isS hI
 obtain⟨y4,z4,rfl⟩:=r4.isS hI
 obtain⟨y5,z5,rfl⟩:=r5.isS hI
 obtain⟨y6,z6,rfl⟩:=r6.isS hI
 have he:=List.all_eq_true.1 (eN hI rx);intro u hu;unfold itC at hu;have e:[Value.int .i64 x.kind,.string ⟨⟨x.name⟩⟩,.int .i64 x.off,.string ⟨⟨x.table⟩⟩,.string ⟨⟨x.attr⟩⟩,.slice y1 x.cols.length z1,.slice y2 x.names.length z2,.int .i64 x.by_,.int .i64 x.n,.int .i64 x.m,.slice y3 x.terms.length z3,.string ⟨⟨x.other⟩⟩,.string ⟨⟨x.oattr⟩⟩,.slice y4 x.fixed.length z4,.slice y5 x.vars.length z5,.slice y6 x.conds.length z6,e0,e1,e2,e3,e4,e5,e6,e7,e8]=[Value.int .i64 x.kind,.string ⟨⟨x.name⟩⟩,.int .i64 x.off,.string ⟨⟨x.table⟩⟩,.string ⟨⟨x.attr⟩⟩,.slice y1 x.cols.length z1,.slice y2 x.names.length z2,.int .i64 x.by_,.int .i64 x.n,.int .i64 x.m,.slice y3 x.terms.length z3,.string ⟨⟨x.other⟩⟩,.string ⟨⟨x.oattr⟩⟩,.slice y4 x.fixed.length z4,.slice y5 x.vars.length z5,.slice y6 x.conds.length z6]++[e0,e1,e2,e3,e4,e5,e6,e7,e8]:=rfl
 rw[e]at hu
 rcases List.mem_append.1 hu with hu|hu
 ·have ha:∀(l:List Value),l.all (fun u=>u.oneCell')=true→u∈l→u.oneCell'=true:=fun l h k=>List.all_eq_true.1 h u k
  exact ha _ rfl hu
 ·exact he u hu
theorem uQ.mono {I J:Item}(hm:∀ h,J.sat h→I.sat h):∀ {cs:List (List Value)}{xs:List It},uQ I cs xs→uQ J cs xs
 | [],[],_=>trivial
 | _::_,_::_,h=>⟨h.1.mono hm,uQ.mono hm h.2⟩
 | [],_::_,h=>h.elim
 | _::_,[],h=>h.elim
theorem uQ.snoc {I:Item}:∀ {cs:List (List Value)}{xs:List It}{c:List Value}{x:It},uQ I cs xs→itR I c x→uQ I (cs++[c]) (xs++[x])
 | [],[],_,_,_,k=>⟨k,trivial⟩
 | _::_,_::_,_,_,h,k=>⟨h.1,uQ.snoc h.2 k⟩
 | [],_::_,_,_,h,_=>h.elim
 | _::_,[],_,_,h,_=>h.elim
def xT (I:Item)(v:Value)(xs:List It):Prop:=∃ cs,Reads I 25 v xs.length cs.flatten∧uQ I cs xs
def iM (h:Heap)(t:List UInt8)(v:Value)(h':Heap):Prop :=
 if 20000<t.length then v=.tuple ⟨[.agg ⟨[aK]⟩,.int .i64 3,.int .i64 (-1)]⟩∧Own h [] h'
 else match mG t with
  | .error (e,i)=>v=.tuple ⟨[.agg ⟨[aK]⟩,.int .i64 e,.int .i64 i]⟩∧Own h [] h'
  | .ok xs=>∃ u I,v=.tuple ⟨[.agg ⟨[u]⟩,.int .i64 0,.int .i64 0]⟩∧xT I u xs∧Own h [I] h'
theorem readR_num {l:List UInt8}{kd n:Int}{x:List UInt8}{len:Nat}(h:fU l=.tok kd x n len):0≤n∧n≤10000000000:=by
 cases l with
 | nil=>cases h
 | cons c r =>
  cases hlet:dO c with
  | true =>
   rw[jS hlet]at h
   split at h<;>cases h
   decide
  | false =>
   cases hdig:bX c with
   | true =>
    rw[kQ hlet hdig]at h
    split at h
    ·cases h
    ·rename_i hn
     cases h
     have h1:=undec_lt ((c::r).take (bO bX (c::r))) (rD bX (c::r));have h2:((c::r).take (bO bX (c::r))).length≤10:=by rw[List.length_take];omega
     have h3:10 ^ ((c::r).take (bO bX (c::r))).length≤10 ^ 10:=Nat.pow_le_pow_right (by decide) h2
     omega
   | false =>
    by_cases h34:c.toNat=34
    ·rw[kP hlet hdig h34]at h
     have:=(pZ _ _ _ h).2
     omega
    ·rw[lH hlet hdig h34]at h
     split at h<;>cases h
     decide
theorem vT:∀(f:Nat)(l:List UInt8)(i k:Nat),(∀ e j,iW f l i k=.error (e,j)→e≠0)∧(∀ ts,k≤5000→iW f l i k=.ok ts→k+ts.length≤5000∧TokOK ts)
 | 0,l,i,k=>⟨fun _ _ h=>(by cases h),fun ts hk h=>(by cases h;exact⟨by simpa using hk,(fun _ h=>by cases h)⟩)⟩
 | f+1,[],i,k=>⟨fun _ _ h=>(by cases h),fun ts hk h=>(by cases h;exact⟨by simpa using hk,(fun _ h=>by cases h)⟩)⟩
 | f+1,c::r,i,k=>by
  cases hr:fU (c::r) with
  | err e =>
   rw[uO (by simp) hr]
   refine⟨fun e' j h=>?_,fun ts _ h=>(by cases h)⟩
   cases h
   have:=readR_err hr
   omega
  | none=>exact absurd hr (readR_some _)
  | tok kd x n len =>
   by_cases hk:k=5000
   ·subst hk
    rw[yE (by simp) hr]
    exact⟨fun e' j h=>(by cases h;decide),fun ts _ h=>(by cases h)⟩
   ·have hE:=aAB (f:=f) (i:=i) (k:=k) (by simp) hr hk []
    obtain⟨ih1,ih2⟩:=vT f ((c::r).drop (len+eV false ((c::r).drop len))) (i+(len+eV false ((c::r).drop len))) (k+1)
    generalize iW f ((c::r).drop (len+eV false ((c::r).drop len))) (i+(len+eV false ((c::r).drop len))) (k+1)=G at *
    generalize iW (f+1) (c::r) i k=H at *
    cases G with
    | error y =>
     cases H with
     | error y'=>simp only[wD]at hE;cases hE;exact⟨fun e j h=>ih1 e j h,fun ts _ h=>(by cases h)⟩
     | ok ts=>cases hE
    | ok us =>
     cases H with
     | error y'=>cases hE
     | ok ts =>
      simp only[wD,lnA,Except.ok.injEq]at hE
      subst hE
      refine⟨fun _ _ h=>(by cases h),fun ts hk' h=>?_⟩
      cases h
      obtain⟨q1,q2⟩:=ih2 us (by omega) rfl
      refine⟨by simp;omega,fun t ht=>?_⟩
      simp only[lcA,lnA,List.mem_cons]at ht
      rcases ht with rfl|ht
      ·exact readR_num hr
      ·exact q2 t ht
theorem oN {t:List UInt8}:(∀ e j,tL t=.error (e,j)→e≠0)∧(∀ ts,tL t=.ok ts→ts.length≤5000∧TokOK ts):=by
 obtain⟨h1,h2⟩:=vT t.length (t.drop (eV false t)) (eV false t) 0
 exact⟨h1,fun ts h=>by have:=h2 ts (by decide) h;exact⟨by omega,this.2⟩⟩
def leftP (bp:Nat)(h:Heap):Nat:=match aX h ⟨bp,0,none⟩ with
 | some (.slice _ n _)=>n
 | _=>0
theorem leftP_of {B:Base}{L:List Item}{h:Heap}{bp n:Nat}{cs:List Value}{t:TypeId}{a:Option Addr}{c:Nat}(o:Own B L h)(k:Nat)(hk:L[k]?=some (box bp cs t))(hc:cs[0]?=some (.slice a n c)):leftP bp h=n:=by
 unfold leftP
 rw[(o.cellB k hk 0).trans hc]
theorem vX {z f:Nat}{acc:List It}{t:Tok}{r:List Tok}(h:acc.length=200):iP z (f+1) acc (t::r)=.error (3,t.off):=by
 rw[iP,if_pos h]
theorem yJ {z f:Nat}{acc:List It}{t:Tok}{r:List Tok}{e:Int×Nat}(h:acc.length≠200)(hi:kV z (t::r)=.error e):iP z (f+1) acc (t::r)=.error e:=by
 rw[iP,if_neg h,hi]
theorem aAC {z f:Nat}{acc:List It}{t:Tok}{r q:List Tok}{x:It}(h:acc.length≠200)(hi:kV z (t::r)=.ok (x,q)):iP z (f+1) acc (t::r)=iP z f (acc++[x]) q:=by
 rw[iP,if_neg h,hi]
theorem item_call {s:List Value}{h:Heap}{K:KK}{Q:QQ}{B:Base}{L:List Item}{bp z:Nat}{tk:Item}{w:Value}{t0:Tok}{r0:List Tok}(hW:jE B.h)(o:Own B L h)(e:pick L [0,1]=PSt bp z w tk)(hR:cH tk w (t0::r0))(hl:(t0::r0).length≤5000)
  (hret:∀ a r w' v I h',kV z (t0::r0)=.ok (a,r)→itV a v I→r.length≤(t0::r0).length→cH tk w' r→Own B ([box bp [w',.int .i64 z] 72,tk,I]++rP L) h'→K v false h')
  (hpan:∀ e w' h',kV z (t0::r0)=.error e→Own B (PSt bp z w' tk++rP L) h'→Q (.panic (kB e)) s h'):CallVC Tryz.prog 28 [.pointer (some ⟨bp,0,none⟩)] s h K Q:=by
 have ol:=o.lend [0,1] [2,3,4,5,6,7,8,9] rfl
 rw[e]at ol
 exact cQ.call (item_spec t0 r0 ⟨B.h,rP L++B.T⟩ bp z tk w h hW ol hR hl) (fun a r w' v I h' h1 h2 h3 h4 h5=>hret a r w' v I h' h1 h2 h3 h4 h5.back) (fun e w' h' h1 h2=>hpan e w' h' h1 h2.back)
theorem yK {z:Nat}{ts:List Tok}{x:It}{r:List Tok}(h:kV z ts=.ok (x,r)):r.length<ts.length:=by
 cases ts with
 | nil=>exact absurd h (by intro e;cases e)
 | cons t q =>
  rw[yL]at h
  cases hq:fG z eM 1 (t::q) with
  | error e=>rw[PM.aBy hq]at h;cases h
  | ok p =>
   obtain⟨k,w⟩:=p
   rw[PM.aBz hq]at h
   have h1:=(tW _ _ _ hq).2.2;have h2:=(Dec.bind (Dec.ifP (Dec.name z)) fun nm=>Dec.bind (Dec.part z k (x0 k nm t.off)) fun _=>Dec.bind (show Dec (if k=4 then bP z [[125]] else bP z [[59]]) by split<;>exact Dec.need _ _) fun _=>Dec.pure _) _ _ _ h
   omega
theorem parse_spec (t:List UInt8)(h:Heap)(hl:t.length≤9223372036854775807)(hW:jE h) :
  cK Tryz.prog 13 [.string ⟨⟨t⟩⟩] h (iM h t):=by
 refine Spec.enterD2 Tryz.func13 rfl (n:=44) (by kernel_rfl) (by kernel_rfl) ?_;have o0:=Own.refl h;(refine RunVC.alloc o0 rL ?_;intro b10 m10 o10);(refine RunVC.alloc o10 gW ?_;intro b11 m11 o11);(refine RunVC.alloc o11 aW ?_;intro b12 m12 o12);refine CallVC.ret (lex_spec t _ hl) ?_;rintro v h1 hv;have key:(∃ e i:Int,e≠0∧v=.tuple ⟨[.slice none 0 0,.int .i64 e,.int .i64 i]⟩∧Own m12 [] h1∧∀ h',Own h [] h'→iM h t (.tuple ⟨[.agg ⟨[aK]⟩,.int .i64 e,.int .i64 i]⟩) h') ∨
   (∃ ts u,tL t=.ok ts∧¬ 20000<t.length∧v=.tuple ⟨[u,.int .i64 0,.int .i64 0]⟩∧Own m12 [row u 112 4 ts.length (ts.flatMap pO)] h1):=by
  unfold kN at hv;by_cases hbig:20000<t.length
  ·rw[if_pos hbig]at hv
   exact .inl ⟨3,-1,by decide,hv.1,hv.2,fun h' o'=>by rw[iM,if_pos hbig];exact⟨rfl,o'⟩⟩
  ·rw[if_neg hbig]at hv
   cases hL:tL t with
   | error e =>
    obtain⟨e,i⟩:=e
    rw[hL]at hv
    exact .inl ⟨e,i,oN.1 e i hL,hv.1,hv.2,fun h' o'=>by rw[iM,if_neg hbig,mG,hL];exact⟨rfl,o'⟩⟩
   | ok ts =>
    rw[hL]at hv
    obtain⟨u,h2,h3⟩:=hv
    exact .inr ⟨ts,u,rfl,hbig,h2,h3⟩
 clear hv
 rcases key with ⟨e,i,hne,rfl,oc,hpost⟩|⟨ts,u,hL,hbig,rfl,oc⟩
 ·have o1:=oc.thenE ‹_›
  clear oc;(refine RunVC.aBA o1 1 rfl gW rfl (by decide) (aI ⟨rfl,rfl⟩ ?_);intro m50 o50);(refine RunVC.aBA o50 2 rfl aW rfl (by decide) (aI ⟨rfl,rfl⟩ ?_);intro m51 o51);refine run (aBx o51 1 rfl gW rfl rfl ?_);refine Br.aBO (fun c53=>?_) (fun hc=>absurd hc (by first|omega|assumption|decide|exact rfl));refine DrawVC.introG (fun h h'=>h'[b11]?=h[b11]?∧h'[b12]?=h[b12]?) (fun a=>a.block=b11∨a.block=b12) (fun _=>⟨rfl,rfl⟩) (fun h h' a v he ha hc=>by rcases ha with rfl|rfl;rw[gH he.1];exact hc;rw[gH he.2];exact hc) [0] [1,2] [5] [0,1,2,3,4,5] mixed (by kernel_rfl) rfl (fun _ _ _ _ h=>h) ?_;refine aBE lZ ?_;refine StillVCA.load1 gW rfl (.inl rfl) ((Own.cellB ‹_› 1 rfl _).trans rfl) ?_;refine StillVCA.load1 aW rfl (.inr rfl) ((Own.cellB ‹_› 2 rfl _).trans rfl) ?_;(refine RunVC.aBA o51 0 rfl rL rfl (by decide) (aI ⟨rfl,rfl⟩ ?_);intro m63 o63)
  refine⟨⟨(Own.satK o63 1 rfl).trans (Own.satK o51 1 rfl).symm,(Own.satK o63 2 rfl).trans (Own.satK o51 2 rfl).symm⟩,?_⟩
  (refine RunVC.store o63 1 rfl gW rfl (by simp) (aI ⟨rfl,rfl⟩ ?_);intro m70 o70)
  refine⟨⟨(Own.satK o70 1 rfl).trans (Own.satK o63 1 rfl).symm,(Own.satK o70 2 rfl).trans (Own.satK o63 2 rfl).symm⟩,?_⟩
  (refine RunVC.store o70 2 rfl aW rfl (by simp) (aI ⟨rfl,rfl⟩ ?_);intro m80 o80);exact RetVC.cell3A rfl rL rfl gW aW rfl rfl rfl (o80.cellB 0 rfl 0) (o80.cellB 1 rfl 0) (o80.cellB 2 rfl 0) (hpost _ (o80.sel [] rfl))
 ·have hP:∀ v h',iM h t v h'=_:=fun v h'=>by rw[iM,if_neg hbig]
  unfold mG at hP
  simp only[hL]at hP
  obtain⟨hts,hok⟩:=oN.2 ts hL
  have o1:=Own.call ‹_› oc
  simp only[lcA,lnA]at o1
  clear oc
  obtain⟨ua,uc,rfl⟩:=o1.rowIs 3 rfl
  (refine RunVC.aBA o1 1 rfl gW rfl (by decide) (aI ⟨rfl,rfl⟩ ?_);intro m100 o100);(refine RunVC.aBA o100 2 rfl aW rfl (by decide) (aI ⟨rfl,rfl⟩ ?_);intro m101 o101);refine run (aBx o101 1 rfl gW rfl rfl ?_);refine Br.ff ?_;generalize hT:iP t.length (ts.length+1) [] ts=T at hP;refine DeferVC.closureP (fun c s hh=>∃(e:Int×Nat) (x:Value),c=kB e∧T=.error e∧sget s 2=.pointer (some ⟨b10,0,none⟩)∧sget s 3=.pointer (some ⟨b11,0,none⟩)∧sget s 4=.pointer (some ⟨b12,0,none⟩)∧Own h [box b10 [x] 24,box b11 [.int .i64 0] 27,box b12 [.int .i64 0] 3] hh) (by simp) ?_;refine aI ?_ ?_
  ·rintro c s hh ⟨e,x,rfl,hTe,s2,s3,s4,oo⟩
   refine pleave_err _ _ _ _ b10 b11 b12 _ _ _ e oo s2 s3 s4 fun h' o'=>?_;show iM h t _ _
   rw[hP,hTe]
   exact⟨rfl,o'⟩
  refine run (aBR rfl bN ?_);refine run (aBE fD ?_);refine aI rfl ?_;refine aI rfl ?_;(refine RunVC.aBS o101 rfl ?_;intro b122 m122 o122);have on:Own h [box b122 [.slice ua ts.length uc,.int .i64 t.length] 72,row (.slice ua ts.length uc) 112 4 ts.length (ts.flatMap pO),box b10 [.slice none 0 0] 24,box b11 [.int .i64 0] 27,box b12 [.int .i64 0] 3,row (.slice none 0 0) 44 25 0 [],gG] m122:=((o122.nilRow 44 25).emptyI').sel [5,4,1,2,3,6,0] rfl;refine LoopVC.intro [24,25,26,27,28,29,30,31,32,33,34,35,36,37,38,39,40,41,42] [] (fun _ hh=>∃(f:Nat) (acc:List It) (q:List Tok) (w:Value) (va:Option Addr) (vc:Nat) (I:Item) (cs:List (List Value)),iP t.length f acc q=T∧q.length<f∧acc.length≤200∧q.length≤5000∧cH (row (.slice ua ts.length uc) 112 4 ts.length (ts.flatMap pO)) w q∧uQ I cs acc∧Own h [box b122 [w,.int .i64 t.length] 72,row (.slice ua ts.length uc) 112 4 ts.length (ts.flatMap pO),box b10 [.slice va acc.length vc] 24,box b11 [.int .i64 0] 27,box b12 [.int .i64 0] 3,row (.slice va acc.length vc) 44 25 acc.length cs.flatten,I] hh) (fun _ hh=>leftP b122 hh) ?_ ?_
  ·exact⟨ts.length+1,[],ts,.slice ua ts.length uc,none,0,gG,[],hT,by omega,by simp,hts,⟨dD,hok⟩,trivial,on⟩
  ·rintro _ junk hh ⟨f,acc,q,w,va,vc,I,cs,hQ,hf,hacc,hq5,hR,hI,oh⟩
   obtain⟨f,rfl⟩:∃ f',f=f'+1:=⟨f - 1,by omega⟩
   obtain⟨wa,wc,rfl⟩:=hR.1.isS (Own.satK oh 1 rfl)
   have hm0:=leftP_of oh 0 rfl rfl;cases q with
   | nil =>
    have hQ':T=.ok acc:=by rw[← hQ];rfl
    refine run (nC rfl ?_);refine run (fA fD rfl rfl rfl ?_);refine run (aBx oh 0 rfl eF rfl rfl ?_);refine run (aBH rfl fE ?_);refine Br.ff ?_;refine run (aBB oh 2 rfl rL rfl rfl rfl ?_);(refine RunVC.store oh 2 rfl rL rfl (by simp) (aI ⟨rfl,rfl⟩ ?_);intro m205 o205);(refine RunVC.aBA o205 3 rfl gW rfl (by decide) (aI ⟨rfl,rfl⟩ ?_);intro m206 o206);(refine RunVC.aBA o206 4 rfl aW rfl (by decide) (aI ⟨rfl,rfl⟩ ?_);intro m207 o207);refine pleave_ok _ _ _ _ _ _ ?_;refine RetVC.cell3A rfl rL rfl gW aW rfl rfl rfl (o207.cellB 2 rfl 0) (o207.cellB 3 rfl 0) (o207.cellB 4 rfl 0) ?_;show iM h t _ _
    rw[hP,hQ']
    exact⟨_,_,rfl,⟨cs,dD.inl,hI.mono (fun _ (s:(dT _ _).sat _)=>s.2)⟩,(o207.sel [5,6] rfl).join⟩
   | cons tk0 r0 =>
    have hln:(tk0::r0).length=r0.length+1:=rfl;refine run (nC rfl ?_);refine run (fA fD rfl rfl rfl ?_);refine run (aBx oh 0 rfl eF rfl rfl ?_);refine run (aBH rfl fE ?_);refine Br.dec (fun c304=>?_) (fun hc=>absurd (by omega) hc);refine run (fA lZ rfl rfl rfl ?_);refine run (aBx oh 2 rfl pN rfl rfl ?_);refine run (aBH rfl oC ?_);by_cases hfull:acc.length=200
    ·refine Br.dec (fun c320=>?_) (fun hc=>absurd (by omega) hc)
     refine CallVC.ends (kE 3 b122 t.length _ (tk0::r0) _ (Own.cellB ‹_› 0 rfl 0) (Own.cellB ‹_› 0 rfl 1) (Own.reads ‹_› 1 hR.1 rfl)) (fun _ _ h=>h.elim) (fun c h4 ⟨hc,ho⟩=>?_);subst hc
     exact⟨(3,tk0.off),_,rfl,by rw[← hQ,vX hfull],rfl,rfl,rfl,(ho.thenE ‹_›).sel [2,3,4] rfl⟩
    ·refine Br.dec (fun hc=>absurd hc (by omega)) (fun c340=>?_)
     refine DrawVC.introBP b10 [0,2,6] [1] [5,7] [0,1,2,3,4,5,6,7] mixed (by kernel_rfl) rfl (aBu.of [36,37,38,39,40,41,42] rfl fun d hd c s v h ⟨e,x,g1,g2,s2,s3,s4,oo⟩=>⟨e,x,g1,g2,(pT (by rintro rfl;cases hd)).symm.trans s2,(pT (by rintro rfl;cases hd)).symm.trans s3,(pT (by rintro rfl;cases hd)).symm.trans s4,oo⟩) ?_;refine fA lZ rfl rfl rfl ?_;refine StillVCA.load1 pN rfl rfl ((oh.cellB 2 rfl _).trans rfl) ?_;refine item_call hW ‹_› rfl hR (by omega) (fun x q2 w2 v J h3 hm hv hle hR2 oq=>?_) (fun e w2 h3 hm o2=>?_)
     ·obtain⟨c,rfl,hc⟩:=hv
      have hlt:=yK hm
      rw[aAC hfull hm]at hQ
      have o9:=oq
      simp only[PSt,pick,lcA,lnA,lgS,lgZ,lgN]at o9
      clear oq
      refine⟨(Own.satK o9 3 rfl).trans (Own.satK (x:=box b10 _ _) ‹_› 2 rfl).symm,?_⟩
      obtain⟨wa2,wc2,rfl⟩:=hR2.1.isS (Own.satK o9 1 rfl)
      have hcl:=hc.len;have hc1:=hc.one (Own.satK o9 2 rfl);(refine RunVC.aBV o9 oC iG rfl rfl (by decide) ?_);refine aI (by rw[hcl];exact(List.all_eq_true.2 hc1)) ?_;refine Eq.mpr (lappV_eq c [] _) ?_
      rw[List.append_nil]
      intro b905 m905 o905
      refine⟨(Own.satK o905 3 rfl).trans (Own.satK o9 3 rfl).symm,?_⟩
      refine RunVC.append ‹_› 6 rfl oC iG (by decide) (Own.boxArrN ‹_› 8 rfl (n:=1) (by simpa using hcl) (by omega)) (by simpa using hc1) (by simp only[maxLen];omega) (by omega) ?_;intro v915 m915 o915
      obtain⟨xa,xc,rfl⟩:=o915.rowIs 6 rfl
      refine fA lZ rfl rfl rfl ?_;(refine RunVC.store o915 3 rfl pN rfl (by simp) (aI ⟨rfl,rfl⟩ ?_);intro m921 o921)
      refine⟨rfl,?_⟩
      have e2:(acc++[x]).length=acc.length+1:=by simp
      have e1:(cs++[c]).flatten=cs.flatten++c:=by simp
      refine⟨⟨f,acc++[x],q2,_,xa,xc,dT J I,cs++[c],hQ,by omega,by omega,by omega,hR2,uQ.snoc (hI.mono (fun _ (s:(dT _ _).sat _)=>s.2)) (hc.mono (fun _ (s:(dT _ _).sat _)=>s.1)),?_⟩,?_⟩
      ·rw[e1,e2]
       exact(Own.sel ‹_› [2,7,0,1,3,4,5,6] rfl).join.sel [1,2,3,4,5,6,0] rfl
      ·have hm1:=leftP_of (bp:=b122) ‹_› 0 rfl rfl
       rw[hm0,hm1]
       omega
     ·refine⟨e,_,rfl,by rw[← hQ,yJ hfull hm],rfl,rfl,rfl,Own.sel o2 [2,3,4] rfl⟩
theorem jH:∀(l:List (List UInt8)),l.flatMap rV=strs l
 | []=>rfl
 | x::l=>by
  rw[List.flatMap_cons,jH l]
  rfl
mutual
def iD:Ex→Nat
 | .mk _ _ ks _ _ _ _ _ _=>yU ks+1
def yU:List Ex→Nat
 | []=>0
 | x::xs=>max (iD x) (yU xs)
end
theorem iB:∀ {l:List Ex}{i:Nat}{x:Ex},l[i]?=some x→iD x≤yU l
 | [],_,_,h=>by simp at h
 | y::l,0,x,h=>by simp at h;subst h;rw[yU];exact Nat.le_max_left _ _
 | y::l,i+1,x,h=>by
  have:=iB (l:=l) (i:=i) (x:=x) (by simpa using h)
  rw[yU]
  exact Nat.le_trans this (Nat.le_max_right _ _)
abbrev iY:={c:List Value // c.length=25}
theorem yH {I:Item}:∀ {cs:List (List Value)}{xs:List It},uQ I cs xs→∃ ds:List iY,cs.flatten=ds.flatMap Subtype.val∧∀(i:Nat)(x:It),xs[i]?=some x→∃ d:iY,ds[i]?=some d∧itR I d.1 x
 | [],[],_=>⟨[],rfl,fun i x h=>by simp at h⟩
 | c::cs,x::xs,h=>by
  obtain⟨ds,h1,h2⟩:=yH h.2
  refine⟨⟨c,h.1.len⟩::ds,by rw[List.flatten_cons,List.flatMap_cons,h1],fun i y hy=>?_⟩
  cases i with
  | zero=>simp at hy;subst hy;exact⟨_,rfl,h.1⟩
  | succ i=>exact h2 i y (by simpa using hy)
 | [],_::_,h=>h.elim
 | _::_,[],h=>h.elim
section
variable {Q : Nat → Nat → Prop}
def itemG (off z:Nat):PM It:=fG z eM 1 >>= fun k=>ifP (k != 5) (dG z) [] >>= fun nm=>mF z k (x0 k nm off) >>= fun x=>bP z [if k=4 then[125] else[59]] >>= fun _=>pure x
theorem itemP_G (z:Nat)(t:Tok)(r:List Tok):kV z (t::r)=itemG t.off z (t::r):=by
 rw[yL]
 refine congrFun (congrArg (fun f=>fG z eM 1 >>= f) (funext fun k=>congrArg (fun f=>ifP (k != 5) (dG z) [] >>= f) (funext fun nm=>congrArg (fun f=>mF z k (x0 k nm t.off) >>= f) (funext fun x=>?_)))) _;by_cases hk:k=4
 ·simp only[if_pos hk]
 ·simp only[if_neg hk]
theorem uR (z:Nat):kV z []=.error (7,z):=rfl
inductive Its (z : Nat) : List Tok → List It → Prop
 | nil:Its z [] []
 | cons {ts r:List Tok} {x:It} {xs:List It}:kV z ts=.ok (x,r)→Its z r xs→Its z ts (x::xs)
theorem yI (z:Nat):∀(f:Nat)(acc:List It)(ts:List Tok)(l:List It),ts.length<f→acc.length≤200→(iP z f acc ts=.ok l↔∃ xs,l=acc++xs∧Its z ts xs∧acc.length+xs.length≤200)
 | 0,_,_,_,h,_=>absurd h (Nat.not_lt_zero _)
 | f+1,acc,[],l,_,ha=>by
  constructor
  ·intro h;cases h;exact⟨[],by simp,.nil,by simpa using ha⟩
  ·rintro⟨xs,rfl,hi,_⟩
   cases hi with
   | nil=>rw[iP,List.append_nil]
   | cons h _=>rw[uR]at h;cases h
 | f+1,acc,t::q,l,hl,ha=>by
  by_cases hfull:acc.length=200
  ·rw[vX hfull]
   constructor
   ·intro h;cases h
   ·rintro⟨xs,_,hi,hle⟩
    cases hi with
    | cons _ _=>simp at hle;omega
  ·cases hp:kV z (t::q) with
   | error e =>
    rw[yJ hfull hp]
    constructor
    ·intro h;cases h
    ·rintro⟨xs,_,hi,_⟩
     cases hi with
     | cons h _=>rw[hp]at h;cases h
   | ok y =>
    obtain⟨x,r⟩:=y
    have hlt:=yK hp
    simp only[List.length_cons]at hl hlt
    rw[aAC hfull hp,yI z f (acc++[x]) r l (by omega) (by simp;omega)]
    constructor
    ·rintro⟨xs,rfl,hi,hle⟩
     exact⟨x::xs,by simp,.cons hp hi,by simp at hle ⊢;omega⟩
    ·rintro⟨xs,rfl,hi,hle⟩
     cases hi with
     | @cons _ r' x' xs' h hi =>
      rw[hp]at h
      cases h
      exact⟨xs',by simp,hi,by simp at hle ⊢;omega⟩
theorem parseM_ok {s:List UInt8}{ts:List Tok}{l:List It}(h:tL s=.ok ts):mG s=.ok l↔Its s.length ts l∧l.length≤200:=by
 unfold mG
 rw[h]
 simp only
 rw[yI _ _ _ _ _ (Nat.lt_succ_self _) (by simp)]
 constructor
 ·rintro⟨xs,rfl,hi,hle⟩;simp at hle ⊢;exact⟨hi,hle⟩
 ·rintro⟨hi,hle⟩;exact⟨l,rfl,hi,by simpa using hle⟩
end
def spc (c:UInt8):Bool:=decide (c=34∨c=92∨c=10)
def oT (c:UInt8):List UInt8:=if c=34 then[92,34] else if c=92 then[92,92] else if c=10 then[92,110] else[c]
def eB (s:List UInt8):List UInt8:=s.flatMap oT
def nS (s:List UInt8):Nat:=s.countP spc
theorem yX (c:UInt8):(oT c).length=1+(if spc c=true then 1 else 0):=by
 unfold oT spc;by_cases h1:c=34
 ·rw[if_pos h1,if_pos (by simp[h1])];rfl
 ·by_cases h2:c=92
  ·rw[if_neg h1,if_pos h2,if_pos (by simp[h2])];rfl
  ·by_cases h3:c=10
   ·rw[if_neg h1,if_neg h2,if_pos h3,if_pos (by simp[h3])];rfl
   ·rw[if_neg h1,if_neg h2,if_neg h3,if_neg (by simp[h1,h2,h3])];rfl
theorem oS {c:UInt8}(h:spc c=false):oT c=[c]:=by
 unfold spc at h
 have:=of_decide_eq_false h
 unfold oT
 rw[if_neg (fun e=>this (.inl e)),if_neg (fun e=>this (.inr (.inl e))),if_neg (fun e=>this (.inr (.inr e)))]
theorem yV:∀(s:List UInt8),(eB s).length=s.length+nS s
 | []=>rfl
 | c::s=>by
  have ih:=yV s;unfold eB nS at ih ⊢
  rw[List.flatMap_cons,List.length_append,ih,yX,List.countP_cons]
  simp
  omega
theorem escS_take {s:List UInt8}{i:Nat}{c:UInt8}(h:s[i]?=some c):eB (s.take (i+1))=eB (s.take i)++oT c:=by
 unfold eB
 rw[List.take_add_one,h,List.flatMap_append]
 simp
theorem tO (s:List UInt8)(i:Nat):(eB (s.take i)).length≤(eB s).length:=by
 conv=>rhs;rw[← List.take_append_drop i s]
 unfold eB
 rw[List.flatMap_append,List.length_append]
 omega
theorem escS_le (s:List UInt8):(eB s).length≤2*s.length:=by
 have h1:=yV s;have h2:nS s≤s.length:=List.countP_le_length
 omega
theorem quoF_34 (w acc:List UInt8)(m:Nat):eL (34::w) acc m=if 200<acc.length then .err 3 else .tok 3 acc 0 (m+2):=by
 cases w with
 | nil=>rw[eL,if_pos (by decide)]
 | cons d r=>rw[eL,if_pos (by decide)]
theorem nQ:∀(s w acc:List UInt8)(m:Nat),acc.length+s.length≤200→eL (eB s++34::w) acc m=.tok 3 (acc++s) 0 (m+(eB s).length+2)
 | [],w,acc,m,h=>by
  show eL (34::w) acc m=_
  rw[quoF_34,if_neg (by simp at h;omega)]
  simp[eB]
 | c::s,w,acc,m,h=>by
  have e:eB (c::s)=oT c++eB s:=by simp[eB]
  have hh:(acc++[c]).length+s.length≤200:=by simp at h ⊢;omega
  rw[e]
  unfold oT;by_cases h34:c=34
  ·subst h34
   rw[if_pos rfl]
   show eL (92::34::(eB s++34::w)) acc m=_
   rw[eL,if_neg (by decide),if_neg (by decide),if_pos (by decide),show yW 34=some 34 from rfl]
   simp only
   rw[nQ s w _ _ hh]
   simp;omega
  ·rw[if_neg h34]
   by_cases h92:c=92
   ·subst h92
    rw[if_pos rfl]
    show eL (92::92::(eB s++34::w)) acc m=_
    rw[eL,if_neg (by decide),if_neg (by decide),if_pos (by decide),show yW 92=some 92 from rfl]
    simp only
    rw[nQ s w _ _ hh]
    simp;omega
   ·rw[if_neg h92]
    by_cases h10:c=10
    ·subst h10
     rw[if_pos rfl]
     show eL (92::110::(eB s++34::w)) acc m=_
     rw[eL,if_neg (by decide),if_neg (by decide),if_pos (by decide),show yW 110=some 10 from rfl]
     simp only
     rw[nQ s w _ _ hh]
     simp;omega
    ·rw[if_neg h10]
     have toN:∀ {a b:UInt8},a≠b→a.toNat≠b.toNat:=fun h e=>h (UInt8.toNat_inj.1 e);have n34:c.toNat≠34:=toN h34;have n10:c.toNat≠10:=toN h10;have n92:c.toNat≠92:=toN h92;have ih:=nQ s w (acc++[c]) (m+1) hh;have step:eL (c::(eB s++34::w)) acc m=eL (eB s++34::w) (acc++[c]) (m+1):=by
      cases hr:eB s++34::w with
      | nil=>simp at hr
      | cons d r=>rw[eL,if_neg n34,if_neg n10,if_neg n92]
     show eL (c::(eB s++34::w)) acc m=_
     rw[step,ih]
     simp;omega
theorem readR_escS (s w:List UInt8)(h:s.length≤200):fU (34::(eB s++34::w))=.tok 3 s 0 ((eB s).length+2):=by
 rw[kP (by decide) (by decide) (by decide),nQ s w [] 0 (by simpa using h)]
 simp
theorem oF:∀(l acc:List UInt8)(m:Nat) {k n:Int}{x:List UInt8}{len:Nat},eL l acc m=.tok k x n len→(eB acc).length=m→(eB x).length+2=len∧x.length≤200
 | [],_,_,_,_,_,_,h,_=>by cases h
 | [c],acc,m,_,_,_,_,h,he=>by
  rw[eL]at h
  split at h
  ·split at h<;>cases h
   exact⟨by omega,by omega⟩
  ·split at h<;>cases h
 | c::d::r,acc,m,_,_,_,_,h,he=>by
  rw[eL]at h
  split at h
  ·split at h<;>cases h
   exact⟨by omega,by omega⟩
  ·rename_i h34
   split at h
   ·cases h
   ·rename_i h10
    split at h
    ·split at h
     ·cases h
     ·rename_i y hy
      refine oF r _ _ h ?_
      have:spc y=true:=by
       unfold yW at hy;split at hy
       ·cases hy;rfl
       ·split at hy
        ·cases hy;rfl
        ·split at hy<;>cases hy
         rfl
      have h2:=yX y
      rw[this]at h2
      have e:eB (acc++[y])=eB acc++oT y:=by simp[eB]
      rw[e,List.length_append,he,h2]
      rfl
    ·rename_i h92
     refine oF (d::r) _ _ h ?_;have hs:spc c=false:=by
      unfold spc;refine decide_eq_false ?_
      rintro(rfl|rfl|rfl)
      ·exact h34 rfl
      ·exact h92 rfl
      ·exact h10 rfl
     have e:eB (acc++[c])=eB acc++oT c:=by simp[eB]
     rw[e,List.length_append,he,oS hs]
     rfl
def wr (x:Tok):List UInt8:=if x.kind=3 then[34]++eB x.text++[34] else x.text
structure Pc where
 b:List UInt8
 t:Tok
def fR (p:Pc):List UInt8:=p.b++wr p.t
def bE (l:List Pc):List UInt8:=l.flatMap fR
def aP (b s:List UInt8):Pc:=⟨b,⟨4,s,0,0⟩⟩
def aG (b s:List UInt8):Pc:=⟨b,⟨1,s,0,0⟩⟩
def bQ (b:List UInt8)(n:Int):Pc:=⟨b,⟨2,Lib.itoa n,n,0⟩⟩
def txtT (b s:List UInt8):Pc:=⟨b,⟨3,s,0,0⟩⟩
def dH:List UInt8→Bool
 | []=>false
 | c::r=>decide ((c::r).length≤24)&&dO c&&r.all bZ
def gZ (n:Int):Bool:=decide (0≤n∧n≤9999999999)
def bG (b s:List UInt8):Option (List Pc):=if dH s=true then some [aG b s] else none
def iJ (b:List UInt8)(n:Int):Option (List Pc):=if gZ n=true then some [bQ b n] else none
def fX (n:Int)(ws:List (List UInt8)):Option (List Pc):=if 1≤n∧n≤ws.length then some [aG [32] (ws.getD (n - 1).toNat [])] else none
def opQ (n:Int):Option (List Pc):=if 1≤n∧n≤4 then some [aP [32] (([[61],[33,61],[60],[60,61]]:List (List UInt8)).getD (n - 1).toNat [])] else none
def aF:List (Option (List Pc))→Option (List Pc)
 | []=>some []
 | none::_=>none
 | some x::r=>(aF r).map (x++·)
def iV {α:Type}(one:List UInt8→α→Option (List Pc))(before:List UInt8):List α→Option (List Pc)
 | []=>some []
 | x::r=>aF (one before x::r.map fun y=>(one [32] y).map (aP [] [44]::·))
def dW {α:Type}(one:List UInt8→α→Option (List Pc))(before:List UInt8)(l:List α):Option (List Pc):=match l with
 | []=>none
 | _=>iV one before l
def bR (v:Vl):Option (List Pc) :=
 if v.k=0 then(if v.n=0∧v.t=[] then some [aG [32] [110,117,108,108]] else none)
 else if v.k=1 then(if v.n=0∧v.t.length≤200 then some [txtT [32] v.t] else none)
 else if v.k=2 then(if v.t=[]∧-9999999999≤v.n∧v.n≤9999999999 then some (if v.n<0 then[aP [32] [45],bQ [] (-v.n)] else[bQ [32] v.n]) else none)
 else if v.k=3 then(if v.t=[]∧gZ v.n=true then some [aP [32] [64],bQ [] v.n] else none)
 else if v.k=4 then(if v.t=[]∧(v.n=0∨v.n=1) then some [aG [32] (if v.n=0 then[102,97,108,115,101] else[116,114,117,101])] else none)
 else none
def eG (t a:List UInt8):Option (List Pc):=aF [bG [32] t,some [aP [] [46]],bG [] a]
def reserved (s:List UInt8):Bool:=decide (s=[116,114,117,101]∨s=[102,97,108,115,101]∨s=[110,117,108,108])
def fP (x:Opd):Option (List Pc) :=
 if x.con=true then(if x.var=[]∧x.attr=[] then bR x.val else none)
 else if ¬ (x.val.k=0∧x.val.n=0∧x.val.t=[]) then none
 else if x.var=[] then(if reserved x.attr=true then none else bG [32] x.attr)
 else if reserved x.var=true then none else eG x.var x.attr
def sK (n:Int):Option (List Pc) :=
 if ¬ (-9999999999≤n∧n≤9999999999) then none
 else if 0<n then some [aP [32] [43],bQ [32] n]
 else if n<0 then some [aP [32] [45],bQ [32] (-n)]
 else some []
def pH (x:Cnd):Option (List Pc):=aF [fP x.left,opQ x.op,fP x.right,sK x.add]
def mN:List Cnd→Option (List Pc)
 | []=>none
 | x::r=>aF (some [aG [32] [119,104,101,114,101]]::pH x::r.map fun y=>(pH y).map (aG [32] [97,110,100]::·))
def gD (k:Int):Nat:=if k=1 then 0 else if k=4∨k=5∨k=6 then 2 else 1
def eP (k:Int)(tb:List UInt8)(cs:List Cnd)(ns:List (List UInt8))(a as_:List UInt8)(g:Int):Bool :=
 decide ((k=1∨tb=[])∧(k=2∨cs=[])∧(k=3∨k=8∨ns=[])∧(k=7∨k=8∨a=[])∧(k=7∨k=8∨as_=[])∧(k=8∨g=0))
def withQ:List (List UInt8)→Bool
 | []=>true
 | s::_=>decide (s≠[119,105,116,104])
def dR (k:Int)(cs:List Cnd)(ns:List (List UInt8))(a as_:List UInt8)(g:Int):Option (List Pc) :=
 if k=2 then mN cs
 else if k=3 then aF [some [aG [32] [111,110]],iV bG [32] ns]
 else if k=7 then aF [some [aP [] [44]],bG [32] a,some [aG [32] [97,115]],bG [32] as_]
 else if k=8 then(if withQ ns=true then aF [some [aG [32] [111,110]],iV bG [32] ns,some [aG [32] [119,105,116,104]],fX g [[99,111,117,110,116],[115,117,109],[108,101,97,115,116],[103,114,101,97,116,101,115,116]],
  (if g=1 then(if a=[] then some [] else none) else bG [32] a),some [aG [32] [97,115]],bG [32] as_] else none)
 else some []
mutual
def gJ (before:List UInt8):Ex→Option (List Pc)
 | .mk k tb ks cs ns a as_ g _ =>
  if 1≤k∧k≤8∧ks.length=gD k∧eP k tb cs ns a as_ g=true then
   if k=1 then bG before tb
   else aF [some [aG before (dB.getD (k - 2).toNat []),aP [] [40]],kU [] ks,dR k cs ns a as_ g,some [aP [] [41]]]
  else none
def kU (before:List UInt8):List Ex→Option (List Pc)
 | []=>some []
 | x::r=>match gJ before x,kU [32] r with
  | some p,some q=>some (p++(if r.isEmpty then[] else[aP [] [44]])++q)
  | _,_=>none
end
mutual
def cC:Ex→Nat
 | .mk _ _ ks _ _ _ _ _ _=>cI ks+1
def cI:List Ex→Nat
 | []=>0
 | x::r=>max (cC x) (cI r)
end
def mO (before:List UInt8)(c:Col):Option (List Pc):=aF [bG before c.name,fX c.kind [[116,101,120,116],[110,117,109,98,101,114],[100,97,121],[102,108,97,103]],
 (if c.dflt.k=0∧c.dflt.n=0∧c.dflt.t=[] then some [] else(bR c.dflt).map (aP [32] [61]::·))]
def bC (t:Trm):Option (List Pc):=aF [bG [10,32,32] t.attr,fX t.measure [[101,113,117,97,108],[101,100,105,116],[106,97,99,99,97,114,100],[106,97,114,111],[110,101,97,114]],
 (if t.measure=5 then iJ [32] t.tol else if t.tol=0 then some [] else none),some [aG [32] [108,101,97,115,116]],iJ [32] t.num,
 (if t.den=1 then some [] else(iJ [] t.den).map (aP [] [47]::·)),some [aG [32] [103,105,118,101,115]],iJ [32] t.gives,
 (if t.takes=0 then some [] else(iJ [32] t.takes).map (aG [32] [116,97,107,101,115]::·)),some [aP [] [59]]]
def uV (f:Nmd):Option (List Pc):=aF [bG [32] f.name,some [aP [32] [61]],bR f.val]
def uU:List Nmd→Option (List Pc)
 | []=>some []
 | x::r=>aF (some [aG [32] [119,104,101,114,101]]::uV x::r.map fun y=>(uV y).map (aP [] [44]::·))
def sQ (v:Vr):Option (List Pc):=aF [bG [32] v.table,bG [32] v.name]
def fI (x:It):Bool:=decide ((x.kind=5→x.name=[])∧(x.kind=3∨x.kind=4∨x.kind=5∨x.kind=6∨x.kind=7∨x.kind=8∨x.table=[])∧(x.kind=3∨x.kind=5∨x.kind=7∨x.kind=8∨x.attr=[])∧(x.kind=1∨x.cols.length=0)
 ∧ (x.kind=1∨x.kind=6∨x.kind=7∨x.names=[])∧(x.kind=3∨x.kind=5∨x.by_=0)∧(x.kind=2∨x.kind=4∨(x.kind=3∧3≤x.by_)∨x.n=0)∧((x.kind=3∧x.by_=4)∨x.m=0)∧(x.kind=4∨x.terms.length=0)
 ∧ (x.kind=8∨x.other=[])∧(x.kind=8∨x.oattr=[])∧(x.kind=7∨x.fixed.length=0)∧(x.kind=9∨x.vars.length=0)∧(x.kind=9∨x.conds.length=0))
def jP:Ex→Bool
 | .mk k tb ks cs ns a as_ g _=>decide (k=0∧tb=[]∧ks.length=0∧cs.length=0∧ns=[]∧a=[]∧as_=[]∧g=0)
def dS (x:It):Option (List Pc) :=
 if x.kind=1 then aF [some [aP [] [40]],dW mO [] x.cols,some [aP [] [41],aG [32] [107,101,121]],dW bG [32] x.names]
 else if x.kind=2 then aF [some [aG [32] [116,114,117,115,116]],iJ [32] x.n]
 else if x.kind=3 then aF [some [aG [32] [111,110]],eG x.table x.attr,some [aG [32] [98,121]],fX x.by_ [[101,120,97,99,116],[116,111,107,101,110],[112,114,101,102,105,120],[115,107,101,116,99,104]],(if 3≤x.by_ then iJ [32] x.n else some []),(if x.by_=4 then iJ [32] x.m else some [])]
 else if x.kind=4 then aF ([some [aG [32] [111,110]],bG [32] x.table,some [aG [32] [97,116]],iJ [32] x.n,some [aP [32] [123]]]++x.terms.map bC)
 else if x.kind=5 then aF [eG x.table x.attr,some [aG [32] [98,121]],fX x.by_ [[108,97,116,101,115,116],[109,111,115,116],[116,114,117,115,116,101,100],[108,111,110,103,101,115,116],[108,101,97,115,116],[103,114,101,97,116,101,115,116]]]
 else if x.kind=6 then aF [some [aG [32] [111,110]],bG [32] x.table,some [aP [] [40]],dW bG [] x.names,some [aP [] [41]]]
 else if x.kind=7 then aF [some [aG [32] [111,110]],bG [32] x.table,some [aP [] [40]],dW bG [] x.names,some [aP [] [41],aG [32] [116,111]],bG [32] x.attr,uU x.fixed]
 else if x.kind=8 then aF [eG x.table x.attr,some [aG [32] [105,110]],eG x.other x.oattr]
 else if x.kind=9 then aF [dW (fun _=>sQ) [] x.vars,mN x.conds]
 else aF [some [aP [32] [61]],gJ [32] x.expr]
def iO (x:It):Option (List Pc) :=
 if 1≤x.kind∧x.kind≤10∧fI x=true∧(x.kind=10∨jP x.expr=true) then
  aF [some [aG [] (eM.getD (x.kind - 1).toNat [])],(if x.kind=5 then some [] else bG [32] x.name),dS x,some [if x.kind=4 then aP [10] [125] else aP [] [59]]]
 else none
def eO (xs:List It):Option (List (List Pc)):=xs.mapM iO
def fH (l:List Pc):List UInt8:=bE l++[10]
def gL (ls:List (List Pc)):List UInt8:=ls.flatMap fH
def mM (ls:List (List Pc)):Nat:=ls.flatten.length
def iA (x:It):Bool:=decide (x.kind=10→cC x.expr≤12)
def cB (xs:List It):List UInt8×Int:=match eO xs with
 | none=>([],1)
 | some ls=>if xs.all iA=true∧xs.length≤200∧mM ls≤5000∧(gL ls).length≤20000 then(gL ls,0) else([],3)
section
variable {P : Program} {ty : TypeId} {s : List Value} {h0 : Base} {h : Heap} {L : List Item} {K : KK} {Q : QQ}
theorem RunVC.nePP {t t' e:TypeId}{x y:Operand}{a:Addr}(hS:P.underlying t=some (.pointer e))(hi:(P.info? e).isSome=true)(hx:ev s x=.pointer (some a))(hy:ev s y=.pointer (some a))(hk:K (.bool false) false h):RunVC P (.binOp .neq t x y t') ty s h K Q:=by
 obtain⟨j,hj⟩:=Option.isSome_iff_exists.1 hi
 refine .pure' _ false (fun w=>?_) hk
 have:=Lib.run_neq_ptr_same w a hS hj
 simp[execOp,hx,hy,eqGuard_at_pointer,this]
theorem RunVC.fromUnsafe {src dst u:TypeId}{x:Operand}{a:Addr}{b:Nat}{cs:List Value}{t:TypeId}(o:Own h0 L h)(k:Nat)(hk:L[k]?=some (box b cs t))(hs:P.underlying src=some .unsafePointer)(hd:P.underlying dst=some (.pointer u))(hu:(P.info? u).isSome=true)
  (hx:ev s x=.pointer (some a)) (hb:a.block=b) (hlies:liesAt P P.depth t (cs.length / P.cellsOf t) a.off u 1=true) (hK:K (.pointer (some a)) false h):RunVC P (.convert src dst x) ty s h K Q:=by
 obtain⟨j,hj⟩:=Option.isSome_iff_exists.1 hu
 subst hb;refine .of fun w hw=>⟨_,false,w,?_,.refl w,by rw[hw];exact hK⟩;subst hw;have hbk:=o.boxBlk k hk;have hsh:w.shape? a.block=some (t,cs.length):=by simp[World.shape?,hbk]
 have:=Lib.run_from_unsafe w a hs hd hj hsh hlies
 simp[execOp,hx,this]
end
theorem XSpec.noEscape {P:Program}{f:FuncId}{fn:Func}{h:Heap}(hf:P.funcs[f]?=some fn)(hname:(fn.name == "runtime.NumGoroutine")=false)(hb:fn.body.isNone=true)(hn:Extern.findNext fn=none)
  (he:Extern.find fn=some Extern.AbiNoEscape.same) (x:Value):XSpec P f [x] h (Ret fun v h'=>v=x∧h'=h) :=
 fun w hw=>⟨_,w,by rw[run_callFunc_extern hf hname hb hn he];simp[Lib.run_noEscape],.refl w,rfl,hw⟩
abbrev wSt (b:Nat)(p v:Value)(k:Int)(bs:List UInt8):List Item:=[box b [p,v,.int .i64 k] 58,row v 5 1 bs.length (bytes bs)]
theorem pF (b:Nat)(v:Value)(k:Int)(h:Heap)(L:List Item)(h0:Base)(o0:Own h0 (box b [.pointer (some ⟨b,0,none⟩),v,.int .i64 k] 58::L) h) :
  cK Tryz.prog 80 [.pointer (some ⟨b,0,none⟩)] h fun r h'=>Own h0 (box b [.pointer (some ⟨b,0,none⟩),v,.int .i64 k] 58::L) h':=by
 refine Spec.enter Tryz.func80 rfl Tryz.ntmps80 (by kernel_rfl) ?_;refine run (nC rfl ?_);refine run (fA tY rfl rfl rfl ?_);refine run (aBx o0 0 rfl ty51 rfl rfl ?_);refine RunVC.eqP (by kernel_rfl) rfl rfl ?_;refine Br.ff ?_;refine run (nC rfl ?_);refine run (fA tY rfl rfl rfl ?_);refine run (aBx o0 0 rfl ty51 rfl rfl ?_);refine RunVC.nePP (e:=54) (by kernel_rfl) (by kernel_rfl) rfl rfl ?_;refine Br.ff ?_;refine RetVC.zero rfl ?_;exact o0
theorem pG (b:Nat)(v:Value)(k:Int)(h:Heap)(L:List Item)(h0:Base)(o0:Own h0 (box b [.pointer none,v,.int .i64 k] 58::L) h) :
  cK Tryz.prog 80 [.pointer (some ⟨b,0,none⟩)] h fun r h'=>Own h0 (box b [.pointer (some ⟨b,0,none⟩),v,.int .i64 k] 58::L) h':=by
 refine Spec.enter Tryz.func80 rfl Tryz.ntmps80 (by kernel_rfl) ?_;refine run (nC rfl ?_);refine run (fA tY rfl rfl rfl ?_);refine run (aBx o0 0 rfl ty51 rfl rfl ?_);refine RunVC.eqP (by kernel_rfl) rfl rfl ?_;refine Br.tt ?_;refine run (toUnsafe (e:=54) (by kernel_rfl) (by kernel_rfl) (by kernel_rfl) rfl ((o0.cellB 0 rfl _).trans rfl) ?_);refine CallVC.ext (XSpec.noEscape Tryz.func129 (by kernel_rfl) (by kernel_rfl) (by kernel_rfl) (by kernel_rfl) _) ?_;rintro _ h1 ⟨rfl,rfl⟩;refine RunVC.fromUnsafe o0 0 rfl (by kernel_rfl) (u:=54) (by kernel_rfl) (by kernel_rfl) rfl rfl (by kernel_rfl) ?_;refine run (nC rfl ?_);refine run (fA tY rfl rfl rfl ?_);(refine RunVC.store o0 0 rfl ty51 rfl (by simp) (aI ⟨rfl,rfl⟩ ?_);intro m62 o62);refine RetVC.zero rfl ?_;exact o62
abbrev cN (b:Nat)(p:Value):Prop:=p=.pointer none∨p=.pointer (some ⟨b,0,none⟩)
theorem nZ (b:Nat)(p v:Value)(k:Int)(bs:List UInt8)(c:UInt8)(h:Heap)(h0:Base)(hp:cN b p)(o0:Own h0 [box b [p,v,.int .i64 k] 58,row v 5 1 bs.length (bytes bs)] h)(hn:bs.length+1≤140000000000000) :
  cK Tryz.prog 36 [.pointer (some ⟨b,0,none⟩),.int .u8 c.toNat] h fun r h'=>r=.nilIface∧∃ v',Own h0 (wSt b (.pointer (some ⟨b,0,none⟩)) v' k (bs++[c])) h':=by
 refine Spec.enter Tryz.func36 rfl Tryz.ntmps36 (by kernel_rfl) ?_;refine CallVC.ret (Post:=fun r h'=>Own h0 [box b [.pointer (some ⟨b,0,none⟩),v,.int .i64 k] 58,row v 5 1 bs.length (bytes bs)] h') ?_ ?_
 ·rcases hp with rfl|rfl
  ·exact pG b v k h _ h0 o0
  ·exact pF b v k h _ h0 o0
 intro r1 h1 o1;clear o0;refine run (nC rfl ?_);refine run (fA tY rfl rfl rfl ?_);refine run (aBx o1 0 rfl kZ rfl rfl ?_);(refine RunVC.lit o1 fQ ty5 rfl rfl (by decide) (aI rfl ?_);intro b83 m83 o83);(refine RunVC.append o83 1 rfl fQ ty5 (by decide) (o83.boxArr 2 rfl (by simp) (by simp)).toN (by simp[Value.oneCell']) (by simp only[maxLen];first|omega|(simp;omega)) (by first|omega|(simp;omega)) ?_;intro v84 m84 o84);refine run (nC rfl ?_);refine run (fA tY rfl rfl rfl ?_)
 obtain⟨a,cc,rfl⟩:=o84.rowIs 1 rfl
 (refine RunVC.store o84 0 rfl kZ rfl (by simp) (aI ⟨rfl,rfl⟩ ?_);intro m90 o90);refine RetVC.one rfl ?_
 refine⟨rfl,.slice a (bs.length+1) cc,?_⟩
 have hl:(bs++[c]).length=bs.length+1:=by simp
 show Own h0 [box b [.pointer (some ⟨b,0,none⟩),.slice a (bs.length+1) cc,.int .i64 k] 58,row (.slice a (bs.length+1) cc) 5 1 (bs++[c]).length (bytes (bs++[c]))] m90
 rw[show bytes (bs++[c])=bytes bs++[.int .u8 c.toNat] by simp,hl]
 exact o90.sel [0,1] rfl
theorem aA1 (b:Nat)(p v:Value)(k:Int)(bs s:List UInt8)(h:Heap)(h0:Base)(hp:cN b p)(o0:Own h0 [box b [p,v,.int .i64 k] 58,row v 5 1 bs.length (bytes bs)] h)(hn:bs.length+s.length≤140000000000000) :
  cK Tryz.prog 69 [.pointer (some ⟨b,0,none⟩),.string ⟨⟨s⟩⟩] h fun r h'=>r=.tuple #[.int .i64 s.length,.nilIface]∧∃ v',Own h0 (wSt b (.pointer (some ⟨b,0,none⟩)) v' k (bs++s)) h':=by
 refine Spec.enter Tryz.func69 rfl Tryz.ntmps69 (by kernel_rfl) ?_;refine CallVC.ret (Post:=fun r h'=>Own h0 [box b [.pointer (some ⟨b,0,none⟩),v,.int .i64 k] 58,row v 5 1 bs.length (bytes bs)] h') ?_ ?_
 ·rcases hp with rfl|rfl
  ·exact pG b v k h _ h0 o0
  ·exact pF b v k h _ h0 o0
 intro r1 h1 o1;clear o0;refine run (nC rfl ?_);refine run (fA tY rfl rfl rfl ?_);refine run (aBx o1 0 rfl kZ rfl rfl ?_);(refine RunVC.appendS o1 1 rfl fQ bN u8_5 rfl (by simp only[maxLen];first|omega|(simp;omega)) (by first|omega|(simp;omega)) ?_;intro v83 m83 o83);refine run (nC rfl ?_);refine run (fA tY rfl rfl rfl ?_)
 obtain⟨a,cc,rfl⟩:=o83.rowIs 1 rfl
 (refine RunVC.store o83 0 rfl kZ rfl (by simp) (aI ⟨rfl,rfl⟩ ?_);intro m90 o90);refine run (aBR rfl bN ?_);refine RetVC.two rfl ?_
 refine⟨rfl,.slice a (bs.length+s.length) cc,?_⟩
 have hl:(bs++s).length=bs.length+s.length:=by simp
 show Own h0 [box b [.pointer (some ⟨b,0,none⟩),.slice a (bs.length+s.length) cc,.int .i64 k] 58,row (.slice a (bs.length+s.length) cc) 5 1 (bs++s).length (bytes (bs++s))] m90
 rw[show bytes (bs++s)=bytes bs++bytes s by simp,hl]
 exact o90.sel [0,1] rfl
theorem wLen_spec (b:Nat)(p v:Value)(k:Int)(bs:List UInt8)(h:Heap)(h0:Base)(o0:Own h0 [box b [p,v,.int .i64 k] 58,row v 5 1 bs.length (bytes bs)] h) :
  cK Tryz.prog 20 [.pointer (some ⟨b,0,none⟩)] h fun r h'=>r=.int .i64 bs.length∧Own h [] h':=by
 refine Spec.enter Tryz.func20 rfl Tryz.ntmps20 (by kernel_rfl) ?_;have oh:=Own.refl h
 obtain⟨a,cc,rfl⟩:=o0.rowIs 1 rfl
 refine run (nC rfl ?_);refine run (fA tY rfl rfl rfl ?_);refine run (aBx o0 0 rfl kZ rfl rfl ?_);refine run (aBH rfl fQ ?_);refine RetVC.one rfl ?_
 exact⟨rfl,oh⟩
section
variable {P : Program} {ty : TypeId} {s : List Value} {h0 h : Heap} {L : List Item} {K : KK} {Q : QQ}
theorem RunVC.sliceData {t:TypeId}{x:Operand}{a:Addr}{n c:Nat}(hx:ev s x=.slice (some a) n c)(hc:c≠0)(hK:K (.pointer (some a)) false h):RunVC P (.call ⟨.builtin .unsafeSliceData,⟨[x]⟩,⟨[t]⟩⟩) ty s h K Q :=
 .pure' _ false (fun w=>by simp[execOp,resolve,invoke,builtin,hx,Lib.run_unsafeSliceData_row w _ _ a n c hc]) hK
theorem RunVC.sliceDataNil {t:TypeId}{x:Operand}{n c:Nat}(hx:ev s x=.slice none n c)(hK:K (.pointer none) false h):RunVC P (.call ⟨.builtin .unsafeSliceData,⟨[x]⟩,⟨[t]⟩⟩) ty s h K Q :=
 .pure' _ false (fun w=>by simp[execOp,resolve,invoke,builtin,hx,Lib.run_unsafeSliceData_nil]) hK
theorem RunVC.unsafeStrNil {pt it:TypeId}{x y:Operand}{p:Option Addr}(hx:ev s x=.pointer p)(hy:ev s y=.int .i64 0)(hK:K (.string .empty) false h):RunVC P (.call ⟨.builtin .unsafeString,⟨[x,y]⟩,⟨[pt,it]⟩⟩) ty s h K Q :=
 .pure' _ false (fun w=>by simp[execOp,resolve,invoke,builtin,hx,hy,Lib.run_unsafeString_none w pt it ty p]) hK
end
def uZ:List PanicEntry:=[{ v:=.iface 27 (.int .i64 1),recovered:=false }]
def MEnds (B:Base)(ok:Bool)(v:Value):Ending→Heap→Prop:=Ends (fun r h'=>ok=true∧r=v∧Own B [] h') fun c h'=>ok=false∧c=uZ∧Own B [] h'
theorem aC (b:Bool)(h:Heap):Spec Tryz.prog 30 [.bool b] h (MEnds h b (.tuple #[])):=by
 refine Spec.enter Tryz.func30 rfl Tryz.ntmps30 (by kernel_rfl) ?_;have o0:=Own.refl h;cases b with
 | true =>
  refine Br.ff ?_;refine RetVC.zero rfl ?_;refine aI rfl ?_
  exact⟨rfl,o0⟩
 | false =>
  refine Br.tt ?_;refine run (aB3 (by kernel_rfl) rfl ?_);refine RunVC.panicI rfl ?_
  exact⟨rfl,rfl,o0⟩
theorem MEnds.call {g:FuncId}{args s:List Value}{ok:Bool}{v:Value}{m:Heap}{K:KK}{Q:QQ}(sp:Spec Tryz.prog g args m (MEnds m ok v))(hret:ok=true→∀ h',Own m [] h'→K v false h')(hpan:ok=false→∀ h',Own m [] h'→Q (.panic uZ) s h'):CallVC Tryz.prog g args s m K Q :=
 CallVC.ends sp (fun _ _ ⟨h1,h2,h3⟩=>by subst h2;exact hret h1 _ h3) (fun _ _ ⟨h1,h2,h3⟩=>by subst h2;exact hpan h1 _ h3)
def eT (j:Nat)(c:UInt8):Bool:=dO c||(decide (0<j)&&bZ c)
def fS (j:Nat)(c:UInt8):Prop:=(97≤c.toNat∧c.toNat≤122)∨(65≤c.toNat∧c.toNat≤90)∨(0<j∧((48≤c.toNat∧c.toNat≤57)∨c.toNat=95))
theorem eA (j:Nat)(c:UInt8):fS j c↔eT j c=true:=by
 unfold fS eT bZ dO bX
 simp only[Bool.or_eq_true,Bool.and_eq_true,decide_eq_true_eq]
 omega
theorem hO (s:List UInt8):dH s=true↔s≠[]∧s.length≤24∧∀(j:Nat)(c:UInt8),s[j]?=some c→eT j c=true:=by
 cases s with
 | nil=>simp[dH]
 | cons d r =>
  simp only[dH,Bool.and_eq_true,decide_eq_true_eq,List.all_eq_true]
  constructor
  ·rintro⟨⟨h1,h2⟩,h3⟩
   refine⟨by simp,h1,fun j c hc=>?_⟩
   cases j with
   | zero=>simp at hc;subst hc;simp[eT,h2]
   | succ j =>
    have:=h3 c (List.mem_of_getElem? (by simpa using hc))
    simp[eT,this]
  ·rintro⟨_,h1,h2⟩
   refine⟨⟨h1,?_⟩,fun c hc=>?_⟩
   ·have:=h2 0 d rfl
    simpa[eT] using this
   ·obtain⟨j,hj⟩:=List.mem_iff_getElem?.1 hc
    have:=h2 (j+1) c (by simpa using hj)
    simp only[eT,Bool.or_eq_true,Bool.and_eq_true]at this
    rcases this with h|⟨_,h⟩
    ·simp[bZ,h]
    ·exact h
theorem oL {s:List UInt8}{j:Nat}{c:UInt8}(h:s[j]?=some c)(hc:eT j c=false):dH s=false:=by
 cases hn:dH s with
 | false=>rfl
 | true=>rw[((hO s).1 hn).2.2 j c h]at hc;cases hc
theorem bF (s:List UInt8)(h:Heap)(hl:s.length≤1000000000000000):Spec Tryz.prog 33 [.string ⟨⟨s⟩⟩] h (MEnds h (dH s) (.string ⟨⟨s⟩⟩)):=by
 refine Spec.enter Tryz.func33 rfl Tryz.ntmps33 (by kernel_rfl) ?_;have o0:=Own.refl h;by_cases h1:s=[]
 ·subst h1
  refine Br.ff ?_;refine MEnds.call (aC _ _) (fun e=>by cases e) fun _ h2 o2=>?_
  exact⟨rfl,rfl,o2⟩
 refine Br.aBO (fun c20=>?_) (fun hc=>absurd hc (by first|omega|assumption|decide|exact rfl));refine run (aBR rfl bN ?_);refine MEnds.call (aC _ _) (fun e1 h2 o2=>?_) fun e1 h2 o2=>?_
 ·have h24:s.length≤24:=by have:=of_decide_eq_true e1;omega
  refine run (aBR rfl bN ?_);refine LoopVC.intro [3,4,5,16,17,18,19,20,21,22,23,24,25,26,27,28,29,30,31,32,33,34,35,36,37,38,39,40,41,42,43,44,45,46,47,48,49,50,51,52,53,54] [16] (fun vs hh=>∃(i:Nat),i≤s.length∧vs=[.int .i64 i]∧(∀(j:Nat) (c:UInt8),j<i→s[j]?=some c→eT j c=true)∧Own h [] hh) (fun vs _=>match vs with|[.int _ i]=>s.length - i.toNat|_=>0) ?_ ?_
  ·exact⟨0,by omega,rfl,fun j c hj=>by omega,o2⟩
  ·rintro vs junk hh ⟨i,hi,rfl,hE,oh⟩
   by_cases hlt:i<s.length
   ·obtain⟨c,hc⟩:=getx hlt
    have next:eT i c=true→∀(j:Nat) (d:UInt8),j<i+1→s[j]?=some d→eT j d=true:=fun hat j d hj hd=>by
     by_cases hji:j=i
     ·subst hji
      rw[hc]at hd
      cases hd
      exact hat
     ·exact hE j d (by omega) hd
    refine Br.dec (fun c40=>?_) (fun hc=>absurd (by omega) hc);refine run (aBG rfl rfl bN (by omega) ‹_› ?_);refine Br.dec (fun c42=>?_) (fun c42=>?_);refine Br.dec (fun c43=>?_) (fun c43=>?_);refine Br.tt ?_
    rotate_left
    refine Br.dec (fun c44=>?_) (fun hc=>absurd (by omega) hc);refine Br.dec (fun hc=>absurd hc (by omega)) (fun c45=>?_);refine Br.dec (fun c46=>?_) (fun c46=>?_);refine Br.dec (fun c47=>?_) (fun hc=>absurd (by omega) hc);refine Br.dec (fun hc=>absurd hc (by omega)) (fun c48=>?_)
    rotate_left
    rotate_left
    refine Br.dec (fun c49=>?_) (fun c49=>?_);refine Br.dec (fun c50=>?_) (fun c50=>?_)
    rotate_left
    refine Br.dec (fun c51=>?_) (fun c51=>?_);refine Br.dec (fun c52=>?_) (fun hc=>absurd (by omega) hc);refine Br.dec (fun hc=>absurd hc (by omega)) (fun c53=>?_)
    rotate_left
    rotate_left
    refine Br.ff ?_;refine Br.dec (fun c54=>?_) (fun c54=>?_);refine Br.dec (fun c55=>?_) (fun c55=>?_);refine Br.dec (fun c56=>?_) (fun c56=>?_)
    ·refine MEnds.call (aC _ _) (fun e1 h3 o3=>?_) fun e1 h3 o3=>?_
     ·have hat:eT i c=true:=(eA i c).1 (by unfold fS;omega)
      refine Ar.i64 (by omega) (by omega) ?_
      refine⟨rfl,?_⟩
      exact⟨⟨i+1,by omega,rfl,next hat,oh.ext' o3⟩,by simp;omega⟩
     ·exact by cases e1
    ·refine MEnds.call (aC _ _) (fun e1 h3 o3=>?_) fun e1 h3 o3=>?_
     ·have hat:eT i c=true:=(eA i c).1 (by have:=of_decide_eq_true e1;unfold fS;omega)
      refine Ar.i64 (by omega) (by omega) ?_
      refine⟨rfl,?_⟩
      exact⟨⟨i+1,by omega,rfl,next hat,oh.ext' o3⟩,by simp;omega⟩
     ·have hat:eT i c=false:=by
       rw[Bool.eq_false_iff]
       intro hh;have hh:=(eA i c).2 hh;unfold fS at hh
       have:=of_decide_eq_false e1
       omega
      exact⟨oL hc hat,rfl,oh.ext' o3⟩
    ·refine MEnds.call (aC _ _) (fun e1 h3 o3=>?_) fun e1 h3 o3=>?_
     ·have hat:eT i c=true:=(eA i c).1 (by have:=of_decide_eq_true e1;unfold fS;omega)
      refine Ar.i64 (by omega) (by omega) ?_
      refine⟨rfl,?_⟩
      exact⟨⟨i+1,by omega,rfl,next hat,oh.ext' o3⟩,by simp;omega⟩
     ·have hat:eT i c=false:=by
       rw[Bool.eq_false_iff]
       intro hh;have hh:=(eA i c).2 hh;unfold fS at hh
       have:=of_decide_eq_false e1
       omega
      exact⟨oL hc hat,rfl,oh.ext' o3⟩
    ·refine MEnds.call (aC _ _) (fun e1 h3 o3=>?_) fun e1 h3 o3=>?_
     ·exact by cases e1
     ·have hat:eT i c=false:=by
       rw[Bool.eq_false_iff]
       intro hh;have hh:=(eA i c).2 hh;unfold fS at hh
       omega
      exact⟨oL hc hat,rfl,oh.ext' o3⟩
    ·refine MEnds.call (aC _ _) (fun e1 h3 o3=>?_) fun e1 h3 o3=>?_
     ·have hat:eT i c=true:=(eA i c).1 (by unfold fS;omega)
      refine Ar.i64 (by omega) (by omega) ?_
      refine⟨rfl,?_⟩
      exact⟨⟨i+1,by omega,rfl,next hat,oh.ext' o3⟩,by simp;omega⟩
     ·exact by cases e1
    ·refine MEnds.call (aC _ _) (fun e1 h3 o3=>?_) fun e1 h3 o3=>?_
     ·have hat:eT i c=true:=(eA i c).1 (by have:=of_decide_eq_true e1;unfold fS;omega)
      refine Ar.i64 (by omega) (by omega) ?_
      refine⟨rfl,?_⟩
      exact⟨⟨i+1,by omega,rfl,next hat,oh.ext' o3⟩,by simp;omega⟩
     ·have hat:eT i c=false:=by
       rw[Bool.eq_false_iff]
       intro hh;have hh:=(eA i c).2 hh;unfold fS at hh
       have:=of_decide_eq_false e1
       omega
      exact⟨oL hc hat,rfl,oh.ext' o3⟩
    ·refine MEnds.call (aC _ _) (fun e1 h3 o3=>?_) fun e1 h3 o3=>?_
     ·exact by cases e1
     ·have hat:eT i c=false:=by
       rw[Bool.eq_false_iff]
       intro hh;have hh:=(eA i c).2 hh;unfold fS at hh
       omega
      exact⟨oL hc hat,rfl,oh.ext' o3⟩
    ·refine MEnds.call (aC _ _) (fun e1 h3 o3=>?_) fun e1 h3 o3=>?_
     ·have hat:eT i c=true:=(eA i c).1 (by unfold fS;omega)
      refine Ar.i64 (by omega) (by omega) ?_
      refine⟨rfl,?_⟩
      exact⟨⟨i+1,by omega,rfl,next hat,oh.ext' o3⟩,by simp;omega⟩
     ·exact by cases e1
    ·refine MEnds.call (aC _ _) (fun e1 h3 o3=>?_) fun e1 h3 o3=>?_
     ·have hat:eT i c=true:=(eA i c).1 (by have:=of_decide_eq_true e1;unfold fS;omega)
      refine Ar.i64 (by omega) (by omega) ?_
      refine⟨rfl,?_⟩
      exact⟨⟨i+1,by omega,rfl,next hat,oh.ext' o3⟩,by simp;omega⟩
     ·have hat:eT i c=false:=by
       rw[Bool.eq_false_iff]
       intro hh;have hh:=(eA i c).2 hh;unfold fS at hh
       have:=of_decide_eq_false e1
       omega
      exact⟨oL hc hat,rfl,oh.ext' o3⟩
    ·refine MEnds.call (aC _ _) (fun e1 h3 o3=>?_) fun e1 h3 o3=>?_
     ·exact by cases e1
     ·have hat:eT i c=false:=by
       rw[Bool.eq_false_iff]
       intro hh;have hh:=(eA i c).2 hh;unfold fS at hh
       omega
      exact⟨oL hc hat,rfl,oh.ext' o3⟩
   ·refine Br.dec (fun hc=>absurd hc (by omega)) (fun c60=>?_)
    refine RetVC.one rfl ?_
    exact⟨(hO s).2 ⟨h1,h24,fun j c hc=>hE j c (by have:=(List.getElem?_eq_some_iff.1 hc).1;omega) hc⟩,rfl,oh⟩
 ·have h24:dH s=false:=by
   cases hn:dH s with
   | false=>rfl
   | true =>
    have:=((hO s).1 hn).2.1
    have:=of_decide_eq_false e1
    omega
  exact⟨h24,rfl,o2⟩
def iQ (h:Heap):Prop:=∀ w:World,w.heap=h→Lib.TabIs Tryz.prog w "internal/strconv.uint64pow10" .u64 Lib.pow10Tab
theorem iQ.ext {h h':Heap}(t:iQ h)(e:Ext h h'):iQ h':=by
 intro w hw
 have:=t { w with heap:=h } rfl
 unfold Lib.TabIs World.var? at this ⊢;cases hg:Tryz.prog.globalNamed "internal/strconv.uint64pow10" with
 | none=>rw[hg]at this;simp at this
 | some g =>
  rw[hg]at this
  simp only[Option.bind_some]at this ⊢
  rw[hw]
  by_cases hb:g<h.size
  ·rw[e.old g hb];exact this
  ·have hn:h[g]?=none:=Array.getElem?_eq_none (by omega)
   rw[hn]at this;simp at this
theorem itoa_spec (n:Int)(h:Heap)(h0:-9223372036854775808≤n)(h1:n≤9223372036854775807)(ht:iQ h) :
  cK Tryz.prog 150 [.int .i64 n] h fun r h'=>r=.string ⟨⟨Lib.itoa n⟩⟩∧Own h [] h':=by
 refine⟨⟨_,Tryz.func150,rfl,by kernel_rfl⟩,fun w hw=>?_⟩
 refine(Tryz.strconv_Itoa n h0 h1 w (ht w hw)).mono ?_
 rintro e w' ⟨rfl,k,os,rfl⟩
 refine⟨⟨rfl,rfl,rfl,by simp[Sort.grow,World.drewN]⟩,rfl,Own.of_ext ⟨?_,fun b hb=>?_⟩⟩
 ·subst hw
  simp[Sort.grow,World.drewN]
 ·subst hw
  simp[Sort.grow,World.drewN,Array.getElem?_append,hb]
theorem bH (n:Int)(h:Heap)(h0:-9223372036854775808≤n)(h1:n≤9223372036854775807)(hT:iQ h):Spec Tryz.prog 125 [.int .i64 n] h (MEnds h (gZ n) (.string ⟨⟨Lib.itoa n⟩⟩)):=by
 refine Spec.enter Tryz.func125 rfl Tryz.ntmps125 (by kernel_rfl) ?_;have o0:=Own.refl h;by_cases hn:0≤n
 ·by_cases hg:n≤9999999999
  ·have hok:gZ n=true:=decide_eq_true ⟨hn,hg⟩
   refine Br.dec (fun c10=>?_) (fun hc=>absurd (by omega) hc);refine MEnds.call (aC _ _) (fun e1 h2 o2=>?_) fun e1 h2 o2=>?_
   ·skip
    refine CallVC.ret (itoa_spec n _ h0 h1 (hT.ext o2.ext)) ?_;rintro _ h3 ⟨rfl,o3⟩;have o4:=o2.ext' o3;refine RetVC.one rfl ?_
    exact⟨hok,rfl,o4⟩
   ·have:=of_decide_eq_false e1
    omega
  ·have hno:gZ n=false:=decide_eq_false (by omega)
   refine Br.dec (fun c40=>?_) (fun hc=>absurd (by omega) hc);refine MEnds.call (aC _ _) (fun e1 h2 o2=>?_) fun e1 h2 o2=>?_
   ·have:=of_decide_eq_true e1
    omega
   ·exact⟨hno,rfl,o2⟩
 ·have hno:gZ n=false:=decide_eq_false (by omega)
  refine Br.dec (fun hc=>absurd hc (by omega)) (fun c60=>?_);refine MEnds.call (aC _ _) (fun e1 h2 o2=>by cases e1) fun e1 h2 o2=>?_
  exact⟨hno,rfl,o2⟩
theorem dN (n:Int)(ws:List (List UInt8))(vs:Value)(h:Heap)(h0:-9223372036854775808≤n)(h1:n≤9223372036854775807)(hA:Arr h vs (strs ws))(hl:ws.length≤100)(hw:∀ s∈ws,s.length≤100):Spec Tryz.prog 32 [.int .i64 n,vs] h (MEnds h (decide (1≤n∧n≤ws.length)) (.string ⟨⟨32::ws.getD (n - 1).toNat []⟩⟩)):=by
 refine Spec.enter Tryz.func32 rfl Tryz.ntmps32 (by kernel_rfl) ?_;have o0:=Own.refl h;have hsl:(strs ws).length=ws.length:=by simp[strs]
 by_cases hn:1≤n
 ·refine Br.dec (fun c10=>?_) (fun hc=>absurd (by omega) hc)
  refine run (aB0 hA ‹_› aH ?_);refine MEnds.call (aC _ _) (fun e1 h2 o2=>?_) fun e1 h2 o2=>?_
  ·have e1:=of_decide_eq_true e1
   obtain⟨s,hs⟩:=getx (show(n - 1).toNat<ws.length by omega)
   have hss:(strs ws)[(n - 1).toNat]?=some (.string ⟨⟨s⟩⟩):=by
    show(ws.map _)[(n - 1).toNat]?=_
    rw[List.getElem?_map,hs]
    rfl
   have hsl2:=hw s (List.mem_of_getElem? hs);have hA2:=hA.ext o2.ext;have hd:ws.getD (n - 1).toNat []=s:=by rw[List.getD_eq_getElem?_getD,hs];rfl
   rw[hd]
   refine Ar.i64 (by omega) (by omega) ?_;refine run (idx aH aN hA2 rfl (by omega) (by omega) ?_);refine run (aBY hA2 aN rfl (by first|assumption|rfl) ?_);refine run (aBF rfl rfl (by first|omega|(simp;omega)) ?_);refine RetVC.one rfl ?_
   exact⟨decide_eq_true (by omega),rfl,o2⟩
  ·have e1:=of_decide_eq_false e1
   exact⟨decide_eq_false (by omega),rfl,o2⟩
 ·refine Br.dec (fun hc=>absurd hc (by omega)) (fun c60=>?_)
  refine MEnds.call (aC _ _) (fun e1 h2 o2=>by cases e1) fun e1 h2 o2=>?_
  exact⟨decide_eq_false (by omega),rfl,o2⟩
theorem put_spec (B:Base)(b:Nat)(p v:Value)(k:Int)(bs:List UInt8)(ls:List (List UInt8))(vs:Value)(h:Heap)(hp:cN b p)(hS:qZ B vs ls)
  (o:Own B [box b [p,v,.int .i64 k] 58,row v 5 1 bs.length (bytes bs)] h) (hl:bs.length≤100000000000000) (hs:∀ s∈ls,s.length≤1000) (hln:ls.length≤100) (hk:0≤k∧k≤100000000000000) :
  cK Tryz.prog 31 [.pointer (some ⟨b,0,none⟩),vs] h fun r h'=>r=.tuple #[]∧∃ p' v',cN b p'∧Own B [box b [p',v',.int .i64 (k+ls.length)] 58,row v' 5 1 (bs++ls.flatten).length (bytes (bs++ls.flatten))] h':=by
 refine Spec.enter Tryz.func31 rfl Tryz.ntmps31 (by kernel_rfl) ?_;have hA:=hS _ _ o;have hsl:(strs ls).length=ls.length:=by simp[strs]
 have hK:=hS;clear hS;refine run (aB0 hA ‹_› aH ?_);refine LoopVC.intro [5,8,9,10,11,12,13,14,15,16,17,18,19,20,21,22,23,24] [8] (fun vs' hh=>∃(i:Nat) (p' v':Value),i≤ls.length∧vs'=[.int .i64 i]∧cN b p'∧(ls.take i).flatten.length≤1000*i∧Own B [box b [p',v',.int .i64 (k+i)] 58,row v' 5 1 (bs++(ls.take i).flatten).length (bytes (bs++(ls.take i).flatten))] hh) (fun vs' _=>match vs' with|[.int _ i]=>ls.length - i.toNat|_=>0) ?_ ?_
 ·exact⟨0,p,v,by omega,rfl,hp,by simp,by simpa using o⟩
 ·rintro vs' junk hh ⟨i,p',v',hi,rfl,hp',hcl,oh⟩
  have hA:=hK _ _ oh;by_cases hlt:i<ls.length
  ·obtain⟨s,hs1⟩:=getx hlt
   have hss:(strs ls)[i]?=some (.string ⟨⟨s⟩⟩):=by simp[strs,hs1]
   have hs2:=hs s (List.mem_of_getElem? hs1);have ht:(ls.take (i+1)).flatten=(ls.take i).flatten++s:=by rw[List.take_add_one,hs1];simp
   have hbl:(bs++(ls.take i).flatten).length+s.length≤140000000000000:=by rw[List.length_append];omega
   refine Br.dec (fun c20=>?_) (fun hc=>absurd (by omega) hc);refine run (idx aH aN hA rfl (by omega) (by omega) ?_);refine run (aBY hA aN rfl (by first|assumption|rfl) ?_);refine run (nC rfl ?_);refine run (fA xI rfl rfl rfl ?_);refine CallVC.ret (aA1 b p' v' (k+i) (bs++(ls.take i).flatten) s _ B hp' oh hbl) ?_;rintro _ h2 ⟨rfl,v2,o2⟩;clear oh hA;have o3:Own B [box b [.pointer (some ⟨b,0,none⟩),v2,.int .i64 (k+i)] 58,row v2 5 1 (bs++(ls.take i).flatten++s).length (bytes (bs++(ls.take i).flatten++s))] h2:=o2;clear o2;refine run (nC rfl ?_);refine run (fA xI rfl rfl rfl ?_);refine run (aBx o3 0 rfl aW rfl rfl ?_);refine Ar.i64 (by omega) (by omega) ?_;refine run (nC rfl ?_);refine run (fA xI rfl rfl rfl ?_);(refine RunVC.store o3 0 rfl aW rfl (by simp) (aI ⟨rfl,rfl⟩ ?_);intro m35 o35);refine Ar.i64 (by omega) (by omega) ?_
   refine⟨rfl,?_⟩
   refine⟨⟨i+1,_,v2,by omega,rfl,.inr rfl,by rw[ht,List.length_append];omega,?_⟩,by simp;omega⟩
   rw[ht,← List.append_assoc,show k+((i+1:Nat):Int)=k+i+1 by omega]
   exact o35
  ·have hd:ls.take i=ls:=List.take_of_length_le (by omega)
   obtain rfl:i=ls.length:=by omega
   refine Br.dec (fun hc=>absurd hc (by omega)) (fun c60=>?_);refine RetVC.zero rfl ?_
   rw[hd]at oh
   exact⟨rfl,p',v',hp',oh⟩
def WEnds (B:Base)(b:Nat)(bs:List UInt8)(k:Int)(c:Nat)(o:Option (List Pc)):Ending→Heap→Prop :=
 Ends (fun r h'=>∃ ps p' v',o=some ps∧r=.tuple #[]∧cN b p'∧(bE ps).length≤c∧ps.length≤c∧Own B [box b [p',v',.int .i64 (k+ps.length)] 58,row v' 5 1 (bs++bE ps).length (bytes (bs++bE ps))] h')
  fun q h'=>o=none∧q=uZ∧Own B [] h'
theorem keep1 {B:Base}{c:Nat}{t:TypeId}{ss:List (List UInt8)}:qZ ⟨B.h,[box c (strs ss) t]++B.T⟩ (.slice (some ⟨c,0,none⟩) ss.length ss.length) ss:=fun L h o=>by
 have hs:(box c (strs ss) t).sat h:=OwnR.sat o _ (by simp)
 exact(uY (sz:=1) (by simp[strs]) (Nat.le_refl _) h hs).to1
theorem wR (B:Base)(b c:Nat)(p v:Value)(k:Int)(bs:List UInt8)(ls:List (List UInt8))(h:Heap)(hp:cN b p)(o:Own B [box b [p,v,.int .i64 k] 58,row v 5 1 bs.length (bytes bs),box c (strs ls) 9] h)
  (hl:bs.length≤100000000000000) (hs:∀ s∈ls,s.length≤1000) (hln:ls.length≤100) (hk:0≤k∧k≤100000000000000) :
  cK Tryz.prog 31 [.pointer (some ⟨b,0,none⟩),.slice (some ⟨c,0,none⟩) ls.length ls.length] h fun r h'=>r=.tuple #[]∧∃ p' v',cN b p'∧Own B [box b [p',v',.int .i64 (k+ls.length)] 58,row v' 5 1 (bs++ls.flatten).length (bytes (bs++ls.flatten))] h':=by
 have o2:=o.lend [0,1] [2] rfl;have sp:=put_spec _ b p v k bs ls _ h hp keep1 o2 hl hs hln hk;refine sp.mono ?_;rintro r h' ⟨e,p',v',h1,h2⟩
 exact⟨e,p',v',h1,h2.back.sel [0,1] rfl⟩
theorem gY:∀(a b:List (Option (List Pc))),aF (a++b)=match aF a,aF b with
  | some p,some q=>some (p++q)
  | _,_=>none
 | [],b=>by show aF b=_;cases h:aF b<;>simp[aF]
 | none::a,b=>rfl
 | some p::a,b=>by
  show(aF (a++b)).map (p++·)=_
  rw[gY a b]
  show _=match (aF a).map (p++·),aF b with
   | some p,some q=>some (p++q)
   | _,_=>none
  cases aF a<;>cases aF b<;>simp
theorem listQ_snoc {α:Type}{one:List UInt8→α→Option (List Pc)}{b:List UInt8}{l:List α}{x:α}{p:List Pc}(hn:l≠[])(hp:iV one b l=some p):iV one b (l++[x])=(one [32] x).map fun q=>p++aP [] [44]::q:=by
 cases l with
 | nil=>exact absurd rfl hn
 | cons y r =>
  have e:iV one b (y::r++[x])=aF ((one b y::r.map fun y=>(one [32] y).map (aP [] [44]::·))++[(one [32] x).map (aP [] [44]::·)]):=by
   show aF (_::(r++[x]).map _)=_
   rw[List.map_append]
   rfl
  rw[e,gY]
  rw[show aF (one b y::r.map fun y=>(one [32] y).map (aP [] [44]::·))=some p from hp]
  cases one [32] x<;>simp[aF]
theorem yB {α:Type}{one:List UInt8→α→Option (List Pc)}{b:List UInt8}{l m:List α}(hp:iV one b l=none):iV one b (l++m)=none:=by
 cases l with
 | nil=>cases hp
 | cons y r =>
  have e:iV one b (y::r++m)=aF ((one b y::r.map fun y=>(one [32] y).map (aP [] [44]::·))++m.map fun y=>(one [32] y).map (aP [] [44]::·)):=by
   show aF (_::(r++m).map _)=_
   rw[List.map_append]
   rfl
  rw[e,gY]
  rw[show aF (one b y::r.map fun y=>(one [32] y).map (aP [] [44]::·))=none from hp]
theorem lJ (B:Base)(b:Nat)(p v:Value)(k:Int)(bs bf:List UInt8)(ls:List (List UInt8))(vs:Value)(h:Heap)(hp:cN b p)(hS:qZ B vs ls)
  (o:Own B [box b [p,v,.int .i64 k] 58,row v 5 1 bs.length (bytes bs)] h) (hl:bs.length≤50000000000000) (hs:∀ s∈ls,s.length≤1000000000000000) (hln:ls.length≤100000000000) (hk:0≤k∧k≤50000000000000) (hbf:bf=[]∨bf=[32]) :
  Spec Tryz.prog 149 [.pointer (some ⟨b,0,none⟩),.string ⟨⟨bf⟩⟩,vs] h (WEnds B b bs k (100*ls.length) (iV bG bf ls)):=by
 refine Spec.enter Tryz.func149 rfl Tryz.ntmps149 (by kernel_rfl) ?_;have hA:=hS _ _ o;have hsl:(strs ls).length=ls.length:=by simp[strs]
 have hK:=hS;clear hS;refine run (aB0 hA ‹_› aH ?_);refine LoopVC.intro [1,6,7,10,11,12,13,14,15,16,17,18,19,20,21,22,23,24,25,26,27,28,29,30,31] [1,10] (fun vs' hh=>∃(i:Nat) (p' v':Value) (be:List UInt8) (ps:List Pc),i≤ls.length∧vs'=[.string ⟨⟨be⟩⟩,.int .i64 i]∧(i=0→be=bf)∧be.length≤1∧cN b p'∧iV bG bf (ls.take i)=some ps∧(bE ps).length≤100*i∧ps.length≤2*i∧Own B [box b [p',v',.int .i64 (k+ps.length)] 58,row v' 5 1 (bs++bE ps).length (bytes (bs++bE ps))] hh) (fun vs' _=>match vs' with|[_,.int _ i]=>ls.length - i.toNat|_=>0) ?_ ?_
 ·exact⟨0,p,v,bf,[],by omega,rfl,fun _=>rfl,by rcases hbf with rfl|rfl<;>simp,hp,rfl,by simp[bE],by simp,by simpa[bE] using o⟩
 ·rintro vs' junk hh ⟨i,p',v',be,ps,hi,rfl,hbe,hbl,hp',hQ,hc1,hc2,oh⟩
  have hA:=hK _ _ oh;by_cases hlt:i<ls.length
  ·obtain⟨s,hs1⟩:=getx hlt
   have hss:(strs ls)[i]?=some (.string ⟨⟨s⟩⟩):=by simp[strs,hs1]
   have hs2:=hs s (List.mem_of_getElem? hs1);have ht:ls.take (i+1)=ls.take i++[s]:=by rw[List.take_add_one,hs1];simp
   by_cases h0:i=0
   ·have e0:=hbe h0
    subst h0;subst be;have hps:ps=[]:=by cases hQ;rfl
    subst hps;have hnx:∀ o,bG bf s=o→iV bG bf (ls.take (0+1))=o:=fun o e=>by
     rw[ht,← e]
     show aF [bG bf s]=_
     cases bG bf s<;>simp[aF]
    refine Br.dec (fun c20=>?_) (fun hc=>absurd (by omega) hc);refine run (idx aH aN hA rfl (by omega) (by omega) ?_);refine run (aBY hA aN rfl (by first|assumption|rfl) ?_);refine Br.ff ?_;refine DrawVC.intro [0,1,2,3,4,6] [] [5,7,8] [0,1,2,3,4,5,6,7,8] mixed (by kernel_rfl) rfl (fun _ _ _ _ h=>h) ?_;refine nC rfl ?_;refine fA bM rfl rfl rfl ?_;refine MEnds.call (bF s _ (by omega)) (fun e1 h2 o2=>?_) fun e1 h2 o2=>?_
    ·have o3:=oh.ext' o2
     clear o2;have h24:=((hO s).1 e1).2.1;have hq:bG bf s=some [aG bf s]:=by unfold bG;rw[if_pos e1]
     refine aBF rfl rfl (by first|omega|(simp;omega)) ?_;(refine RunVC.lit o3 aH aN rfl rfl (by decide) (aI rfl ?_);intro b31 m31 o31);refine CallVC.ret (wR B b b31 p' v' (k+([]:List Pc).length) (bs++bE []) [bf++s] _ hp' o31 (by rw[List.length_append];omega) (by simp;omega) (by simp) (by simp;omega)) ?_;rintro _ h4 ⟨rfl,p4,v4,hp4,o4⟩;clear o31 o3 oh hA;refine Ar.i64 (by omega) (by omega) ?_
     refine⟨rfl,?_⟩
     have e4:bE [aG bf s]=bf++s:=by simp[bE,fR,wr,aG]
     refine⟨⟨0+1,p4,v4,bf,[aG bf s],by omega,rfl,(fun e=>by omega),hbl,hp4,hnx _ hq,by rw[e4,List.length_append];omega,by simp,?_⟩,by simp;omega⟩
     rw[e4]
     simpa[bE] using o4
    ·have hq:bG bf s=none:=by unfold bG;rw[if_neg (by rw[e1];decide)]
     have:=yB (m:=ls.drop (0+1)) (hnx _ hq)
     rw[List.take_append_drop]at this
     exact⟨this,rfl,(oh.ext' o2).sel [] rfl⟩
   ·have hnx:∀ q,bG [32] s=q→iV bG bf (ls.take (i+1))=q.map fun q=>ps++aP [] [44]::q:=fun q e=>by
     rw[ht,listQ_snoc (by intro e;have:=congrArg List.length e;rw[List.length_take,List.length_nil]at this;omega) hQ,e]
    refine Br.dec (fun c40=>?_) (fun hc=>absurd (by omega) hc);refine run (idx aH aN hA rfl (by omega) (by omega) ?_);refine run (aBY hA aN rfl (by first|assumption|rfl) ?_);refine Br.dec (fun c43=>?_) (fun hc=>absurd (by omega) hc);refine run (nC rfl ?_);refine run (fA bM rfl rfl rfl ?_);(refine RunVC.lit oh aH aN rfl rfl (by decide) (aI rfl ?_);intro b46 m46 o46);refine CallVC.ret (wR B b b46 p' v' (k+ps.length) (bs++bE ps) [[44]] _ hp' o46 (by rw[List.length_append];omega) (by simp) (by simp) (by omega)) ?_;rintro _ h4 ⟨rfl,p4,v4,hp4,o4⟩;clear o46 oh hA;have hA:=hK _ _ o4;refine DrawVC.intro [0,1,2,3,4,6] [] [5,7,8] [0,1,2,3,4,5,6,7,8] mixed (by kernel_rfl) rfl (fun _ _ _ _ h=>h) ?_;refine nC rfl ?_;refine fA bM rfl rfl rfl ?_;refine MEnds.call (bF s _ (by omega)) (fun e1 h2 o2=>?_) fun e1 h2 o2=>?_
    ·have o5:=o4.ext' o2
     clear o2 o4;have h24:=((hO s).1 e1).2.1;have hq:bG [32] s=some [aG [32] s]:=by unfold bG;rw[if_pos e1]
     refine aBF rfl rfl (by first|omega|(simp;omega)) ?_;(refine RunVC.lit o5 aH aN rfl rfl (by decide) (aI rfl ?_);intro b71 m71 o71);refine CallVC.ret (wR B b b71 p4 v4 (k+ps.length+([[44]]:List (List UInt8)).length) (bs++bE ps++([[44]]:List (List UInt8)).flatten) [[32]++s] _ hp4 o71 (by simp only[List.length_append];simp;omega) (by simp;omega) (by simp) (by simp;omega)) ?_;rintro _ h6 ⟨rfl,p6,v6,hp6,o6⟩;clear o71 o5 hA;refine Ar.i64 (by omega) (by omega) ?_
     refine⟨rfl,?_⟩
     have e4:bE (ps++aP [] [44]::[aG [32] s])=bE ps++[44]++([32]++s):=by simp[bE,fR,wr,aG,aP]
     have e5:((ps++aP [] [44]::[aG [32] s]).length:Int)=ps.length+1+1:=by simp;omega
     refine⟨⟨i+1,p6,v6,[32],ps++aP [] [44]::[aG [32] s],by omega,rfl,(fun e=>by omega),by simp,hp6,hnx _ hq,by rw[e4];simp;omega,by simp;omega,?_⟩,by simp;omega⟩
     rw[e4,e5]
     simpa[Int.add_assoc] using o6
    ·have hq:bG [32] s=none:=by unfold bG;rw[if_neg (by rw[e1];decide)]
     have:=yB (m:=ls.drop (i+1)) (hnx _ hq)
     rw[List.take_append_drop]at this
     exact⟨this,rfl,(o4.ext' o2).sel [] rfl⟩
  ·have hd:ls.take i=ls:=List.take_of_length_le (by omega)
   obtain rfl:i=ls.length:=by omega
   rw[hd]at hQ
   refine Br.dec (fun hc=>absurd hc (by omega)) (fun c60=>?_);refine RetVC.zero rfl ?_
   exact⟨ps,p',v',hQ,rfl,hp',hc1,by omega,oh⟩
theorem WEnds.call {g:FuncId}{args s:List Value}{B:Base}{b:Nat}{bs:List UInt8}{k:Int}{c:Nat}{o:Option (List Pc)}{h:Heap}{K:KK}{Q:QQ}(sp:Spec Tryz.prog g args h (WEnds B b bs k c o))
  (hret:∀ ps p' v' h',o=some ps→cN b p'→(bE ps).length≤c→ps.length≤c→Own B [box b [p',v',.int .i64 (k+ps.length)] 58,row v' 5 1 (bs++bE ps).length (bytes (bs++bE ps))] h'→K (.tuple #[]) false h')
  (hpan:∀ h',o=none→Own B [] h'→Q (.panic uZ) s h'):CallVC Tryz.prog g args s h K Q :=
 CallVC.ends sp (fun _ _ ⟨ps,p',v',h1,h2,h3,h4,h5,h6⟩=>by subst h2;exact hret ps p' v' _ h1 h3 h4 h5 h6) (fun _ _ ⟨h1,h2,h3⟩=>by subst h2;exact hpan _ h1 h3)
theorem qB (B:Base)(b:Nat)(p v:Value)(k:Int)(bs bf:List UInt8)(ls:List (List UInt8))(vs:Value)(h:Heap)(hp:cN b p)(hS:qZ B vs ls)
  (o:Own B [box b [p,v,.int .i64 k] 58,row v 5 1 bs.length (bytes bs)] h) (hl:bs.length≤50000000000000) (hs:∀ s∈ls,s.length≤1000000000000000) (hln:ls.length≤100000000000) (hk:0≤k∧k≤50000000000000) (hbf:bf=[]∨bf=[32]) :
  Spec Tryz.prog 124 [.pointer (some ⟨b,0,none⟩),.string ⟨⟨bf⟩⟩,vs] h (WEnds B b bs k (100*ls.length) (dW bG bf ls)):=by
 refine Spec.enter Tryz.func124 rfl Tryz.ntmps124 (by kernel_rfl) ?_;have hA:=hS _ _ o;have hsl:(strs ls).length=ls.length:=by simp[strs]
 cases ls with
 | nil =>
  refine run (aB0 hA ‹_› aH ?_);refine MEnds.call (aC _ _) (fun e1 h2 o2=>by cases e1) fun e1 h2 o2=>?_
  exact⟨rfl,rfl,(o.ext' o2).sel [] rfl⟩
 | cons x xs =>
  refine run (aB0 hA ‹_› aH ?_);refine MEnds.call (aC _ _) (fun e1 h2 o2=>?_) fun e1 h2 o2=>?_
  ·have o3:=o.ext' o2
   refine WEnds.call (lJ B b p v k bs bf (x::xs) vs _ hp hS o3 hl hs hln hk hbf) (fun ps p' v' h4 h5 h6 h7 h8 o4=>?_) fun h4 h5 o4=>?_
   ·refine RetVC.zero rfl ?_
    exact⟨ps,p',v',h5,rfl,h6,h7,h8,o4⟩
   ·exact⟨h5,rfl,o4⟩
  ·have:=of_decide_eq_false e1
   exact absurd this (by simp)
theorem lI (B:Base)(b:Nat)(p v:Value)(k:Int)(bs t a:List UInt8)(h:Heap)(hp:cN b p)
  (o:Own B [box b [p,v,.int .i64 k] 58,row v 5 1 bs.length (bytes bs)] h) (hl:bs.length≤50000000000000) (ht:t.length≤1000000000000000) (ha:a.length≤1000000000000000) (hk:0≤k∧k≤50000000000000) :
  Spec Tryz.prog 126 [.pointer (some ⟨b,0,none⟩),.string ⟨⟨t⟩⟩,.string ⟨⟨a⟩⟩] h (WEnds B b bs k 100 (eG t a)):=by
 refine Spec.enter Tryz.func126 rfl Tryz.ntmps126 (by kernel_rfl) ?_;refine DrawVC.intro [0,1,2,3,5,6] [] [4,7,8,9] [0,1,2,3,6,4,5,7,8,9] mixed (by kernel_rfl) rfl (fun _ _ _ _ h=>h) ?_;refine nC rfl ?_;refine fA bM rfl rfl rfl ?_;refine MEnds.call (bF t _ ht) (fun e1 h2 o2=>?_) fun e1 h2 o2=>?_
 ·have o3:=o.ext' o2
  have h24:=((hO t).1 e1).2.1;have hq1:bG [32] t=some [aG [32] t]:=by unfold bG;rw[if_pos e1]
  clear o2;refine aBF rfl rfl (by first|omega|(simp;omega)) ?_;refine MEnds.call (bF a _ ha) (fun e2 h4 o4=>?_) fun e2 h4 o4=>?_
  ·have o5:=o3.ext' o4
   clear o4 o3;have h25:=((hO a).1 e2).2.1;have hq2:bG [] a=some [aG [] a]:=by unfold bG;rw[if_pos e2]
   have hq:eG t a=some [aG [32] t,aP [] [46],aG [] a]:=by unfold eG;rw[hq1,hq2];rfl
   have e4:bE [aG [32] t,aP [] [46],aG [] a]=([[32]++t,[46],a]:List (List UInt8)).flatten:=by simp[bE,fR,wr,aG,aP]
   (refine RunVC.lit o5 aH aN rfl rfl (by decide) (aI rfl ?_);intro b50 m50 o50);refine CallVC.ret (wR B b b50 p v k bs [[32]++t,[46],a] _ hp o50 (by omega) (by simp;omega) (by simp) (by omega)) ?_;rintro _ h6 ⟨rfl,p6,v6,hp6,o6⟩;clear o50 o5;refine RetVC.zero rfl ?_
   rw[← e4]at o6
   exact⟨_,p6,v6,hq,rfl,hp6,by rw[e4];simp;omega,by simp,o6⟩
  ·have hq:bG [] a=none:=by unfold bG;rw[if_neg (by rw[e2];decide)]
   have:eG t a=none:=by unfold eG;rw[hq1,hq];rfl
   exact⟨this,rfl,(o3.ext' o4).sel [] rfl⟩
 ·have hq:bG [32] t=none:=by unfold bG;rw[if_neg (by rw[e1];decide)]
  have:eG t a=none:=by unfold eG;rw[hq];rfl
  exact⟨this,rfl,(o.ext' o2).sel [] rfl⟩
theorem aAr (s:List UInt8)(t:Tok)(r:List Tok):bK [s] (t::r)=vC t s:=by simp[bK]
section
variable {α β : Type} {m : PM α} {f : α → PM β} {ts us : List Tok} {a : α} {b : β} {k l : List (List UInt8)}
end
theorem aJ {x:Option (List Pc)}{r:List (Option (List Pc))}{ps:List Pc}(h:aF (x::r)=some ps):∃ a b,x=some a∧aF r=some b∧ps=a++b:=by
 cases x with
 | none=>cases h
 | some a =>
  obtain⟨b,hb,rfl⟩:=Option.map_eq_some_iff.1 (show(aF r).map (a++·)=some ps from h)
  exact⟨a,b,rfl,hb,rfl⟩
theorem seqQ_nil {ps:List Pc}(h:aF []=some ps):ps=[]:=by cases h;rfl
theorem rZ {b s:List UInt8}{ps:List Pc}(h:bG b s=some ps):dH s=true∧ps=[aG b s]:=by
 unfold bG at h;split at h
 ·cases h;exact⟨by assumption,rfl⟩
 ·cases h
theorem uI {b:List UInt8}{n:Int}{ps:List Pc}(h:iJ b n=some ps):gZ n=true∧ps=[bQ b n]:=by
 unfold iJ at h;split at h
 ·cases h;exact⟨by assumption,rfl⟩
 ·cases h
theorem wordQ_some {n:Int}{ws:List (List UInt8)}{ps:List Pc}(h:fX n ws=some ps):∃ j:Nat,n=1+j∧∃ s,ws[j]?=some s∧ps=[aG [32] s]:=by
 unfold fX at h;split at h
 ·rename_i hn
  cases h
  refine⟨(n - 1).toNat,by omega,ws.getD (n - 1).toNat [],?_,rfl⟩
  rw[List.getD_eq_getElem?_getD,List.getElem?_eq_getElem (by omega)]
  rfl
 ·cases h
theorem opQ_some {n:Int}{ps:List Pc}(h:opQ n=some ps):∃ j:Nat,n=1+j∧∃ s,([[61],[33,61],[60],[60,61]]:List (List UInt8))[j]?=some s∧ps=[aP [32] s]:=by
 unfold opQ at h;split at h
 ·rename_i hn
  cases h
  refine⟨(n - 1).toNat,by omega,_,?_,rfl⟩
  rw[List.getD_eq_getElem?_getD,List.getElem?_eq_getElem (by simp;omega)]
  rfl
 ·cases h
theorem name_first {s:List UInt8}(h:dH s=true):∃ c r,s=c::r∧dO c=true:=by
 cases s with
 | nil=>cases h
 | cons c r =>
  simp only[dH,Bool.and_eq_true]at h
  exact⟨c,r,rfl,h.1.2⟩
def kX (t:Tok):Prop:=fU (wr t)=.tok t.kind t.text t.num (wr t).length
theorem spanA {p:UInt8→Bool}:∀(l:List UInt8),(∀ c∈l,p c=true)→bO p l=l.length
 | [],_=>rfl
 | c::l,h=>by
  have ih:=spanA l (fun d hd=>h d (by simp[hd]));unfold bO at ih ⊢
  rw[List.takeWhile_cons,h c (by simp)]
  simpa using ih
theorem iL {b s:List UInt8}(h:dH s=true):kX (aG b s).t:=by
 cases s with
 | nil=>cases h
 | cons c r =>
  simp only[dH,Bool.and_eq_true,List.all_eq_true]at h
  obtain⟨⟨h1,h2⟩,h3⟩:=h
  have h1:=of_decide_eq_true h1;have hw:wr (aG b (c::r)).t=c::r:=rfl;unfold kX
  rw[hw,jS h2]
  have hs:bO bZ (c::r)=(c::r).length:=spanA _ fun d hd=>by
   rcases List.mem_cons.1 hd with rfl|hd
   ·simp[bZ,h2]
   ·exact h3 d hd
  rw[hs,if_neg (by omega),List.take_length]
  rfl
theorem xY:∀(k u:Nat),u<10 ^ (k+1)→Lib.nDigits u≤k+1
 | 0,u,h=>by
  rw[Lib.nDigits_small (by simpa using h)]
  omega
 | k+1,u,h=>by
  by_cases hu:u<10
  ·rw[Lib.nDigits_small hu]
   omega
  ·rw[Lib.nDigits_big hu]
   have:=xY k (u / 10) (by rw[Nat.pow_succ]at h;omega)
   omega
theorem mJ {b:List UInt8}{n:Int}(h:gZ n=true):kX (bQ b n).t:=by
 obtain⟨h0,h1⟩:=of_decide_eq_true h
 obtain⟨k,rfl⟩:=Int.eq_ofNat_of_zero_le h0
 have hk:k≤9999999999:=by omega
 have e:Lib.itoa (k:Int)=Lib.decDigits k:=by
  unfold Lib.itoa
  rw[if_neg (by omega)]
  simp
 have hw:wr (bQ b (k:Int)).t=Lib.decDigits k:=e;unfold kX
 rw[hw]
 show _=Rd.tok 2 (Lib.itoa (k:Int)) (k:Int) _
 rw[e]
 have hd:∀ c∈Lib.decDigits k,bX c=true:=fun c hc=>decide_eq_true (dec_digits k c hc);have hlen:(Lib.decDigits k).length≤10:=by
  rw[Lib.decDigits_length]
  exact xY 9 k (by omega)
 have hs:=spanA _ hd;have hs2:=spanA _ (fun c hc=>wC (hd c hc));have hu:=undec_dec k;cases hl:Lib.decDigits k with
 | nil=>exact absurd hl (dec_ne_nil k)
 | cons c r =>
  rw[hl]at hd hs hs2 hu hlen
  have hc:=hd c (by simp);have hlet:dO c=false:=by
   cases hh:dO c with
   | false=>rfl
   | true=>have:=(letter_not hh).1;rw[hc]at this;cases this
  rw[kQ hlet hc,hs,hs2,if_neg (by omega),List.take_length,hu]
theorem good_txt {b s:List UInt8}(h:s.length≤200):kX (txtT b s).t:=by
 have hw:wr (txtT b s).t=34::(eB s++34::[]):=rfl;unfold kX
 rw[hw,readR_escS s [] h]
 simp
 exact⟨rfl,rfl,rfl⟩
def openT (t:Tok):Bool:=decide (t.kind=4)&&(decide (t.text=[40])||decide (t.text=[46])||decide (t.text=[47])||decide (t.text=[64])||decide (t.text=[45]))
def pQ:List UInt8→Bool
 | []=>true
 | c::_=>!bZ c&&decide (c≠61)
def okB (b:List UInt8):Bool:=decide (b=[]∨b=[32]∨b=[10]∨b=[10,32,32])
def Flow:Bool→List Pc→Prop
 | _,[]=>True
 | o,p::r=>kX p.t∧okB p.b=true∧(o=true∨pQ (fR p)=true)∧Flow (openT p.t) r
theorem Flow.mono {o:Bool}{l:List Pc}(h:Flow false l):Flow o l:=by
 cases l with
 | nil=>trivial
 | cons p r=>exact⟨h.1,h.2.1,h.2.2.1.elim (fun e=>by cases e) .inr,h.2.2.2⟩
theorem Flow.app {b:List Pc}(hb:Flow false b):∀ {o:Bool}{a:List Pc},Flow o a→Flow o (a++b)
 | _,[],_=>hb.mono
 | _,p::r,h=>⟨h.1,h.2.1,h.2.2.1,Flow.app hb h.2.2.2⟩
theorem bV {n:Int}(h:gZ n=true):(Lib.itoa n).length≤10:=by
 obtain⟨h0,h1⟩:=of_decide_eq_true h
 obtain⟨k,rfl⟩:=Int.eq_ofNat_of_zero_le h0
 have e:Lib.itoa (k:Int)=Lib.decDigits k:=by
  unfold Lib.itoa
  rw[if_neg (by omega)]
  simp
 rw[e,Lib.decDigits_length]
 exact xY 9 k (by omega)
section
variable {g : FuncId} {args s : List Value} {B : Base} {L : List Item} {b i : Nat} {p v : Value} {k : Int} {bs : List UInt8} {h : Heap} {K : KK} {Q : QQ}
theorem aE {c:Nat}(ls:List (List UInt8))(m M:Nat)(js:List Nat)(o:Own B L h)(e:pick L [0,1]=[box b [p,v,.int .i64 k] 58,row v 5 1 bs.length (bytes bs)])
  (ei:pick L [i]=[box c (strs ls) 9]) (hd:dst ([0,1,i]++js)=true) (hp:cN b p) (hm:ls.length=m) (hl:bs.length≤100000000000000) (hk:0≤k∧k≤100000000000000) (hs:∀ s∈ls,s.length≤M) (hM:M≤1000) (hm2:m≤100)
  (hret:∀ p' v' bs' k' h',cN b p'→bs'=bs++ls.flatten→k'=k+m→bs'.length≤bs.length+M*m→Own B (box b [p',v',.int .i64 k'] 58::row v' 5 1 bs'.length (bytes bs')::pick L js) h'→K (.tuple #[]) false h') :
  CallVC Tryz.prog 31 [.pointer (some ⟨b,0,none⟩),.slice (some ⟨c,0,none⟩) m m] s h K Q:=by
 subst hm;have o1:=o.lend [0,1] (i::js) hd
 rw[e]at o1
 have ei2:pick L (i::js)=box c (strs ls) 9::pick L js:=by
  have:=kS L [i] js
  rw[ei]at this
  exact this
 rw[ei2]at o1
 have hK:qZ ⟨B.h,(box c (strs ls) 9::pick L js)++B.T⟩ (.slice (some ⟨c,0,none⟩) ls.length ls.length) ls:=fun L h o=>by
  have hs:(box c (strs ls) 9).sat h:=OwnR.sat o _ (by simp)
  exact(uY (sz:=1) (by simp[strs]) (Nat.le_refl _) h hs).to1
 have hfl:∀ l:List (List UInt8),(∀ s∈l,s.length≤M)→l.flatten.length≤M*l.length:=by
  intro l
  induction l with
  | nil=>intro _;simp
  | cons x l ih =>
   intro h;have h1:=h x (by simp);have h2:=ih fun s hs=>h s (by simp[hs])
   simp only[List.flatten_cons,List.length_append,List.length_cons,Nat.mul_add,Nat.mul_one]
   omega
 have hfl:=hfl ls hs;refine CallVC.ret (put_spec _ b p v k bs ls _ h hp hK o1 hl (fun s hs'=>Nat.le_trans (hs s hs') hM) hm2 hk) ?_;rintro _ h' ⟨rfl,p',v',hp',o2⟩;exact hret p' v' (bs++ls.flatten) _ h' hp' rfl rfl (by rw[List.length_append];omega) (o2.back.sel (0::1::List.range' 3 (pick L js).length) (by
  have:∀ n k,2≤k→dst (0::1::List.range' k n)=true:=fun n k hk=>kJ (n:=k) [0,1] rfl (by intro j hj;simp at hj;omega)
  exact this _ _ (by omega)) |> fun o=>by
   have e:pick ([box b [p',v',.int .i64 (k+ls.length)] 58,row v' 5 1 (bs++ls.flatten).length (bytes (bs++ls.flatten))]++box c (strs ls) 9::pick L js) (0::1::List.range' 3 (pick L js).length) =
     box b [p',v',.int .i64 (k+ls.length)] 58::row v' 5 1 (bs++ls.flatten).length (bytes (bs++ls.flatten))::pick L js:=by
    have:=qC [box b [p',v',.int .i64 (k+ls.length)] 58,row v' 5 1 (bs++ls.flatten).length (bytes (bs++ls.flatten)),box c (strs ls) 9] (pick L js) (pick L js).length (Nat.le_refl _)
    simp only[List.length_cons,List.length_nil,Nat.sub_self,Nat.add_zero,List.drop_zero]at this
    simp only[pick,lcA,lnA,lgS,lgZ]
    exact congrArg (fun z=>_::_::z) this
   rwa [e]at o)
theorem WEnds.callJ {c:Nat}{opt:Option (List Pc)}(js:List Nat)(o:Own B L h)(e:pick L [0,1]=[box b [p,v,.int .i64 k] 58,row v 5 1 bs.length (bytes bs)])(hd:dst ([0,1]++js)=true)
  (sp:∀ J,Own ⟨B.h,J++B.T⟩ [box b [p,v,.int .i64 k] 58,row v 5 1 bs.length (bytes bs)] h→Spec Tryz.prog g args h (WEnds ⟨B.h,J++B.T⟩ b bs k c opt))
  (hret:∀ ps p' v' bs' k' h',opt=some ps→cN b p'→bs'=bs++bE ps→k'=k+ps.length→bs'.length≤bs.length+c→k≤k'→k'≤k+c→Own B (box b [p',v',.int .i64 k'] 58::row v' 5 1 bs'.length (bytes bs')::pick L js) h'→K (.tuple #[]) false h')
  (hpan:∀ h',opt=none→Own B [] h'→Q (.panic uZ) s h'):CallVC Tryz.prog g args s h K Q:=by
 have o1:=o.lend [0,1] js hd
 rw[e]at o1
 exact WEnds.call (sp _ o1) (fun ps p' v' h' h1 h2 h3 h4 o2=>hret ps p' v' (bs++bE ps) _ h' h1 h2 rfl rfl (by rw[List.length_append];omega) (by omega) (by omega) o2.back) (fun h' h1 o2=>hpan h' h1 (o2.back.sel [] rfl))
theorem MEnds.aBC {ok:Bool}{r:Value}(o:Own B L h)(sp:Spec Tryz.prog g args h (MEnds h ok r))(hret:ok=true→∀ h',Own h [] h'→Own B L h'→K r false h')(hpan:ok=false→∀ h',Own B [] h'→Q (.panic uZ) s h'):CallVC Tryz.prog g args s h K Q :=
 MEnds.call sp (fun e h' o'=>hret e h' o' (o.ext' o')) (fun e h' o'=>hpan e h' ((o.ext' o').sel [] rfl))
theorem WEnds.done {c:Nat}{opt:Option (List Pc)}{ps:List Pc}{bs':List UInt8}{k':Int}(hq:opt=some ps)(o:Own B [box b [p,v,.int .i64 k'] 58,row v 5 1 bs'.length (bytes bs')] h)(hp:cN b p)(hb:bs'=bs++bE ps)(hk:k'=k+ps.length)
  (hc:bs'.length≤bs.length+c) (hc2:k'≤k+c):WEnds B b bs k c opt (.returned (.tuple #[])) h:=by
 subst hb;subst hk
 rw[List.length_append]at hc
 exact⟨ps,p,v,hq,rfl,hp,by omega,by omega,o⟩
end
theorem aA {b s:List UInt8}(h:dH s=true):bG b s=some [aG b s]:=by unfold bG;rw[if_pos h]
theorem cO {b s:List UInt8}(h:dH s=false):bG b s=none:=by unfold bG;rw[if_neg (by rw[h];decide)]
theorem aB {b:List UInt8}{n:Int}(h:gZ n=true):iJ b n=some [bQ b n]:=by unfold iJ;rw[if_pos h]
theorem cU {b:List UInt8}{n:Int}(h:gZ n=false):iJ b n=none:=by unfold iJ;rw[if_neg (by rw[h];decide)]
theorem cM {s:List UInt8}(h:dH s=true):s.length≤24:=((hO s).1 h).2.1
theorem rQ (b off:Nat)(x:Int)(h:Heap)(hc:aX h ⟨b,off,none⟩=some (.int .u32 x)) :
  cK Tryz.prog 172 [.pointer (some ⟨b,off,none⟩)] h fun r h'=>r=.bool (!decide (x=0))∧h'=h:=by
 refine Spec.enter Tryz.func172 rfl Tryz.ntmps172 (by kernel_rfl) ?_;refine run (nC rfl ?_);refine run (fA st210 rfl rfl rfl ?_);refine CallVC.ext (XSpec.load Tryz.func179 (by kernel_rfl) (by kernel_rfl) (by kernel_rfl) .u32 (by kernel_rfl) hc) ?_;rintro _ hx ⟨rfl,rfl⟩;refine RetVC.one rfl ?_
 exact⟨rfl,rfl⟩
theorem ilock_spec (B:Base)(b off:Nat)(cs:List Value)(t:TypeId)(h:Heap)(o0:Own B [box b cs t] h)(hc:cs[off]?=some (.int .i32 0)) :
  cK Tryz.prog 189 [.pointer (some ⟨b,off,none⟩)] h fun r h'=>r=.tuple #[]∧Own B [box b (cs.set off (.int .i32 1)) t] h':=by
 have hlt:off<cs.length:=(List.getElem?_eq_some_iff.1 hc).1;have hc1:(cs.set off (.int .i32 1))[off]?=some (.int .i32 1):=by simp[hlt]
 refine Spec.enter Tryz.func189 rfl Tryz.ntmps189 (by kernel_rfl) ?_;refine CallVC.ext (XSpec.mark0 Tryz.func200 (by kernel_rfl) (by kernel_rfl) (by kernel_rfl) .disable (by kernel_rfl)) ?_;rintro _ hx ⟨rfl,rfl⟩;refine run (nC rfl ?_);refine run (fA st212 rfl rfl rfl ?_);refine CallVC.ext (XSpec.cas Tryz.func201 (by kernel_rfl) (by kernel_rfl) (by kernel_rfl) .i32 (by kernel_rfl) o0 0 rfl hc) ?_;rintro _ h2 ⟨rfl,o2⟩;refine Br.tt ?_;refine Br.tt ?_;refine CallVC.ext (XSpec.mark0 Tryz.func202 (by kernel_rfl) (by kernel_rfl) (by kernel_rfl) .enable (by kernel_rfl)) ?_;rintro _ hx ⟨rfl,rfl⟩;refine run (toUnsafe (e:=212) (by kernel_rfl) (by kernel_rfl) (by kernel_rfl) rfl ((o2.cellB 0 rfl _).trans hc1) ?_);refine CallVC.ext (XSpec.marked Tryz.func203 (by kernel_rfl) (by kernel_rfl) (by kernel_rfl) .acquire (by kernel_rfl) _) ?_;rintro _ hx ⟨rfl,rfl⟩;refine RetVC.zero rfl ?_
 exact⟨rfl,o2⟩
theorem lock_spec (B:Base)(b off:Nat)(cs:List Value)(t:TypeId)(h:Heap)(o0:Own B [box b cs t] h)(hc:cs[off]?=some (.int .i32 0)) :
  cK Tryz.prog 180 [.pointer (some ⟨b,off,none⟩)] h fun r h'=>r=.tuple #[]∧Own B [box b (cs.set off (.int .i32 1)) t] h':=by
 refine Spec.enter Tryz.func180 rfl Tryz.ntmps180 (by kernel_rfl) ?_;refine run (nC rfl ?_);refine run (fA st214 rfl rfl rfl ?_);refine CallVC.ret (ilock_spec B b off cs t _ o0 hc) ?_;rintro _ h2 ⟨rfl,o2⟩;refine RetVC.zero rfl ?_
 exact⟨rfl,o2⟩
theorem aBh (B:Base)(b off:Nat)(cs:List Value)(t:TypeId)(h:Heap)(o0:Own B [box b cs t] h)(hc:cs[off]?=some (.int .i32 1)) :
  cK Tryz.prog 190 [.pointer (some ⟨b,off,none⟩)] h fun r h'=>r=.tuple #[]∧Own B [box b (cs.set off (.int .i32 0)) t] h':=by
 have hcell:=(o0.cellB 0 rfl off).trans hc;refine Spec.enter Tryz.func190 rfl Tryz.ntmps190 (by kernel_rfl) ?_;refine Br.tt ?_;refine run (nC rfl ?_);refine run (fA st212 rfl rfl rfl ?_);refine run (aBx o0 0 rfl ty21 rfl ‹_› ?_);refine run (toUnsafe (e:=212) (by kernel_rfl) (by kernel_rfl) (by kernel_rfl) rfl hcell ?_);refine CallVC.ext (XSpec.marked Tryz.func205 (by kernel_rfl) (by kernel_rfl) (by kernel_rfl) .releaseMerge (by kernel_rfl) _) ?_;rintro _ hx ⟨rfl,rfl⟩;refine CallVC.ext (XSpec.mark0 Tryz.func200 (by kernel_rfl) (by kernel_rfl) (by kernel_rfl) .disable (by kernel_rfl)) ?_;rintro _ hx ⟨rfl,rfl⟩;refine run (nC rfl ?_);refine run (fA st212 rfl rfl rfl ?_);refine CallVC.ext (XSpec.add Tryz.func206 (by kernel_rfl) (by kernel_rfl) (by kernel_rfl) .i32 (by kernel_rfl) o0 0 rfl hc) ?_;rintro _ h2 ⟨rfl,o2⟩;refine Br.ff ?_;refine CallVC.ext (XSpec.mark0 Tryz.func202 (by kernel_rfl) (by kernel_rfl) (by kernel_rfl) .enable (by kernel_rfl)) ?_;rintro _ hx ⟨rfl,rfl⟩;refine RetVC.zero rfl ?_
 exact⟨rfl,o2⟩
theorem unlock_spec (B:Base)(b off:Nat)(cs:List Value)(t:TypeId)(h:Heap)(o0:Own B [box b cs t] h)(hc:cs[off]?=some (.int .i32 1)) :
  DSpec Tryz.prog 181 [.pointer (some ⟨b,off,none⟩)] h (Ret fun r h'=>r=.tuple #[]∧Own B [box b (cs.set off (.int .i32 0)) t] h'):=by
 refine DSpec.enter Tryz.func181 rfl (n:=6) (by kernel_rfl) (by kernel_rfl) ?_;refine run (nC rfl ?_);refine run (fA st214 rfl rfl rfl ?_);refine CallVC.ret (aBh B b off cs t _ o0 hc) ?_;rintro _ h2 ⟨rfl,o2⟩;refine RetVC.zero rfl ?_
 exact⟨rfl,o2⟩
theorem b32_spec (h:Heap):cK Tryz.prog 192 [.bool true] h fun r h'=>r=.int .u32 1∧h'=h:=by
 refine Spec.enter Tryz.func192 rfl Tryz.ntmps192 (by kernel_rfl) ?_;refine Br.tt ?_;refine RetVC.one rfl ?_
 exact⟨rfl,rfl⟩
theorem zL (B:Base)(b off:Nat)(cs:List Value)(t:TypeId)(u:Value)(h:Heap)(o0:Own B [box b cs t] h)(hc:cs[off]?=some u) :
  DSpec Tryz.prog 182 [.pointer (some ⟨b,off,none⟩),.bool true] h (Ret fun r h'=>r=.tuple #[]∧Own B [box b (cs.set off (.int .u32 1)) t] h'):=by
 refine DSpec.enter Tryz.func182 rfl (n:=10) (by kernel_rfl) (by kernel_rfl) ?_;refine DrawVC.intro [0,1,2,3] [] [4,5] [0,1,2,3,4,5] mixed (by kernel_rfl) rfl (fun _ _ _ _ h=>h) ?_;refine nC rfl ?_;refine fA st210 rfl rfl rfl ?_;refine CallVC.ret (b32_spec _) ?_;rintro _ hx ⟨rfl,rfl⟩;refine CallVC.ext (XSpec.store Tryz.func191 (by kernel_rfl) (by kernel_rfl) (by kernel_rfl) (by kernel_rfl) o0 0 rfl hc) ?_;rintro _ h2 ⟨rfl,o2⟩;refine RetVC.zero rfl ?_
 exact⟨rfl,o2⟩
theorem Own.lend1 {B:Base}{x:Item}{L2:List Item}{h:Heap}(o:Own B (x::L2) h):Own ⟨B.h,L2++B.T⟩ [x] h:=o
theorem Own.back1 {B:Base}{x:Item}{L2:List Item}{h:Heap}(o:Own ⟨B.h,L2++B.T⟩ [x] h):Own B (x::L2) h:=o
def pA (b o:Nat):Value:=.pointer (some ⟨b,o,none⟩)
theorem slow_spec (B:Base)(b:Nat)(cs:List Value)(F:List Value→List Item→Prop)(t:TypeId)(g:FuncId)(first cap:List Value)(h:Heap)(o0:Own B [box b cs t] h)
  (c0:cs[0]?=some (.int .u32 0)) (c1:cs[1]?=some (.int .i32 0))
  (hf:∀ h',Own B [box b (cs.set 1 (.int .i32 1)) t] h'→cK Tryz.prog g (first++cap) h' fun v h''=>v=.tuple #[]∧∃ cs2 L2,F cs2 L2∧cs2[0]?=some (.int .u32 0)∧cs2[1]?=some (.int .i32 1)∧Own B (box b cs2 t::L2) h'') :
  cK Tryz.prog 173 [pA b 0,.func (.func g) ⟨first⟩ ⟨cap⟩] h fun v h'=>v=.tuple #[]∧∃ cs2 L2,F cs2 L2∧Own B (box b ((cs2.set 0 (.int .u32 1)).set 1 (.int .i32 0)) t::L2) h':=by
 have hd:(cs.set 1 (.int .i32 1))[0]?=some (.int .u32 0):=by
  rw[List.getElem?_set_ne (by omega)];exact c0
 refine⟨⟨_,Tryz.func173,rfl,by kernel_rfl⟩,fun w hw=>?_⟩
 subst hw;refine calls_of_wp_defers (R:=fun e w'=>Same w w'∧Ret (fun v h'=>v=.tuple #[]∧∃ cs2 L2,F cs2 L2∧Own B (box b ((cs2.set 0 (.int .u32 1)).set 1 (.int .i32 0)) t::L2) h') e w'.heap) Tryz.func173 rfl ?_;have he:({ tmps:=[pA b 0,.func (.func g) ⟨first⟩ ⟨cap⟩].toArray++Array.replicate (21 - [pA b 0,.func (.func g) ⟨first⟩ ⟨cap⟩].toArray.size) undef,defers:=[] }:Act) =
   act [pA b 0,.func (.func g) ⟨first⟩ ⟨cap⟩,undef,undef,undef,undef,undef,undef,undef,undef,undef,undef,undef,undef,undef,undef,undef,undef,undef,undef,undef] []:=by
  simp[act,List.replicate]
 refine he▸?_;refine wp_seq (wp_mono (dF (w0:=w) (ds:=[]) _ (fun e s' h'=>e=.normal∧s'=[pA b 0,.func (.func g) ⟨first⟩ ⟨cap⟩,undef,undef,pA b 0,pA b 0,pA b 1,.tuple #[],undef,undef,undef,undef,undef,undef,undef,undef,undef,undef,undef,undef,undef]∧Own B [box b (cs.set 1 (.int .i32 1)) t] h') _ w (.refl w) ?_) ?_)
 ·refine run (nC rfl ?_)
  refine run (fA st216 rfl rfl rfl ?_);refine CallVC.ret (lock_spec B b 1 cs t _ o0 c1) ?_;rintro _ h2 ⟨rfl,o2⟩
  exact⟨rfl,rfl,o2⟩
 rintro e a w1 ⟨s1,rfl,hs1,rfl,rfl,o1⟩;refine wp_seq (pJ (o:=0) st216 rfl rfl rfl (by decide) (by decide) (by decide) (by simp) (by simp) ?_);refine wp_seq (wp_mono (dF (w0:=w) _ (fun e s' h'=>e=.normal∧s'=[pA b 0,.func (.func g) ⟨first⟩ ⟨cap⟩,undef,undef,pA b 0,pA b 0,pA b 1,.tuple #[],pA b 0,pA b 0,pA b 1,pA b 0,pA b 0,pA b 0,.bool false,.bool true,undef,undef,undef,undef,undef]∧Own B [box b (cs.set 1 (.int .i32 1)) t] h') _ w1 hs1 ?_) ?_)
 ·refine run (nC rfl ?_)
  refine run (fA st216 rfl rfl rfl ?_);refine CallVC.ret (rQ b 0 0 _ ((o1.cellB 0 rfl 0).trans hd)) ?_;rintro _ h2 ⟨rfl,rfl⟩
  exact⟨rfl,rfl,o1⟩
 rintro e a w2 ⟨s2,rfl,hs2,rfl,rfl,o2⟩;refine wp_cond_split (t:=true) rfl (fun _=>?_) (fun h=>by cases h);refine wp_seq (pJ (o:=0) st216 rfl rfl rfl (by decide) (by decide) (by decide) (by simp) (by simp) ?_);refine wp_mono (dF (w0:=w) _ (fun e s' h'=>e=.normal∧∃ cs2 L2,F cs2 L2∧cs2[0]?=some (.int .u32 0)∧cs2[1]?=some (.int .i32 1)∧Own B (box b cs2 t::L2) h') _ w2 hs2 ?_) ?_
 ·refine RegVC.plain ?_
  refine CallVC.ret (hf _ o2) ?_;rintro _ h3 ⟨rfl,o3⟩
  exact⟨rfl,o3⟩
 rintro e a w3 ⟨s3,rfl,hs3,rfl,cs2,L2,hF,d0,d1,o3⟩;have e1:(cs2.set 0 (.int .u32 1))[1]?=some (.int .i32 1):=by
  rw[List.getElem?_set_ne (by omega)];exact d1
 refine vV (args:=[pA b 0,.bool true]) (zL _ b 0 cs2 t _ _ o3.lend1 d0) ?_;rintro _ w4 hs4 ⟨rfl,o4⟩;refine vV (args:=[pA b 1]) (unlock_spec _ b 1 _ t _ o4 e1) ?_;rintro _ w5 hs5 ⟨rfl,o5⟩
 exact⟨_,results_none rfl _ _ _,(hs3.trans hs4).trans hs5,rfl,cs2,L2,hF,o5.back1⟩
theorem do_spec (B:Base)(b:Nat)(cs:List Value)(F:List Value→List Item→Prop)(t:TypeId)(g:FuncId)(first cap:List Value)(h:Heap)(o0:Own B [box b cs t] h)
  (c0:cs[0]?=some (.int .u32 0)) (c1:cs[1]?=some (.int .i32 0))
  (hf:∀ h',Own B [box b (cs.set 1 (.int .i32 1)) t] h'→cK Tryz.prog g (first++cap) h' fun v h''=>v=.tuple #[]∧∃ cs2 L2,F cs2 L2∧cs2[0]?=some (.int .u32 0)∧cs2[1]?=some (.int .i32 1)∧Own B (box b cs2 t::L2) h'') :
  cK Tryz.prog 165 [pA b 0,.func (.func g) ⟨first⟩ ⟨cap⟩] h fun v h'=>v=.tuple #[]∧∃ cs2 L2,F cs2 L2∧Own B (box b ((cs2.set 0 (.int .u32 1)).set 1 (.int .i32 0)) t::L2) h':=by
 refine Spec.enter Tryz.func165 rfl Tryz.ntmps165 (by kernel_rfl) ?_;refine run (nC rfl ?_);refine run (fA st216 rfl rfl rfl ?_);refine CallVC.ret (rQ b 0 0 _ ((o0.cellB 0 rfl 0).trans c0)) ?_;rintro _ hx ⟨rfl,rfl⟩;refine Br.tt ?_;refine CallVC.ret (slow_spec B b cs F t g first cap _ o0 c0 c1 hf) ?_;rintro _ h2 ⟨rfl,o2⟩;refine RetVC.zero rfl ?_
 exact⟨rfl,o2⟩
end Go.Proofs.YtohlogbnpfofpaaGreatDoor
