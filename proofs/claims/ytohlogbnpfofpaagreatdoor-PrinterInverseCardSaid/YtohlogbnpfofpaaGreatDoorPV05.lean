/- Part 5 of the proof of inverse: FnPk, FnLexZ, FnLexP, FnPo, FnLo, FnLp, VcDrawP, VcMap, VcFork. -/
import Derived.Test.YtohlogbnpfofpaaGreatDoorPV04
set_option linter.all false
set_option maxHeartbeats 100000000
set_option maxRecDepth 100000
namespace Go.Proofs.YtohlogbnpfofpaaGreatDoor
open Go StillVC
def rA (pb:Nat):aVs:=[.string ⟨⟨[115,101,108,101,99,116]⟩⟩,.bool false,.func (.func 161) ⟨[]⟩ ⟨[.pointer (some ⟨pb,0,none⟩)]⟩,.string ⟨⟨[112,114,111,106,101,99,116]⟩⟩,.bool false,.func (.func 162) ⟨[]⟩ ⟨[.pointer (some ⟨pb,0,none⟩)]⟩,.string ⟨⟨[106,111,105,110]⟩⟩,.bool true,.func (.func 160) ⟨[]⟩ ⟨[]⟩,.string ⟨⟨[117,110,105,111,110]⟩⟩,.bool true,.func (.func 160) ⟨[]⟩ ⟨[]⟩,.string ⟨⟨[109,105,110,117,115]⟩⟩,.bool true,.func (.func 160) ⟨[]⟩ ⟨[]⟩,.string ⟨⟨[114,101,110,97,109,101]⟩⟩,.bool false,.func (.func 163) ⟨[]⟩ ⟨[.pointer (some ⟨pb,0,none⟩)]⟩,.string ⟨⟨[103,114,111,117,112]⟩⟩,.bool false,.func (.func 164) ⟨[]⟩ ⟨[.pointer (some ⟨pb,0,none⟩)]⟩]
theorem eJ (bp:Nat)(h:Heap):bZ Tryz.prog 145 [.pointer (some ⟨bp,0,none⟩)] h fun v h'=>∃ b pb,v=.slice (some ⟨b,0,none⟩) 7 7∧Own h [box pb [.pointer (some ⟨bp,0,none⟩)] 70,box b (rA pb) 188] h':=by
 refine aCV Tryz.func145 rfl Tryz.ntmps145 (by kernel_rfl) ?_;have o0:=Own.refl h;(refine aCq o0 rfl ?_;intro b10 m10 o10);refine rR (aCx ?_);refine rR (aCl cB ?_);refine aI rfl ?_;refine aI rfl ?_;refine aI rfl ?_;refine rR (aCx ?_);refine rR (aCl cB ?_);refine aI rfl ?_;refine aI rfl ?_;refine aI rfl ?_;refine rR (aCl cB ?_);refine aI rfl ?_;refine aI rfl ?_;refine aI rfl ?_;refine rR (aCl cB ?_);refine aI rfl ?_;refine aI rfl ?_;refine aI rfl ?_;refine rR (aCl cB ?_);refine aI rfl ?_;refine aI rfl ?_;refine aI rfl ?_;refine rR (aCx ?_);refine rR (aCl cB ?_);refine aI rfl ?_;refine aI rfl ?_;refine aI rfl ?_;refine rR (aCx ?_);refine rR (aCl cB ?_);refine aI rfl ?_;refine aI rfl ?_;refine aI rfl ?_;(refine aCB o10 dN aV rfl rfl (by decide) ?_);refine aI rfl ?_;refine aI rfl ?_;refine aI rfl ?_;refine aI rfl ?_;refine aI rfl ?_;refine aI rfl ?_;refine aI rfl ?_;intro b23 m23 o23;refine aCX rfl ?_
 exact⟨_,_,rfl,Own.sel ‹_› [0,1] rfl⟩
def restR (I:Item)(c:aVs)(kind:Int)(vk:Value)(kids:List Ex)(off:Nat)(x:Ex):Prop:=∃ vc vn conds names attr as_ agg,x=.mk kind [] kids conds names attr as_ agg off∧c=xO kind [] vk vc vn attr as_ agg off ∧
 Reads I 14 vc conds.length (conds.flatMap nP)∧Reads I 1 vn names.length (names.flatMap sX)
def lF (B:Base)(bp z:Nat)(tk:Item)(bx pb:Nat)(n:Nat)(res:Except (Int×Nat) (Ex×List Tok))(kind:Int)(vk:Value)(kids:List Ex)(off:Nat):Ending→Heap→Prop :=
 Ends (fun v h'=>∃ x r w c I,res=.ok (x,r)∧v=.tuple ⟨[]⟩∧restR I c kind vk kids off x∧r.length≤n∧cI tk w r∧Own B [box bp [w,.int .i64 z] 72,tk,box bx c 42,box pb [.pointer (some ⟨bp,0,none⟩)] 70,I] h')
  (fun c h'=>∃ e w,res=.error e∧c=kM e∧Own B (PSt bp z w tk) h')
theorem Own.empty4 {B:Base}{x y z u:Item}{h:Heap}(o:Own B [x,y,z,u] h):Own B [x,y,z,u,gK] h:=o.emptyI'.sel [1,2,3,4,0] rfl
theorem rest0_spec (off:Nat)(vk:Value)(kids:List Ex)(B:Base)(bp z:Nat)(tk:Item)(bx pb:Nat)(w:Value)(ts:List Tok)(h:Heap)(o:Own B [box bp [w,.int .i64 z] 72,tk,box bx (xO 2 [] vk aN aN [] [] 0 off) 42,box pb [.pointer (some ⟨bp,0,none⟩)] 70] h)(hR:cI tk w ts)(hl:ts.length≤5000) :
  Spec Tryz.prog 161 [.pointer (some ⟨bx,0,none⟩),.pointer (some ⟨pb,0,none⟩)] h (lF B bp z tk bx pb ts.length (dZ z 0 off kids ts) 2 vk kids off):=by
 have hE:dZ z 0 off kids ts=(mC z >>= fun c=>(pure (Ex.mk 2 [] kids c [] [] [] 0 off):PM Ex)) ts:=rfl;unfold xO at o;refine aCV Tryz.func161 rfl Tryz.ntmps161 (by kernel_rfl) ?_;refine rR (aCc o 3 rfl kP rfl rfl ?_);refine cW.callL (fun B' o'=>aAv B' bp z tk _ _ _ o' hR (by omega)) ‹_› rfl (fun l1 q1 w1 v1 I h1 hm hv hle1 hR1 oq=>?_) (fun e w' h' hm o2=>⟨e,w',hE.trans (aCe hm),rfl,o2⟩)
 obtain⟨hn1,rfl⟩:=hv
 rw[aCd hm]at hE
 have o1:=oq
 simp only[PSt,pick,lcA,lnA,lgS,lgZ,lgN]at o1
 clear oq hm
 obtain⟨va1,vb1,rfl⟩:=o1.rowIs 2 rfl
 refine rR (nC rfl ?_);refine rR (fA aM rfl rfl rfl ?_);(refine aCL o1 3 rfl mL rfl (by simp) (aI ⟨rfl,rfl⟩ ?_);intro m22 o22);refine aCY rfl ?_
 exact⟨_,q1,w1,_,_,hE,rfl,⟨_,_,l1,[],[],[],0,rfl,rfl,dI,aP⟩,by omega,hR1,Own.sel ‹_› [0,1,3,4,2] rfl⟩
theorem rest1_spec (off:Nat)(vk:Value)(kids:List Ex)(B:Base)(bp z:Nat)(tk:Item)(bx pb:Nat)(w:Value)(ts:List Tok)(h:Heap)(o:Own B [box bp [w,.int .i64 z] 72,tk,box bx (xO 3 [] vk aN aN [] [] 0 off) 42,box pb [.pointer (some ⟨bp,0,none⟩)] 70] h)(hR:cI tk w ts)(hl:ts.length≤5000) :
  Spec Tryz.prog 162 [.pointer (some ⟨bx,0,none⟩),.pointer (some ⟨pb,0,none⟩)] h (lF B bp z tk bx pb ts.length (dZ z 1 off kids ts) 3 vk kids off):=by
 have hE:dZ z 1 off kids ts=(aW z [[111,110]] >>= fun _=>namesU z [41] >>= fun l=>(pure (Ex.mk 3 [] kids [] l [] [] 0 off):PM Ex)) ts:=rfl;unfold xO at o;refine aCV Tryz.func162 rfl Tryz.ntmps162 (by kernel_rfl) ?_;refine rR (aCc o 3 rfl kP rfl rfl ?_);(refine aCM o aK aL rfl rfl (by decide) (aI rfl ?_);intro b11 m11 o11);refine aU (ss:=[[111,110]]) ‹_› rfl ⟨4,by decide,rfl⟩ hR (by omega) (by decide) (fun _ q1 w1 v h1 hm hv hle1 hR1 oq=>?_) (fun e w' h' hm o2=>⟨e,w',hE.trans (aCe hm),rfl,o2⟩);subst hv
 rw[aCd hm]at hE
 have o1:=oq
 simp only[PSt,pick,lcA,lnA,lgS,lgZ,lgN]at o1
 clear oq hm;refine rR (aCc o1 3 rfl kP rfl rfl ?_);(refine aCM o1 aK aL rfl rfl (by decide) (aI rfl ?_);intro b21 m21 o21);refine aCT (bL [[41]] _ bp w1 q1 _ (Own.cellB ‹_› 0 rfl 0) (Own.reads ‹_› 1 hR1.1 rfl) (Own.boxArr ‹_› 5 rfl rfl (by decide)) (by omega)) ?_;rintro _ hp ⟨rfl,oc⟩;have op:=oc.thenE ‹_›;clear oc;cases hb:bC [[41]] q1 with
 | true =>
  rw[aCd (nH hb)]at hE
  refine aCR ?_;refine aCY rfl ?_
  exact⟨_,q1,w1,_,gK,hE,rfl,⟨_,_,[],[],[],[],0,rfl,rfl,aP,aP⟩,by omega,hR1,(Own.sel ‹_› [0,1,2,3] rfl).empty4⟩
 | false =>
  refine aCQ ?_;refine rR (aCc op 3 rfl kP rfl rfl ?_);refine cW.callL (fun B' o'=>pL B' bp z tk _ _ _ o' hR1 (by omega)) ‹_› rfl (fun l2 q2 w2 v2 I h2 hm hv hle2 hR2 oq=>?_) (fun e w' h' hm o2=>⟨e,w',hE.trans (aCe ((kV hb).trans hm)),rfl,o2⟩)
  obtain⟨hn2,rfl⟩:=hv
  rw[aCd ((kV hb).trans hm)]at hE
  have o2:=oq
  simp only[PSt,pick,lcA,lnA,lgS,lgZ,lgN]at o2
  clear oq hm
  obtain⟨va2,vb2,rfl⟩:=o2.rowIs 2 rfl
  refine rR (nC rfl ?_);refine rR (fA aM rfl rfl rfl ?_);(refine aCL o2 3 rfl eV rfl (by simp) (aI ⟨rfl,rfl⟩ ?_);intro m52 o52);refine aCY rfl ?_
  exact⟨_,q2,w2,_,_,hE,rfl,⟨_,_,[],l2,[],[],0,rfl,rfl,aP,dI⟩,by omega,hR2,Own.sel ‹_› [0,1,3,4,2] rfl⟩
theorem rest5_spec (off:Nat)(vk:Value)(kids:List Ex)(B:Base)(bp z:Nat)(tk:Item)(bx pb:Nat)(w:Value)(ts:List Tok)(h:Heap)(o:Own B [box bp [w,.int .i64 z] 72,tk,box bx (xO 7 [] vk aN aN [] [] 0 off) 42,box pb [.pointer (some ⟨bp,0,none⟩)] 70] h)(hR:cI tk w ts)(hl:ts.length≤5000) :
  Spec Tryz.prog 163 [.pointer (some ⟨bx,0,none⟩),.pointer (some ⟨pb,0,none⟩)] h (lF B bp z tk bx pb ts.length (dZ z 5 off kids ts) 7 vk kids off):=by
 have hE:dZ z 5 off kids ts=(aW z [[44]] >>= fun _=>cV z >>= fun a=>aW z [[97,115]] >>= fun _=>cV z >>= fun b=>(pure (Ex.mk 7 [] kids [] [] a b 0 off):PM Ex)) ts:=rfl;unfold xO at o;refine aCV Tryz.func163 rfl Tryz.ntmps163 (by kernel_rfl) ?_;refine rR (aCc o 3 rfl kP rfl rfl ?_);(refine aCM o aK aL rfl rfl (by decide) (aI rfl ?_);intro b11 m11 o11);refine aU (ss:=[[44]]) ‹_› rfl ⟨4,by decide,rfl⟩ hR (by omega) (by decide) (fun _ q1 w1 v h1 hm hv hle1 hR1 oq=>?_) (fun e w' h' hm o2=>⟨e,w',hE.trans (aCe hm),rfl,o2⟩);subst hv
 rw[aCd hm]at hE
 have o1:=oq
 simp only[PSt,pick,lcA,lnA,lgS,lgZ,lgN]at o1
 clear oq hm;refine rR (aCc o1 3 rfl kP rfl rfl ?_);refine cD.callL ‹_› rfl hR1 (by omega) (fun at_ q2 w2 v h2 hm hv hle2 hR2 oq=>?_) (fun e w' h' hm o2=>⟨e,w',hE.trans (aCe hm),rfl,o2⟩);subst hv
 rw[aCd hm]at hE
 have o2:=oq
 simp only[PSt,pick,lcA,lnA,lgS,lgZ,lgN]at o2
 clear oq hm;refine rR (nC rfl ?_);refine rR (fA aM rfl rfl rfl ?_);(refine aCL o2 2 rfl aL rfl (by simp) (aI ⟨rfl,rfl⟩ ?_);intro m32 o32);refine rR (aCc o32 3 rfl kP rfl rfl ?_);(refine aCM o32 aK aL rfl rfl (by decide) (aI rfl ?_);intro b34 m34 o34);refine aU (ss:=[[97,115]]) ‹_› rfl ⟨5,by decide,rfl⟩ hR2 (by omega) (by decide) (fun _ q3 w3 v h3 hm hv hle3 hR3 oq=>?_) (fun e w' h' hm o2=>⟨e,w',hE.trans (aCe hm),rfl,o2⟩);subst hv
 rw[aCd hm]at hE
 have o3:=oq
 simp only[PSt,pick,lcA,lnA,lgS,lgZ,lgN]at o3
 clear oq hm;refine rR (aCc o3 3 rfl kP rfl rfl ?_);refine cD.callL ‹_› rfl hR3 (by omega) (fun as_ q4 w4 v h4 hm hv hle4 hR4 oq=>?_) (fun e w' h' hm o2=>⟨e,w',hE.trans (aCe hm),rfl,o2⟩);subst hv
 rw[aCd hm]at hE
 have o4:=oq
 simp only[PSt,pick,lcA,lnA,lgS,lgZ,lgN]at o4
 clear oq hm;refine rR (nC rfl ?_);refine rR (fA aM rfl rfl rfl ?_);(refine aCL o4 2 rfl aL rfl (by simp) (aI ⟨rfl,rfl⟩ ?_);intro m52 o52);refine aCY rfl ?_
 exact⟨_,q4,w4,_,gK,hE,rfl,⟨_,_,[],[],at_,as_,0,rfl,rfl,aP,aP⟩,by omega,hR4,(Own.sel ‹_› [0,1,2,3] rfl).empty4⟩
theorem rest6_spec (off:Nat)(vk:Value)(kids:List Ex)(B:Base)(bp z:Nat)(tk:Item)(bx pb:Nat)(w:Value)(ts:List Tok)(h:Heap)(o:Own B [box bp [w,.int .i64 z] 72,tk,box bx (xO 8 [] vk aN aN [] [] 0 off) 42,box pb [.pointer (some ⟨bp,0,none⟩)] 70] h)(hR:cI tk w ts)(hl:ts.length≤5000) :
  Spec Tryz.prog 164 [.pointer (some ⟨bx,0,none⟩),.pointer (some ⟨pb,0,none⟩)] h (lF B bp z tk bx pb ts.length (dZ z 6 off kids ts) 8 vk kids off):=by
 have hE:dZ z 6 off kids ts=(aW z [[111,110]] >>= fun _=>namesU z [119,105,116,104] >>= fun l=>aW z [[119,105,116,104]] >>= fun _=>eC z [[99,111,117,110,116],[115,117,109],[108,101,97,115,116],[103,114,101,97,116,101,115,116]] 1 >>= fun g=>ifP (g != 1) (cV z) [] >>= fun a=>aW z [[97,115]] >>= fun _=>cV z >>= fun b=>(pure (Ex.mk 8 [] kids [] l a b g off):PM Ex)) ts:=rfl;unfold xO at o;refine aCV Tryz.func164 rfl Tryz.ntmps164 (by kernel_rfl) ?_;refine rR (aCc o 3 rfl kP rfl rfl ?_);(refine aCM o aK aL rfl rfl (by decide) (aI rfl ?_);intro b11 m11 o11);refine aU (ss:=[[111,110]]) ‹_› rfl ⟨4,by decide,rfl⟩ hR (by omega) (by decide) (fun _ q1 w1 v h1 hm hv hle1 hR1 oq=>?_) (fun e w' h' hm o2=>⟨e,w',hE.trans (aCe hm),rfl,o2⟩);subst hv
 rw[aCd hm]at hE
 have o1:=oq
 simp only[PSt,pick,lcA,lnA,lgS,lgZ,lgN]at o1
 clear oq hm;refine rR (aCc o1 3 rfl kP rfl rfl ?_);(refine aCM o1 aK aL rfl rfl (by decide) (aI rfl ?_);intro b21 m21 o21);refine aCT (bL [[119,105,116,104]] _ bp w1 q1 _ (Own.cellB ‹_› 0 rfl 0) (Own.reads ‹_› 1 hR1.1 rfl) (Own.boxArr ‹_› 5 rfl rfl (by decide)) (by omega)) ?_;rintro _ hp ⟨rfl,oc⟩;have op:=oc.thenE ‹_›;clear oc;cases hb:bC [[119,105,116,104]] q1 with
 | true =>
  rw[aCd (nH hb)]at hE
  refine aCR ?_;refine rR (aCc op 3 rfl kP rfl rfl ?_);(refine aCM op aK aL rfl rfl (by decide) (aI rfl ?_);intro b31 m31 o31);refine aU (ss:=[[119,105,116,104]]) ‹_› rfl ⟨6,by decide,rfl⟩ hR1 (by omega) (by decide) (fun _ q2 w2 v h2 hm hv hle2 hR2 oq=>?_) (fun e w' h' hm o2=>⟨e,w',hE.trans (aCe hm),rfl,o2⟩);subst hv
  rw[aCd hm]at hE
  have o2:=oq
  simp only[PSt,pick,lcA,lnA,lgS,lgZ,lgN]at o2
  clear oq hm;refine rR (aCc o2 3 rfl kP rfl rfl ?_);(refine aCM o2 aK aL rfl rfl (by decide) (aI rfl ?_);intro b41 m41 o41);refine jL (ss:=[[99,111,117,110,116],[115,117,109],[108,101,97,115,116],[103,114,101,97,116,101,115,116]]) ‹_› rfl ⟨7,by decide,rfl⟩ hR2 (by omega) (by decide) (fun g q3 w3 v h3 hm hv hle3 hR3 oq=>?_) (fun e w' h' hm o2=>⟨e,w',hE.trans (aCe hm),rfl,o2⟩);subst hv
  rw[aCd hm]at hE
  have o3:=oq
  simp only[PSt,pick,lcA,lnA,lgS,lgZ,lgN]at o3
  clear oq hm;by_cases hg:g=1
  ·rw[lX (by simp[hg]),aCt]at hE
   refine rR (nC rfl ?_);refine rR (fA aM rfl rfl rfl ?_);(refine aCL o3 2 rfl aT rfl (by simp) (aI ⟨rfl,rfl⟩ ?_);intro m52 o52);refine rR (nC rfl ?_);refine rR (fA aM rfl rfl rfl ?_);refine rR (aCc o52 2 rfl aT rfl rfl ?_);refine aCi (fun hc=>absurd (by first|omega|assumption|decide|exact rfl) hc) (fun c56=>?_);refine rR (aCc o52 3 rfl kP rfl rfl ?_);(refine aCM o52 aK aL rfl rfl (by decide) (aI rfl ?_);intro b58 m58 o58);refine aU (ss:=[[97,115]]) ‹_› rfl ⟨8,by decide,rfl⟩ hR3 (by omega) (by decide) (fun _ q4 w4 v h4 hm hv hle4 hR4 oq=>?_) (fun e w' h' hm o2=>⟨e,w',hE.trans (aCe hm),rfl,o2⟩);subst hv
   rw[aCd hm]at hE
   have o4:=oq
   simp only[PSt,pick,lcA,lnA,lgS,lgZ,lgN]at o4
   clear oq hm;refine rR (aCc o4 3 rfl kP rfl rfl ?_);refine cD.callL ‹_› rfl hR4 (by omega) (fun as_ q5 w5 v h5 hm hv hle5 hR5 oq=>?_) (fun e w' h' hm o2=>⟨e,w',hE.trans (aCe hm),rfl,o2⟩);subst hv
   rw[aCd hm]at hE
   have o5:=oq
   simp only[PSt,pick,lcA,lnA,lgS,lgZ,lgN]at o5
   clear oq hm;refine rR (nC rfl ?_);refine rR (fA aM rfl rfl rfl ?_);(refine aCL o5 2 rfl aL rfl (by simp) (aI ⟨rfl,rfl⟩ ?_);intro m72 o72);refine aCY rfl ?_
   exact⟨_,q5,w5,_,gK,hE,rfl,⟨_,_,[],[],[],as_,g,rfl,rfl,aP,aP⟩,by omega,hR5,(Own.sel ‹_› [0,1,2,3] rfl).empty4⟩
  ·rw[jI (by simp[hg])]at hE
   refine rR (nC rfl ?_);refine rR (fA aM rfl rfl rfl ?_);(refine aCL o3 2 rfl aT rfl (by simp) (aI ⟨rfl,rfl⟩ ?_);intro m82 o82);refine rR (nC rfl ?_);refine rR (fA aM rfl rfl rfl ?_);refine rR (aCc o82 2 rfl aT rfl rfl ?_);refine aCi (fun c86=>?_) (fun hc=>absurd hc (by first|omega|assumption|decide|exact rfl));refine rR (aCc o82 3 rfl kP rfl rfl ?_);refine cD.callL ‹_› rfl hR3 (by omega) (fun at_ q6 w6 v h6 hm hv hle6 hR6 oq=>?_) (fun e w' h' hm o2=>⟨e,w',hE.trans (aCe hm),rfl,o2⟩);subst hv
   rw[aCd hm]at hE
   have o6:=oq
   simp only[PSt,pick,lcA,lnA,lgS,lgZ,lgN]at o6
   clear oq hm;refine rR (nC rfl ?_);refine rR (fA aM rfl rfl rfl ?_);(refine aCL o6 2 rfl aL rfl (by simp) (aI ⟨rfl,rfl⟩ ?_);intro m92 o92);refine rR (aCc o92 3 rfl kP rfl rfl ?_);(refine aCM o92 aK aL rfl rfl (by decide) (aI rfl ?_);intro b94 m94 o94);refine aU (ss:=[[97,115]]) ‹_› rfl ⟨8,by decide,rfl⟩ hR6 (by omega) (by decide) (fun _ q7 w7 v h7 hm hv hle7 hR7 oq=>?_) (fun e w' h' hm o2=>⟨e,w',hE.trans (aCe hm),rfl,o2⟩);subst hv
   rw[aCd hm]at hE
   have o7:=oq
   simp only[PSt,pick,lcA,lnA,lgS,lgZ,lgN]at o7
   clear oq hm;refine rR (aCc o7 3 rfl kP rfl rfl ?_);refine cD.callL ‹_› rfl hR7 (by omega) (fun as_ q8 w8 v h8 hm hv hle8 hR8 oq=>?_) (fun e w' h' hm o2=>⟨e,w',hE.trans (aCe hm),rfl,o2⟩);subst hv
   rw[aCd hm]at hE
   have o8:=oq
   simp only[PSt,pick,lcA,lnA,lgS,lgZ,lgN]at o8
   clear oq hm;refine rR (nC rfl ?_);refine rR (fA aM rfl rfl rfl ?_);(refine aCL o8 2 rfl aL rfl (by simp) (aI ⟨rfl,rfl⟩ ?_);intro m112 o112);refine aCY rfl ?_
   exact⟨_,q8,w8,_,gK,hE,rfl,⟨_,_,[],[],at_,as_,g,rfl,rfl,aP,aP⟩,by omega,hR8,(Own.sel ‹_› [0,1,2,3] rfl).empty4⟩
 | false =>
  refine aCQ ?_;refine rR (aCc op 3 rfl kP rfl rfl ?_);refine cW.callL (fun B' o'=>pL B' bp z tk _ _ _ o' hR1 (by omega)) ‹_› rfl (fun l9 q9 w9 v9 I h9 hm hv hle9 hR9 oq=>?_) (fun e w' h' hm o2=>⟨e,w',hE.trans (aCe ((kV hb).trans hm)),rfl,o2⟩)
  obtain⟨hn9,rfl⟩:=hv
  rw[aCd ((kV hb).trans hm)]at hE
  have o9:=oq
  simp only[PSt,pick,lcA,lnA,lgS,lgZ,lgN]at o9
  clear oq hm
  obtain⟨va9,vb9,rfl⟩:=o9.rowIs 2 rfl
  refine rR (nC rfl ?_);refine rR (fA aM rfl rfl rfl ?_);(refine aCL o9 3 rfl eV rfl (by simp) (aI ⟨rfl,rfl⟩ ?_);intro m132 o132);refine rR (aCc o132 4 rfl kP rfl rfl ?_);(refine aCM o132 aK aL rfl rfl (by decide) (aI rfl ?_);intro b134 m134 o134);refine aU (ss:=[[119,105,116,104]]) ‹_› rfl ⟨7,by decide,rfl⟩ hR9 (by omega) (by decide) (fun _ q10 w10 v h10 hm hv hle10 hR10 oq=>?_) (fun e w' h' hm o2=>⟨e,w',hE.trans (aCe hm),rfl,o2⟩);subst hv
  rw[aCd hm]at hE
  have o10:=oq
  simp only[PSt,pick,lcA,lnA,lgS,lgZ,lgN]at o10
  clear oq hm;refine rR (aCc o10 4 rfl kP rfl rfl ?_);(refine aCM o10 aK aL rfl rfl (by decide) (aI rfl ?_);intro b141 m141 o141);refine jL (ss:=[[99,111,117,110,116],[115,117,109],[108,101,97,115,116],[103,114,101,97,116,101,115,116]]) ‹_› rfl ⟨8,by decide,rfl⟩ hR10 (by omega) (by decide) (fun g q11 w11 v h11 hm hv hle11 hR11 oq=>?_) (fun e w' h' hm o2=>⟨e,w',hE.trans (aCe hm),rfl,o2⟩);subst hv
  rw[aCd hm]at hE
  have o11:=oq
  simp only[PSt,pick,lcA,lnA,lgS,lgZ,lgN]at o11
  clear oq hm;by_cases hg:g=1
  ·rw[lX (by simp[hg]),aCt]at hE
   refine rR (nC rfl ?_);refine rR (fA aM rfl rfl rfl ?_);(refine aCL o11 3 rfl aT rfl (by simp) (aI ⟨rfl,rfl⟩ ?_);intro m152 o152);refine rR (nC rfl ?_);refine rR (fA aM rfl rfl rfl ?_);refine rR (aCc o152 3 rfl aT rfl rfl ?_);refine aCi (fun hc=>absurd (by first|omega|assumption|decide|exact rfl) hc) (fun c156=>?_);refine rR (aCc o152 4 rfl kP rfl rfl ?_);(refine aCM o152 aK aL rfl rfl (by decide) (aI rfl ?_);intro b158 m158 o158);refine aU (ss:=[[97,115]]) ‹_› rfl ⟨9,by decide,rfl⟩ hR11 (by omega) (by decide) (fun _ q12 w12 v h12 hm hv hle12 hR12 oq=>?_) (fun e w' h' hm o2=>⟨e,w',hE.trans (aCe hm),rfl,o2⟩);subst hv
   rw[aCd hm]at hE
   have o12:=oq
   simp only[PSt,pick,lcA,lnA,lgS,lgZ,lgN]at o12
   clear oq hm;refine rR (aCc o12 4 rfl kP rfl rfl ?_);refine cD.callL ‹_› rfl hR12 (by omega) (fun as_ q13 w13 v h13 hm hv hle13 hR13 oq=>?_) (fun e w' h' hm o2=>⟨e,w',hE.trans (aCe hm),rfl,o2⟩);subst hv
   rw[aCd hm]at hE
   have o13:=oq
   simp only[PSt,pick,lcA,lnA,lgS,lgZ,lgN]at o13
   clear oq hm;refine rR (nC rfl ?_);refine rR (fA aM rfl rfl rfl ?_);(refine aCL o13 3 rfl aL rfl (by simp) (aI ⟨rfl,rfl⟩ ?_);intro m172 o172);refine aCY rfl ?_
   exact⟨_,q13,w13,_,_,hE,rfl,⟨_,_,[],l9,[],as_,g,rfl,rfl,aP,dI⟩,by omega,hR13,Own.sel ‹_› [0,1,3,4,2] rfl⟩
  ·rw[jI (by simp[hg])]at hE
   refine rR (nC rfl ?_);refine rR (fA aM rfl rfl rfl ?_);(refine aCL o11 3 rfl aT rfl (by simp) (aI ⟨rfl,rfl⟩ ?_);intro m182 o182);refine rR (nC rfl ?_);refine rR (fA aM rfl rfl rfl ?_);refine rR (aCc o182 3 rfl aT rfl rfl ?_);refine aCi (fun c186=>?_) (fun hc=>absurd hc (by first|omega|assumption|decide|exact rfl));refine rR (aCc o182 4 rfl kP rfl rfl ?_);refine cD.callL ‹_› rfl hR11 (by omega) (fun at_ q14 w14 v h14 hm hv hle14 hR14 oq=>?_) (fun e w' h' hm o2=>⟨e,w',hE.trans (aCe hm),rfl,o2⟩);subst hv
   rw[aCd hm]at hE
   have o14:=oq
   simp only[PSt,pick,lcA,lnA,lgS,lgZ,lgN]at o14
   clear oq hm;refine rR (nC rfl ?_);refine rR (fA aM rfl rfl rfl ?_);(refine aCL o14 3 rfl aL rfl (by simp) (aI ⟨rfl,rfl⟩ ?_);intro m192 o192);refine rR (aCc o192 4 rfl kP rfl rfl ?_);(refine aCM o192 aK aL rfl rfl (by decide) (aI rfl ?_);intro b194 m194 o194);refine aU (ss:=[[97,115]]) ‹_› rfl ⟨9,by decide,rfl⟩ hR14 (by omega) (by decide) (fun _ q15 w15 v h15 hm hv hle15 hR15 oq=>?_) (fun e w' h' hm o2=>⟨e,w',hE.trans (aCe hm),rfl,o2⟩);subst hv
   rw[aCd hm]at hE
   have o15:=oq
   simp only[PSt,pick,lcA,lnA,lgS,lgZ,lgN]at o15
   clear oq hm;refine rR (aCc o15 4 rfl kP rfl rfl ?_);refine cD.callL ‹_› rfl hR15 (by omega) (fun as_ q16 w16 v h16 hm hv hle16 hR16 oq=>?_) (fun e w' h' hm o2=>⟨e,w',hE.trans (aCe hm),rfl,o2⟩);subst hv
   rw[aCd hm]at hE
   have o16:=oq
   simp only[PSt,pick,lcA,lnA,lgS,lgZ,lgN]at o16
   clear oq hm;refine rR (nC rfl ?_);refine rR (fA aM rfl rfl rfl ?_);(refine aCL o16 3 rfl aL rfl (by simp) (aI ⟨rfl,rfl⟩ ?_);intro m212 o212);refine aCY rfl ?_
   exact⟨_,q16,w16,_,_,hE,rfl,⟨_,_,[],l9,at_,as_,g,rfl,rfl,aP,dI⟩,by omega,hR16,Own.sel ‹_› [0,1,3,4,2] rfl⟩
theorem wT {t:aBs}{i:Nat}{a b:UInt8}:Lib.hasPrefix (t.drop i) [a,b]=true↔t[i]?=some a∧t[i+1]?=some b:=by
 have h1:(t.drop i)[0]?=t[i]?:=by rw[aDC];rfl
 have h2:(t.drop i)[1]?=t[i+1]?:=by rw[aDC]
 rw[← h1,← h2]
 generalize t.drop i=l
 unfold Lib.hasPrefix
 match l with
 | []=>simp
 | [x]=>simp[List.isPrefixOf]
 | x::y::r =>
  rw[List.isPrefixOf_iff_prefix,List.cons_prefix_cons,List.cons_prefix_cons]
  simp only[List.nil_prefix,and_true,lgZ,lgS,Option.some.injEq]
  exact⟨fun h=>⟨h.1.symm,h.2.symm⟩,fun h=>⟨h.1.symm,h.2.symm⟩⟩
theorem vG:∀(l acc:aBs)(k:Nat),dX l acc k≠.none
 | [],_,_=>by simp[dX]
 | [c],acc,k=>by
  rw[dX]
  split
  ·split<;>simp
  ·split<;>simp
 | c::d::r,acc,k=>by
  rw[dX]
  split
  ·split<;>simp
  ·split
   ·simp
   ·split
    ·split
     ·simp
     ·exact vG r _ _
    ·exact vG (d::r) _ _
theorem zG:∀(l acc:aBs)(k:Nat) {e:Int},dX l acc k=.err e→e=3∨e=5∨e=7
 | [],_,_,_,h=>by cases h;omega
 | [c],acc,k,_,h=>by
  rw[dX]at h
  split at h
  ·split at h<;>cases h
   omega
  ·split at h<;>cases h<;>omega
 | c::d::r,acc,k,_,h=>by
  rw[dX]at h
  split at h
  ·split at h<;>cases h
   omega
  ·split at h
   ·cases h;omega
   ·split at h
    ·split at h
     ·cases h;omega
     ·exact zG r _ _ h
    ·exact zG (d::r) _ _ h
theorem tU:∀(l acc:aBs)(k:Nat) {kd n:Int}{x:aBs}{len:Nat},dX l acc k=.tok kd x n len→kd=3∧n=0
 | [],_,_,_,_,_,_,h=>by cases h
 | [c],acc,k,_,_,_,_,h=>by
  rw[dX]at h
  split at h
  ·split at h<;>cases h
   exact⟨rfl,rfl⟩
  ·split at h<;>cases h
 | c::d::r,acc,k,_,_,_,_,h=>by
  rw[dX]at h
  split at h
  ·split at h<;>cases h
   exact⟨rfl,rfl⟩
  ·split at h
   ·cases h
   ·split at h
    ·split at h
     ·cases h
     ·exact tU r _ _ h
    ·exact tU (d::r) _ _ h
theorem letter_not {c:UInt8}(h:cP c=true):bU c=false∧c.toNat≠34:=by
 simp only[cP,bU,decide_eq_true_eq,decide_eq_false_iff_not]at *
 omega
theorem iS {c:UInt8}{r:aBs}(hc:cP c=true):dQ (c::r)=if 24<bM cJ (c::r) then .err 3 else .tok 1 ((c::r).take (bM cJ (c::r))) 0 (bM cJ (c::r)):=by
 have:xC (c::r)=if 24<bM cJ (c::r) then .err 3 else .tok 1 ((c::r).take (bM cJ (c::r))) 0 (bM cJ (c::r)):=by rw[xC,if_pos hc]
 unfold dQ readers jB
 rw[this]
 by_cases h:24<bM cJ (c::r)
 ·simp only[if_pos h]
 ·simp only[if_neg h]
theorem vP {c:UInt8}{r:aBs}(hc:cP c=false):xC (c::r)=.none:=by
 rw[xC,if_neg (by rw[hc];simp)]
theorem aA3 {p:UInt8→Bool}{c:UInt8}{r:aBs}(hc:p c=false):bM p (c::r)=0:=by
 unfold bM;rw[aDu,hc];rfl
theorem lJ {c:UInt8}{r:aBs}(hl:cP c=false)(hc:bU c=true):dQ (c::r)=if 10<bM bU (c::r)∨bM bU (c::r)<bM cJ (c::r) then .err 6 else .tok 2 ((c::r).take (bM bU (c::r))) (undec ((c::r).take (bM bU (c::r)))) (bM bU (c::r)):=by
 have h0:¬ bM bU (c::r)=0:=by have:=aA5 (r:=r) hc;omega
 unfold dQ readers jB
 rw[vP hl]
 simp only[jB,pK,if_neg h0]
 by_cases h:10<bM bU (c::r)∨bM bU (c::r)<bM cJ (c::r)
 ·simp only[if_pos h]
 ·simp only[if_neg h]
theorem xA {c:UInt8}{r:aBs}(hc:bU c=false):pK (c::r)=.none:=by
 rw[pK,if_pos (aA3 hc)]
theorem lI {c:UInt8}{r:aBs}(hl:cP c=false)(hd:bU c=false)(hc:c.toNat=34):dQ (c::r)=dX r [] 0:=by
 unfold dQ readers jB
 rw[vP hl]
 simp only[jB,xA hd,sB,if_pos hc]
 cases h:dX r [] 0 with
 | none=>exact absurd h (vG _ _ _)
 | _=>rfl
theorem gH {c:UInt8}{r:aBs}(hl:cP c=false)(hd:bU c=false)(hc:c.toNat≠34):dQ (c::r)=if sJ (c::r)=0 then .err 5 else .tok 4 ((c::r).take (sJ (c::r))) 0 (sJ (c::r)):=by
 unfold dQ readers jB
 rw[vP hl]
 simp only[jB,xA hd,sB,if_neg hc,tM]
 by_cases h:sJ (c::r)=0
 ·simp only[if_pos h]
 ·simp only[if_neg h]
theorem undec_snoc (l:aBs)(c:UInt8):undec (l++[c])=undec l*10+(c.toNat - 48):=by
 simp[undec,List.foldl_append]
theorem rN {c:UInt8}(h:bU c=true):cJ c=true:=by simp[cJ,h]
theorem undec_lt (l:aBs)(h:∀ c∈l,bU c=true):undec l<10 ^ l.length:=by
 have key:∀(r:aBs),(∀ c∈r,bU c=true)→undec r.reverse<10 ^ r.length:=by
  intro r
  induction r with
  | nil=>intro _;simp[undec]
  | cons c r ih =>
   intro h;have h1:=ih (fun d hd=>h d (by simp[hd]));have h2:=aAu (h c (by simp))
   rw[List.reverse_cons,undec_snoc,aDb,Nat.pow_succ]
   omega
 have:=key l.reverse (fun c hc=>h c (by simpa using hc))
 simpa using this
theorem readR_err {l:aBs}{e:Int}(h:dQ l=.err e):e=3∨e=5∨e=6∨e=7:=by
 cases l with
 | nil =>
  have:dQ []=.err 5:=rfl
  rw[this]at h
  cases h;omega
 | cons c r =>
  cases hl:cP c with
  | true =>
   rw[iS hl]at h
   split at h<;>cases h
   omega
  | false =>
   cases hd:bU c with
   | true =>
    rw[lJ hl hd]at h
    split at h<;>cases h
    omega
   | false =>
    by_cases h34:c.toNat=34
    ·rw[lI hl hd h34]at h
     have:=zG _ _ _ h
     omega
    ·rw[gH hl hd h34]at h
     split at h<;>cases h
     omega
theorem zF (l:aBs):dQ l≠.none:=by
 have key:∀ rs,jB rs l≠.none:=by
  intro rs
  induction rs with
  | nil=>simp[jB]
  | cons r rs ih =>
   rw[jB]
   split
   ·exact ih
   ·assumption
 exact key _
def consE (x:Tok):Except (Int×Nat) (List Tok)→Except (Int×Nat) (List Tok)
 | .error e=>.error e
 | .ok ts=>.ok (x::ts)
inductive LexR : aBs → Nat → Except (Int × Nat) (List Tok) → Prop
 | nil (i:Nat):LexR [] i (.ok [])
 | err {l:aBs} {i:Nat} {e:Int} (hl:l≠[]) (h:dQ l=.err e):LexR l i (.error (e,i))
 | tok {l:aBs} {i:Nat} {k n:Int} {x:aBs} {len:Nat} {r:Except (Int×Nat) (List Tok)} (hl:l≠[]) (h:dQ l=.tok k x n len)
   (hr:LexR ((l.drop len).drop (cH false (l.drop len))) (i+len+cH false (l.drop len)) r):LexR l i (consE ⟨k,x,n,i⟩ r)
def fJ (l:aBs)(i:Nat)(r:Except (Int×Nat) (List Tok)):Prop:=LexR (l.drop (cH false l)) (i+cH false l) r
theorem sY {p:UInt8→Bool}:∀ {l l':aBs}{n:Nat},n=bM p l→l'.take n=l.take n→(∀ c,l'[n]?=some c→l[n]?=some c∨p c=false)→bM p l'=n
 | l,l',n,hn,ht,hc=>by
  have hle:=nB p l;have hlen:n≤l'.length:=by
   have:=congrArg List.length ht
   simp at this
   omega
  refine rZ (fun c hcm=>?_) hlen (fun c hcn=>?_)
  ·rw[ht,hn]at hcm
   exact rY p l c hcm
  ·rcases hc c hcn with h|h
   ·have hs:∀(l:aBs) (c:UInt8),l[bM p l]?=some c→p c=false:=by
     intro l
     induction l with
     | nil=>intro c h;simp at h
     | cons a l ih =>
      intro c h;cases ha:p a with
      | false =>
       rw[aA3 ha]at h
       simp at h
       rw[← h];exact ha
      | true =>
       have:bM p (a::l)=bM p l+1:=by unfold bM;rw[aDu,ha];simp
       rw[this]at h
       exact ih c (by simpa using h)
    rw[hn]at h
    exact hs l c h
   ·exact h
theorem vH:∀(l acc:aBs)(m:Nat) {l':aBs}{k n:Int}{x:aBs}{len:Nat},dX l acc m=.tok k x n len→l'.take (len - m - 1)=l.take (len - m - 1)→dX l' acc m=.tok k x n len
 | [],acc,m,l',_,_,_,_,h,_=>by cases h
 | [c],acc,m,l',k,n,x,len,h,ht=>by
  have hlen:=nF _ _ _ h
  rw[dX]at h
  split at h
  ·rename_i hc
   split at h
   ·cases h
   ·rename_i ha
    injection h with e1 e2 e3 e4
    subst e4 e1 e2 e3
    rw[show m+2 - m - 1=1 by omega]at ht
    cases l' with
    | nil=>simp at ht
    | cons d r =>
     simp at ht
     subst ht;cases r with
     | nil=>rw[dX,if_pos hc,if_neg ha]
     | cons e r=>rw[dX,if_pos hc,if_neg ha]
  ·split at h<;>cases h
 | c::d::r,acc,m,l',k,n,x,len,h,ht=>by
  have hlen:=nF _ _ _ h
  rw[dX]at h
  cases l' with
  | nil =>
   exfalso
   rw[show len - m - 1=(len - m - 2)+1 by omega]at ht
   simp at ht
  | cons c' r' =>
   have hc':c'=c:=by
    rw[show len - m - 1=(len - m - 2)+1 by omega]at ht
    simp at ht
    exact ht.1
   subst hc';by_cases h34:c'.toNat=34
   ·rw[if_pos h34]at h
    split at h
    ·cases h
    ·rename_i ha
     injection h with e1 e2 e3 e4
     subst e4 e1 e2 e3;cases r' with
     | nil=>rw[dX,if_pos h34,if_neg ha]
     | cons e r=>rw[dX,if_pos h34,if_neg ha]
   ·rw[if_neg h34]at h
    by_cases h10:c'.toNat=10
    ·rw[if_pos h10]at h;cases h
    ·rw[if_neg h10]at h
     have hrest:r'.take (len - m - 2)=(d::r).take (len - m - 2):=by
      rw[show len - m - 1=(len - m - 2)+1 by omega]at ht
      simpa using ht
     by_cases h92:c'.toNat=92
     ·rw[if_pos h92]at h
      cases he:aAr d with
      | none=>rw[he]at h;cases h
      | some y =>
       rw[he]at h
       have hl2:=nF _ _ _ h
       rw[show len - m - 2=(len - m - 3)+1 by omega]at hrest
       cases r' with
       | nil=>simp at hrest
       | cons d' r'' =>
        simp at hrest
        obtain⟨rfl,hrest⟩:=hrest
        rw[dX,if_neg h34,if_neg h10,if_pos h92,he]
        exact vH r _ _ h (by rw[show len - (m+2) - 1=len - m - 3 by omega];exact hrest)
     ·rw[if_neg h92]at h
      have hl2:=nF _ _ _ h;have ih:=vH (d::r) _ _ h (l':=r') (by rw[show len - (m+1) - 1=len - m - 2 by omega];exact hrest);cases r' with
      | nil =>
       exfalso
       rw[show len - m - 2=(len - m - 3)+1 by omega]at hrest
       simp at hrest
      | cons e r3=>rw[dX,if_neg h34,if_neg h10,if_neg h92];exact ih
theorem uZ (c:UInt8)(r:aBs):sJ (c::r)=if (r[0]?=some 61∧(c=33∨c=60)) then 2 else if c∈xU then 1 else 0:=by
 have h0:(c::r)[0]?=some c:=rfl;have hs:=symN_at h0;have p1:=wT (t:=c::r) (i:=0) (a:=33) (b:=61);have p2:=wT (t:=c::r) (i:=0) (a:=60) (b:=61)
 simp only[List.drop_zero,lgZ,aDp,lgS,Option.some.injEq]at hs p1 p2
 rw[hs]
 by_cases h:r[0]?=some 61∧(c=33∨c=60)
 ·rw[if_pos h,if_pos]
  rcases h with ⟨h1,rfl|rfl⟩
  ·exact .inl (p1.2 ⟨rfl,h1⟩)
  ·exact .inr (p2.2 ⟨rfl,h1⟩)
 ·rw[if_neg h,if_neg]
  rintro(e|e)
  ·exact h ⟨(p1.1 e).2,.inl (p1.1 e).1⟩
  ·exact h ⟨(p2.1 e).2,.inr (p2.1 e).1⟩
theorem aA4 {p q:UInt8→Bool}(hpq:∀ c,p c=true→q c=true):∀(l:aBs),bM p l≤bM q l
 | []=>by simp[bM]
 | a::l=>by
  have ih:=aA4 hpq l;unfold bM at ih ⊢
  rw[aDu,aDu]
  cases hp:p a with
  | false=>simp
  | true=>rw[hpq a hp];simpa using ih
theorem readR_cong {l l':aBs}{k n:Int}{x:aBs}{len:Nat}(h:dQ l=.tok k x n len)(ht:l'.take len=l.take len)
  (hn:∀ c,l'[len]?=some c→l[len]?=some c∨(cJ c=false∧c≠61)):dQ l'=.tok k x n len:=by
 obtain⟨hl1,hl2⟩:=jT h
 cases l with
 | nil=>simp at hl2;omega
 | cons c r =>
  cases l' with
  | nil =>
   exfalso
   have:=congrArg List.length ht
   simp at this
   omega
  | cons c' r' =>
   obtain⟨rfl,htr⟩:c'=c∧r'.take (len - 1)=r.take (len - 1):=by
    rw[show len=(len - 1)+1 by omega]at ht
    simpa using ht
   have hni:∀ d,(c'::r')[len]?=some d→(c'::r)[len]?=some d∨cJ d=false:=fun d hd=>(hn d hd).imp id (·.1);cases hlet:cP c' with
   | true =>
    rw[iS hlet]at h ⊢
    split at h
    ·cases h
    ·rename_i h24
     injection h with e1 e2 e3 e4
     have hs:bM cJ (c'::r')=len:=sY e4.symm ht hni
     rw[hs,ht,← e1,← e2,← e3,e4,if_neg (by omega)]
   | false =>
    cases hdig:bU c' with
    | true =>
     rw[lJ hlet hdig]at h ⊢
     split at h
     ·cases h
     ·rename_i h10
      injection h with e1 e2 e3 e4
      have hm:=aA4 (p:=bU) (q:=cJ) (fun c h=>rN h) (c'::r);have hs:bM bU (c'::r')=len:=sY e4.symm ht (fun d hd=>(hni d hd).imp id fun hd=>by
       cases hh:bU d with
       | false=>rfl
       | true=>rw[rN hh]at hd;cases hd)
      have hs2:bM cJ (c'::r')=len:=sY (by omega) ht hni
      rw[hs,hs2,ht,← e1,← e2,← e3,e4,if_neg (by omega)]
    | false =>
     by_cases h34:c'.toNat=34
     ·rw[lI hlet hdig h34]at h ⊢
      exact vH _ _ _ h (by rw[Nat.sub_zero];exact htr)
     ·rw[gH hlet hdig h34]at h ⊢
      split at h
      ·cases h
      ·rename_i h0
       injection h with e1 e2 e3 e4
       have hs:sJ (c'::r')=len:=by
        rw[uZ]at e4 ⊢
        by_cases h2:r[0]?=some 61∧(c'=33∨c'=60)
        ·rw[if_pos h2]at e4
         subst e4
         rw[if_pos]
         refine⟨?_,h2.2⟩
         have a1:(r'.take 1)[0]?=r'[0]?:=by rw[aDL];rfl
         have a2:(r.take 1)[0]?=r[0]?:=by rw[aDL];rfl
         rw[← a1,htr,a2];exact h2.1
        ·rw[if_neg h2]at e4
         split at e4
         ·rename_i hm
          subst e4
          rw[if_neg,if_pos hm]
          rintro⟨h61,hc⟩
          have:=hn 61 (by simpa using h61)
          rcases this with h|h
          ·exact h2 ⟨by simpa using h,hc⟩
          ·exact h.2 rfl
         ·omega
       rw[hs,ht,← e1,← e2,← e3,e4,if_neg (by omega)]
theorem tok_gap {l:aBs}{k n:Int}{x:aBs}{len:Nat}(h:dQ l=.tok k x n len):cH false l=0:=by
 cases l with
 | nil=>rfl
 | cons c r =>
  have key:c.toNat≠10∧c.toNat≠35∧c.toNat≠32∧c.toNat≠9:=by
   cases hlet:cP c with
   | true =>
    simp only[cP,decide_eq_true_eq]at hlet
    omega
   | false =>
    cases hdig:bU c with
    | true =>
     simp only[bU,decide_eq_true_eq]at hdig
     omega
    | false =>
     by_cases h34:c.toNat=34
     ·omega
     ·rw[gH hlet hdig h34,uZ]at h
      have:c=33∨c=60∨c∈xU:=by
       by_cases h2:r[0]?=some 61∧(c=33∨c=60)
       ·rcases h2.2 with h|h
        ·exact .inl h
        ·exact .inr (.inl h)
       ·rw[if_neg h2]at h
        by_cases hm:c∈xU
        ·exact .inr (.inr hm)
        ·rw[if_neg hm]at h
         simp at h
      have hall:∀ d:UInt8,(d=33∨d=60∨d∈xU)→d.toNat≠10∧d.toNat≠35∧d.toNat≠32∧d.toNat≠9:=by
       intro d hd
       simp only[xU,aDl,List.not_mem_nil,or_false]at hd
       rcases hd with rfl|rfl|rfl|rfl|rfl|rfl|rfl|rfl|rfl|rfl|rfl|rfl|rfl|rfl|rfl|rfl<;>decide
      exact hall c this
  rw[cH,if_neg key.1,if_neg key.2.1,if_pos ⟨rfl,key.2.2⟩]
theorem gapF_nl (k:Bool)(s:aBs):cH k (10::s)=1+cH false s:=by rw[cH,if_pos (by decide)]
theorem gapF_blank (k:Bool)(s:aBs):cH k (32::s)=1+cH k s:=by
 rw[cH,if_neg (by decide),if_neg (by decide),if_neg (by rintro⟨_,h,_⟩;exact h (by decide))]
theorem fJ.inv_ok {l:aBs}{i:Nat}{ts:List Tok}(h:fJ l i (.ok ts)) :
  (ts=[]∧cH false l=l.length)∨∃ k x n len us,dQ (l.drop (cH false l))=.tok k x n len∧cH false l<l.length∧ts=⟨k,x,n,i+cH false l⟩::us∧fJ (l.drop (cH false l+len)) (i+cH false l+len) (.ok us):=by
 have hle:=pQ false l;unfold fJ at h;generalize hd:l.drop (cH false l)=d at h;generalize hr:(Except.ok ts:Except (Int×Nat) (List Tok))=r at h;cases h with
 | nil =>
  injection hr with hr
  have:=congrArg List.length hd
  simp at this
  exact .inl ⟨hr,by omega⟩
 | err _ _=>cases hr
 | @tok _ _ k n x len r' hl hR hrest =>
  right
  cases r' with
  | error e=>cases hr
  | ok us =>
   injection hr with hr
   have hlt:cH false l<l.length:=by
    have:d.length≠0:=fun e=>hl (aDy e)
    rw[← hd]at this
    simp at this
    omega
   refine⟨_,_,_,len,us,hR,hlt,hr,?_⟩
   unfold fJ
   rw[← hd]at hrest
   simp only[aDA]at hrest ⊢
   exact hrest
theorem fJ.all {l:aBs}(h:cH false l=l.length)(i:Nat):fJ l i (.ok []):=by
 unfold fJ
 rw[aDr (by omega)]
 exact .nil _
theorem fJ.stop {l:aBs}{i:Nat}{e:Int}(hlt:cH false l<l.length)(hR:dQ (l.drop (cH false l))=.err e):fJ l i (.error (e,i+cH false l)) :=
 LexR.err (fun h=>by have:=congrArg List.length h;simp at this;omega) hR
theorem fJ.step {l:aBs}{i:Nat}{k n:Int}{x:aBs}{len:Nat}{r:Except (Int×Nat) (List Tok)}(hlt:cH false l<l.length)(hR:dQ (l.drop (cH false l))=.tok k x n len)
  (hr:fJ (l.drop (cH false l+len)) (i+cH false l+len) r):fJ l i (consE ⟨k,x,n,i+cH false l⟩ r):=by
 refine LexR.tok (fun h=>by have:=congrArg List.length h;simp at this;omega) hR ?_;unfold fJ at hr
 simp only[aDA]at hr ⊢
 exact hr
theorem quoF_kind {l acc:aBs}{m:Nat}{k n:Int}{x:aBs}{len:Nat}(h:dX l acc m=.tok k x n len):k=3:=(tU _ _ _ h).1
theorem readR_text {l:aBs}{k n:Int}{x:aBs}{len:Nat}(h:dQ l=.tok k x n len)(hk:k≠3):x=l.take len:=by
 cases l with
 | nil=>cases h
 | cons c r =>
  cases hlet:cP c with
  | true =>
   rw[iS hlet]at h
   split at h<;>cases h
   rfl
  | false =>
   cases hdig:bU c with
   | true =>
    rw[lJ hlet hdig]at h
    split at h<;>cases h
    rfl
   | false =>
    by_cases h34:c.toNat=34
    ·rw[lI hlet hdig h34]at h
     exact absurd (quoF_kind h) hk
    ·rw[gH hlet hdig h34]at h
     split at h<;>cases h
     rfl
def Post {α:Type}(m:PM α)(φ:α→Prop):Prop:=∀ ts a r,m ts=.ok (a,r)→φ a
theorem fC {α:Type}{φ:α→Prop}{a:α}(h:φ a):Post (pure a:PM α) φ:=by
 intro ts x r e;cases e;exact h
theorem bN {α β:Type}{m:PM α}{f:α→PM β}{φ:β→Prop}(hf:∀ a,Post (f a) φ):Post (m >>= f) φ:=by
 intro ts b r h;cases hq:m ts with
 | error e=>rw[aCe hq]at h;cases h
 | ok p =>
  obtain⟨a,q⟩:=p
  rw[aCd hq]at h
  exact hf a _ _ _ h
theorem post_from {α β:Type}{m:PM α}{f:α→PM β}{ψ:α→Prop}{φ:β→Prop}(hm:Post m ψ)(hf:∀ a,ψ a→Post (f a) φ):Post (m >>= f) φ:=by
 intro ts b r h;cases hq:m ts with
 | error e=>rw[aCe hq]at h;cases h
 | ok p =>
  obtain⟨a,q⟩:=p
  rw[aCd hq]at h
  exact hf a (hm _ _ _ hq) _ _ _ h
theorem gO {α:Type}{p:Prop} [Decidable p] {m n:PM α}{φ:α→Prop}(hm:Post m φ)(hn:Post n φ):Post (if p then m else n) φ:=by
 split
 ·exact hm
 ·exact hn
def Kept (x y:It):Prop:=y.kind=x.kind∧y.name=x.name∧y.off=x.off
theorem xK (z:Nat)(x:It):Post (jG z x) (Kept x):=bN fun _=>bN fun _=>bN fun _=>bN fun _=>bN fun _=>fC ⟨rfl,rfl,rfl⟩
theorem kept_part (z:Nat)(k:Int)(x:It):Post (jU z k x) (Kept x):=by
 unfold jU;refine gO ?_ (gO ?_ (gO ?_ (gO ?_ (gO ?_ (gO ?_ (gO ?_ (gO ?_ (gO ?_ ?_))))))))
 ·exact bN fun _=>bN fun _=>bN fun _=>bN fun _=>fC ⟨rfl,rfl,rfl⟩
 ·exact bN fun _=>bN fun _=>fC ⟨rfl,rfl,rfl⟩
 ·exact bN fun _=>bN fun _=>bN fun _=>bN fun _=>gO (bN fun _=>fC ⟨rfl,rfl,rfl⟩) (gO (bN fun _=>bN fun _=>fC ⟨rfl,rfl,rfl⟩) (fC ⟨rfl,rfl,rfl⟩))
 ·exact bN fun _=>bN fun _=>bN fun _=>bN fun _=>bN fun _=>bN fun _=>fC ⟨rfl,rfl,rfl⟩
 ·exact bN fun _=>bN fun _=>bN fun _=>fC ⟨rfl,rfl,rfl⟩
 ·exact xK z x
 ·refine post_from (xK z x) fun y hy=>bN fun _=>bN fun _=>bN fun _=>gO (bN fun _=>fC ?_) (fC ?_)
  ·exact hy
  ·exact hy
 ·exact bN fun _=>bN fun _=>bN fun _=>fC ⟨rfl,rfl,rfl⟩
 ·exact bN fun _=>bN fun _=>fC ⟨rfl,rfl,rfl⟩
 ·exact bN fun _=>bN fun _=>fC ⟨rfl,rfl,rfl⟩
theorem Dec.lit (z:Nat):Dec (oK z) :=
 Dec.opt (Dec.bind (Dec.num z) fun _=>Dec.pure _) (Dec.opt (Dec.bind (Dec.num z) fun _=>Dec.pure _) (Dec.opt (Dec.pure _) (Dec.opt (Dec.pure _) (Dec.opt (Dec.pure _) (Dec.pure _)))))
theorem Dec.literal (z:Nat):Dec (dM z):=by
 intro ts a r h;cases ts with
 | nil=>cases h;exact aDg _
 | cons t q =>
  unfold dM at h;dsimp only at h;split at h
  ·cases h;simp
  ·split at h
   ·cases h;simp
   ·exact Dec.lit z _ _ _ h
theorem Dec.value (z:Nat):Dec (mX z):=Dec.bind (Dec.literal z) fun o=>by cases o<;>first|exact Dec.fail _ _|exact Dec.pure _
theorem Dec.side (z:Nat):Dec (nY z):=Dec.bind (Dec.literal z) fun o=>by
 cases o with
 | some v=>exact Dec.pure _
 | none=>exact Dec.bind (Dec.name z) fun _=>Dec.opt (Dec.bind (Dec.name z) fun _=>Dec.pure _) (Dec.pure _)
theorem Dec.cond (z:Nat):Dec (sR z) :=
 Dec.bind (Dec.side z) fun _=>Dec.bind (Dec.word _ _ _) fun _=>Dec.bind (Dec.side z) fun _=>Dec.opt (Dec.bind (Dec.num z) fun _=>Dec.pure _) (Dec.opt (Dec.bind (Dec.num z) fun _=>Dec.pure _) (Dec.pure _))
theorem Dec.column (z:Nat):Dec (lE z) :=
 Dec.bind (Dec.name z) fun _=>Dec.bind (Dec.word _ _ _) fun _=>Dec.opt (Dec.bind (Dec.value z) fun _=>Dec.pure _) (Dec.pure _)
theorem Dec.fixed (z:Nat):Dec (lY z):=Dec.bind (Dec.name z) fun _=>Dec.bind (Dec.need _ _) fun _=>Dec.bind (Dec.value z) fun _=>Dec.pure _
theorem Dec.var (z:Nat):Dec (yM z):=Dec.bind (Dec.name z) fun _=>Dec.bind (Dec.name z) fun _=>Dec.pure _
theorem Dec.term (z:Nat):Dec (mG z):=fun _ _ _ h=>by have:=yR h;omega
theorem Dec.listA {α:Type}{sep:aBs}{one:PM α}(h:Dec one):∀(n:Nat)(acc:List α),Dec (Go.Proofs.YtohlogbnpfofpaaGreatDoor.listA sep one n acc)
 | 0,_=>Dec.pure _
 | n+1,acc=>Dec.opt (Dec.bind h fun _=>Dec.listA h n _) (Dec.pure _)
theorem Dec.list {α:Type}{sep:aBs}{one:PM α}(h:Dec one):Dec (hO sep one):=Dec.bind h fun _ ts a r e=>Dec.listA h _ _ ts a r e
theorem Dec.names (z:Nat):Dec (nI z):=Dec.list (Dec.name z)
theorem Dec.namesU (z:Nat)(s:aBs):Dec (Go.Proofs.YtohlogbnpfofpaaGreatDoor.namesU z s):=by
 intro ts a r h;cases hb:bC [s] ts with
 | true=>rw[nH hb]at h;cases h;exact aDg _
 | false=>rw[kV hb]at h;exact Dec.names z _ _ _ h
theorem Dec.conds (z:Nat):Dec (mC z):=Dec.bind (Dec.need _ _) fun _=>Dec.list (Dec.cond z)
theorem Dec.place (z:Nat):Dec (kA z):=Dec.bind (Dec.name z) fun _=>Dec.bind (Dec.need _ _) fun _=>Dec.bind (Dec.name z) fun _=>Dec.pure _
theorem Dec.termsA (z:Nat):∀(n:Nat)(acc:List Trm),Dec (Go.Proofs.YtohlogbnpfofpaaGreatDoor.termsA z n acc)
 | 0,_=>Dec.pure _
 | n+1,acc=>by
  intro ts a r h;cases hb:bC [[125]] ts with
  | true=>rw[kQ hb]at h;cases h;exact aDg _
  | false=>rw[mS hb]at h;exact(Dec.bind (Dec.term z) fun _=>Dec.termsA z n _) _ _ _ h
theorem Dec.rest (z i off:Nat)(kids:List Ex):Dec (dZ z i off kids):=by
 match i with
 | 0=>exact Dec.bind (Dec.conds z) fun _=>Dec.pure _
 | 1=>exact Dec.bind (Dec.need _ _) fun _=>Dec.bind (Dec.namesU _ _) fun _=>Dec.pure _
 | 2=>exact Dec.pure _
 | 3=>exact Dec.pure _
 | 4=>exact Dec.pure _
 | 5=>exact Dec.bind (Dec.need _ _) fun _=>Dec.bind (Dec.name z) fun _=>Dec.bind (Dec.need _ _) fun _=>Dec.bind (Dec.name z) fun _=>Dec.pure _
 | 6=>exact Dec.bind (Dec.need _ _) fun _=>Dec.bind (Dec.namesU _ _) fun _=>Dec.bind (Dec.need _ _) fun _=>Dec.bind (Dec.word _ _ _) fun _=>Dec.bind (Dec.ifP (Dec.name z)) fun _=>Dec.bind (Dec.need _ _) fun _=>Dec.bind (Dec.name z) fun _=>Dec.pure _
 | n+7=>exact Dec.pure _
theorem Dec.expr (z:Nat):∀(n:Nat),Dec (bT z n)
 | 0=>Dec.fail z 3
 | n+1=>by
  intro ts a r h
  rw[bT]at h
  cases ho:gP ts with
  | none =>
   simp only[ho]at h
   exact(Dec.bind (Dec.name z) fun _=>Dec.pure _) _ _ _ h
  | some i =>
   simp only[ho]at h
   exact(Dec.bind (Dec.need _ _) fun _=>Dec.bind (Dec.expr z n) fun _=>Dec.bind (Dec.ifP (Dec.bind (Dec.need _ _) fun _=>Dec.bind (Dec.expr z n) fun _=>Dec.pure _)) fun _=>Dec.bind (Dec.rest _ _ _ _) fun _=>Dec.bind (Dec.need _ _) fun _=>Dec.pure _) _ _ _ h
theorem Dec.ite {α:Type}{p:Prop} [Decidable p] {m n:PM α}(hm:Dec m)(hn:Dec n):Dec (if p then m else n):=by
 split
 ·exact hm
 ·exact hn
theorem Dec.unique (z:Nat)(x:It):Dec (jG z x):=Dec.bind (Dec.need _ _) fun _=>Dec.bind (Dec.name z) fun _=>Dec.bind (Dec.need _ _) fun _=>Dec.bind (Dec.names z) fun _=>Dec.bind (Dec.need _ _) fun _=>Dec.pure _
theorem Dec.part (z:Nat)(k:Int)(x:It):Dec (jU z k x):=by
 unfold jU;refine Dec.ite ?_ (Dec.ite ?_ (Dec.ite ?_ (Dec.ite ?_ (Dec.ite ?_ (Dec.ite ?_ (Dec.ite ?_ (Dec.ite ?_ (Dec.ite ?_ ?_))))))))
 ·exact Dec.bind (Dec.need _ _) fun _=>Dec.bind (Dec.list (Dec.column z)) fun _=>Dec.bind (Dec.need _ _) fun _=>Dec.bind (Dec.names z) fun _=>Dec.pure _
 ·exact Dec.bind (Dec.need _ _) fun _=>Dec.bind (Dec.num z) fun _=>Dec.pure _
 ·exact Dec.bind (Dec.need _ _) fun _=>Dec.bind (Dec.place z) fun _=>Dec.bind (Dec.need _ _) fun _=>Dec.bind (Dec.word _ _ _) fun _=>Dec.ite (Dec.bind (Dec.num z) fun _=>Dec.pure _) (Dec.ite (Dec.bind (Dec.num z) fun _=>Dec.bind (Dec.num z) fun _=>Dec.pure _) (Dec.pure _))
 ·exact Dec.bind (Dec.need _ _) fun _=>Dec.bind (Dec.name z) fun _=>Dec.bind (Dec.need _ _) fun _=>Dec.bind (Dec.num z) fun _=>Dec.bind (Dec.need _ _) fun _=>Dec.bind (fun ts a r e=>Dec.termsA z _ _ ts a r e) fun _=>Dec.pure _
 ·exact Dec.bind (Dec.place z) fun _=>Dec.bind (Dec.need _ _) fun _=>Dec.bind (Dec.word _ _ _) fun _=>Dec.pure _
 ·exact Dec.unique z x
 ·exact Dec.bind (Dec.unique z x) fun _=>Dec.bind (Dec.need _ _) fun _=>Dec.bind (Dec.name z) fun _=>Dec.opt (Dec.bind (Dec.list (Dec.fixed z)) fun _=>Dec.pure _) (Dec.pure _)
 ·exact Dec.bind (Dec.place z) fun _=>Dec.bind (Dec.need _ _) fun _=>Dec.bind (Dec.place z) fun _=>Dec.pure _
 ·exact Dec.bind (Dec.list (Dec.var z)) fun _=>Dec.bind (Dec.conds z) fun _=>Dec.pure _
 ·exact Dec.bind (Dec.need _ _) fun _=>Dec.bind (Dec.expr z 12) fun _=>Dec.pure _
def TW (t:Tok):Prop:=t.kind=4→∀ c,t.text[0]?=some c→cP c=false
def TWs (ts:List Tok):Prop:=∀ t∈ts,TW t
theorem TWs.left {a b:List Tok}(h:TWs (a++b)):TWs a:=fun t ht=>h t (aDT _ ht)
theorem TWs.right {a b:List Tok}(h:TWs (a++b)):TWs b:=fun t ht=>h t (List.mem_append_right _ ht)
theorem TWs.append {a b:List Tok}(h:TWs a)(k:TWs b):TWs (a++b):=fun t ht=>(aDP.1 ht).elim (h t) (k t)
def LW (ts:List Tok):Prop:=TWs ts∧ts.Pairwise fun a b=>a.off≠b.off
theorem LW.right {a b:List Tok}(h:LW (a++b)):LW b:=⟨fun t ht=>h.1 t (List.mem_append_right _ ht),(List.pairwise_append.1 h.2).2.1⟩
theorem LW.left {a b:List Tok}(h:LW (a++b)):LW a:=⟨fun t ht=>h.1 t (aDT _ ht),(List.pairwise_append.1 h.2).1⟩
theorem LW.tail {t:Tok}{b:List Tok}(h:LW (t::b)):LW b:=LW.right (a:=[t]) h
theorem LW.same {p p' r r':List Tok}{t t':Tok}(h:LW (p++t::r))(e:p++t::r=p'++t'::r')(ho:t.off=t'.off):p=p'∧t=t'∧r=r':=by
 induction p generalizing p' with
 | nil =>
  cases p' with
  | nil=>simp at e;exact⟨rfl,e.1,e.2⟩
  | cons x p' =>
   simp only[lnA,lcA,List.cons.injEq]at e
   obtain⟨rfl,rfl⟩:=e
   have:=h.2
   simp only[lnA,aDS]at this
   exact absurd ho (this.1 t' (by simp))
 | cons y p ih =>
  cases p' with
  | nil =>
   simp only[lnA,lcA,List.cons.injEq]at e
   obtain⟨rfl,rfl⟩:=e
   have:=h.2
   simp only[lcA,aDS]at this
   exact absurd ho.symm (this.1 t (by simp))
  | cons x p' =>
   simp only[lcA,List.cons.injEq]at e
   obtain⟨rfl,e⟩:=e
   obtain⟨rfl,h2⟩:=ih (LW.tail h) e
   exact⟨rfl,h2⟩
theorem TWs.tail {t:Tok}{b:List Tok}(h:TWs (t::b)):TWs b:=fun x hx=>h x (aDU _ hx)
def yP (Q:Nat→Nat→Prop)(t t':Tok):Prop:=t.kind=t'.kind∧t.text=t'.text∧t.num=t'.num∧Q t.off t'.off
inductive TE (Q : Nat → Nat → Prop) : List Tok → List Tok → Prop
 | nil:TE Q [] []
 | cons {t t':Tok} {ts ts':List Tok}:yP Q t t'→TE Q ts ts'→TE Q (t::ts) (t'::ts')
def HE (Q:Nat→Nat→Prop):List Tok→List Tok→Prop
 | [],[]=>True
 | t::_,t'::_=>yP Q t t'
 | _,_=>False
section
variable {Q : Nat → Nat → Prop}
theorem TE.he {a b:List Tok}(h:TE Q a b):HE Q a b:=by
 cases h with
 | nil=>trivial
 | cons h _=>exact h
theorem TE.app {a a' b b':List Tok}(h:TE Q a a')(k:TE Q b b'):TE Q (a++b) (a'++b'):=by
 induction h with
 | nil=>exact k
 | cons h _ ih=>exact .cons h ih
theorem TE.split {a b c':List Tok}(h:TE Q (a++b) c'):∃ a' b',c'=a'++b'∧TE Q a a'∧TE Q b b':=by
 induction a generalizing c' with
 | nil=>exact⟨[],c',rfl,.nil,h⟩
 | cons t a ih =>
  cases h with
  | cons h1 h2 =>
   obtain⟨a',b',rfl,h3,h4⟩:=ih h2
   exact⟨_::a',b',rfl,.cons h1 h3,h4⟩
theorem HE.append {p p' r r':List Tok}(h:TE Q p p')(k:HE Q r r'):HE Q (p++r) (p'++r'):=by
 cases h with
 | nil=>exact k
 | cons h _=>exact h
theorem HE.cons {t t':Tok}{r r':List Tok}(h:yP Q t t'):HE Q (t::r) (t'::r'):=h
theorem HE.nil_left {r':List Tok}(h:HE Q [] r'):r'=[]:=by
 cases r' with
 | nil=>rfl
 | cons=>exact h.elim
theorem HE.cons_left {t:Tok}{r r':List Tok}(h:HE Q (t::r) r'):∃ t' q,r'=t'::q∧yP Q t t':=by
 cases r' with
 | nil=>exact h.elim
 | cons t' q=>exact⟨t',q,rfl,h⟩
theorem iZ {t t':Tok}(h:yP Q t t')(s:aBs):dF t s=dF t' s:=by
 obtain⟨h1,h2,_⟩:=h
 unfold dF
 rw[h1,h2]
theorem yX {r r':List Tok}(h:HE Q r r')(s:aBs):bC [s] r=bC [s] r':=by
 cases r with
 | nil=>rw[h.nil_left]
 | cons t r =>
  obtain⟨t',q,rfl,ht⟩:=h.cons_left
  simp only[bC,iZ ht]
structure Par {α β:Type} (Q:Nat→Nat→Prop) (R:α→β→Prop) (m:Nat→PM α) (m':Nat→PM β):Prop where
 ok:∀ z ts a r,LW ts→m z ts=.ok (a,r)→∃ p,ts=p++r∧∀ z' p' r',TWs p'→TWs r'→TE Q p p'→HE Q r r'→∃ a',m' z' (p'++r')=.ok (a',r')∧R a a'
 err:∀ z ts e o,LW ts→m z ts=.error (e,o) →
  (e=7∧o=z∧∀ z' ts',TWs ts'→TE Q ts ts'→m' z' ts'=.error (7,z')) ∨
  (e≠7∧∃ p t r,ts=p++t::r∧o=t.off∧∀ z' p' t' r',TWs p'→TW t'→TWs r'→TE Q p p'→yP Q t t'→m' z' (p'++t'::r')=.error (e,t'.off))
theorem bH {α β:Type}{R:α→β→Prop}{a:α}{b:β}(h:R a b):Par Q R (fun _=>(pure a:PM α)) (fun _=>(pure b:PM β)) where
 ok z ts a' r _ hm:=by
  cases hm
  refine⟨[],rfl,fun z' p' r' _ _ hp _=>?_⟩
  cases hp
  exact⟨b,rfl,h⟩
 err z ts e o _ hm:=by cases hm
class QT (Q : Nat → Nat → Prop) : Prop where
 tot:∀ n,∃ n',Q n n'
 zero:Q 0 0
instance:QT Eq:=⟨fun n=>⟨n,rfl⟩,rfl⟩
instance:QT fun _ _=>True:=⟨fun n=>⟨n,trivial⟩,trivial⟩
theorem TE.aCG [hq:QT Q]:∀ {a:List Tok},TWs a→∃ a',TE Q a a'∧TWs a'
 | [],_=>⟨[],.nil,fun _ h=>by cases h⟩
 | t::a,h=>by
  obtain⟨a',h1,h2⟩:=TE.aCG h.tail
  obtain⟨n,hn⟩:=hq.tot t.off
  refine⟨⟨t.kind,t.text,t.num,n⟩::a',.cons ⟨rfl,rfl,rfl,hn⟩ h1,fun x hx=>?_⟩
  rcases aDl.1 hx with rfl|hx
  ·exact h t (by simp)
  ·exact h2 x hx
theorem eG {α β γ δ:Type} [QT Q] {R:α→β→Prop}{S:γ→δ→Prop}{m:Nat→PM α}{m':Nat→PM β}{f:Nat→α→PM γ}{f':Nat→β→PM δ}(hm:Par Q R m m')(hf:∀ a b,R a b→Par Q S (fun z=>f z a) (fun z=>f' z b)) :
  Par Q S (fun z=>m z >>= f z) (fun z=>m' z >>= f' z) where
 ok z ts c r htw h:=by
  cases h1:m z ts with
  | error e=>rw[aCe h1]at h;cases h
  | ok x =>
   obtain⟨a,r1⟩:=x
   rw[aCd h1]at h
   obtain⟨p1,rfl,k1⟩:=hm.ok z ts a r1 htw h1
   obtain⟨b,hb⟩:∃ b,R a b:=by
    obtain⟨p',e1,w1⟩:=TE.aCG (Q:=Q) htw.left.1
    obtain⟨r',e2,w2⟩:=TE.aCG (Q:=Q) htw.right.1
    obtain⟨b,_,hb⟩:=k1 z p' r' w1 w2 e1 e2.he
    exact⟨b,hb⟩
   obtain⟨p2,rfl,_⟩:=(hf a b hb).ok z r1 c r htw.right h
   refine⟨p1++p2,by simp,fun z' p' r' hp' hr' hp hr=>?_⟩
   obtain⟨q1,q2,rfl,hq1,hq2⟩:=hp.split
   obtain⟨a',e1,ra⟩:=k1 z' q1 (q2++r') hp'.left (hp'.right.append hr') hq1 (HE.append hq2 hr)
   obtain⟨p3,e3,k3⟩:=(hf a a' ra).ok z _ c r htw.right h
   have:p3=p2:=(aDI e3).symm
   subst this
   obtain⟨c',e2,rc⟩:=k3 z' q2 r' hp'.right hr' hq2 hr
   exact⟨c',by rw[aC9,aCd e1,e2],rc⟩
 err z ts e o htw h:=by
  cases h1:m z ts with
  | error y =>
   rw[aCe h1]at h
   injection h with h
   subst h
   rcases hm.err z ts e o htw h1 with ⟨he,ho,k⟩|⟨he,p,t,r,hts,ho,k⟩
   ·exact .inl ⟨he,ho,fun z' ts' hw ht=>aCe (k z' ts' hw ht)⟩
   ·exact .inr ⟨he,p,t,r,hts,ho,fun z' p' t' r' a1 a2 a3 a4 a5=>aCe (k z' p' t' r' a1 a2 a3 a4 a5)⟩
  | ok x =>
   obtain⟨a,r1⟩:=x
   rw[aCd h1]at h
   obtain⟨p1,rfl,k1⟩:=hm.ok z ts a r1 htw h1
   obtain⟨b,hb⟩:∃ b,R a b:=by
    obtain⟨p',e1,w1⟩:=TE.aCG (Q:=Q) htw.left.1
    obtain⟨r',e2,w2⟩:=TE.aCG (Q:=Q) htw.right.1
    obtain⟨b,_,hb⟩:=k1 z p' r' w1 w2 e1 e2.he
    exact⟨b,hb⟩
   rcases(hf a b hb).err z r1 e o htw.right h with ⟨he,ho,_⟩|⟨he,p,t,r,rfl,ho,_⟩
   ·refine .inl ⟨he,ho,fun z' ts' hw ht=>?_⟩
    obtain⟨q1,q2,rfl,hq1,hq2⟩:=ht.split
    obtain⟨a',e1,ra⟩:=k1 z' q1 q2 hw.left hw.right hq1 hq2.he
    rw[aCd e1]
    rcases(hf a a' ra).err z r1 e o htw.right h with ⟨_,_,k⟩|⟨he',_⟩
    ·exact k z' q2 hw.right hq2
    ·exact absurd he he'
   ·refine .inr ⟨he,p1++p,t,r,by simp,ho,fun z' p' t' r' a1 a2 a3 a4 a5=>?_⟩
    obtain⟨q1,q2,rfl,hq1,hq2⟩:=a4.split
    obtain⟨a',e1,ra⟩:=k1 z' q1 (q2++t'::r') a1.left (a1.right.append (fun x hx=>(aDl.1 hx).elim (fun e=>e▸a2) (a3 x))) hq1 (HE.append hq2 (HE.cons a5))
    rw[aC9,aCd e1]
    rcases(hf a a' ra).err z _ e o htw.right h with ⟨he',_⟩|⟨_,p3,t3,r3,e3,ho3,k⟩
    ·exact absurd he' he
    ·obtain⟨rfl,rfl,rfl⟩:=htw.right.same e3 (ho.symm.trans ho3)
     exact k z' q2 t' r' a1.right a2 a3 hq2 a5
theorem uA {α β:Type}{R:α→β→Prop}(e:Int)(he:e≠7):Par Q R (fun z=>pZ z e) (fun z=>pZ z e) where
 ok z ts a r _ h:=by cases h
 err z ts e' o _ h:=by
  injection h with h
  cases ts with
  | nil =>
   injection h with h1 h2
   subst h1 h2;refine .inl ⟨rfl,rfl,fun z' ts' _ ht=>?_⟩;cases ht
   rfl
  | cons t r =>
   injection h with h1 h2
   subst h1 h2;refine .inr ⟨he,[],t,r,rfl,rfl,fun z' p' t' r' _ _ _ hp _=>?_⟩;cases hp
   rfl
theorem tY (s:aBs):Par Q Eq (fun _=>cM s) (fun _=>cM s) where
 ok z ts a r _ h:=by
  cases hb:bC [s] ts with
  | false =>
   rw[jZ hb]at h
   injection h with h
   injection h with h1 h2
   subst h1 h2
   refine⟨[],rfl,fun z' p' r' _ _ hp hr=>⟨false,?_,rfl⟩⟩
   cases hp
   exact jZ ((yX hr s).symm.trans hb)
  | true =>
   rw[kR hb]at h
   injection h with h
   injection h with h1 h2
   subst h1 h2;cases ts with
   | nil=>cases hb
   | cons t r =>
    refine⟨[t],rfl,fun z' p' r' _ _ hp hr=>⟨true,?_,rfl⟩⟩
    cases hp with
    | cons h1 h2 =>
     cases h2
     exact kR ((yX (HE.cons h1) s).symm.trans hb)
 err z ts e o _ h:=by
  unfold cM at h;split at h<;>cases h
theorem tZ (k:Int):Par Q (yP Q) (fun z=>fO z k) (fun z=>fO z k) where
 ok z ts a r _ h:=by
  cases ts with
  | nil=>cases h
  | cons t q =>
   unfold fO at h;simp only at h;split at h
   ·rename_i hkd
    injection h with h
    injection h with h1 h2
    subst h1 h2
    refine⟨[t],rfl,fun z' p' r' _ _ hp hr=>?_⟩
    cases hp with
    | @cons _ t' _ _ h1 h2 =>
     cases h2
     refine⟨t',?_,h1⟩
     unfold fO
     simp only[lcA,lnA]
     rw[if_pos (h1.1▸hkd)]
   ·cases h
 err z ts e o _ h:=by
  cases ts with
  | nil =>
   injection h with h
   injection h with h1 h2
   subst h1 h2;refine .inl ⟨rfl,rfl,fun z' ts' _ ht=>?_⟩;cases ht
   rfl
  | cons t q =>
   unfold fO at h;simp only at h;split at h
   ·cases h
   ·rename_i hkd
    injection h with h
    injection h with h1 h2
    subst h1 h2;refine .inr ⟨by decide,[],t,q,rfl,rfl,fun z' p' t' r' _ _ _ hp ht=>?_⟩;cases hp;unfold fO
    simp only[lnA]
    rw[if_neg (fun e=>hkd (ht.1.trans e))]
theorem eF [QT Q]:Par Q Eq (fun z=>cV z) (fun z=>cV z) :=
 eG (f:=fun _ t=>pure t.text) (f':=fun _ t=>pure t.text) (tZ 1) fun _ _ h=>bH h.2.1
theorem hG [QT Q]:Par Q Eq (fun z=>lU z) (fun z=>lU z) :=
 eG (f:=fun _ t=>pure t.num) (f':=fun _ t=>pure t.num) (tZ 2) fun _ _ h=>bH h.2.2.1
theorem eZ {α β:Type}{R:α→β→Prop}{m n:Nat→PM α}{m' n':Nat→PM β}{p:Prop} [Decidable p] (hm:Par Q R m m')(hn:Par Q R n n'):Par Q R (fun z=>if p then m z else n z) (fun z=>if p then m' z else n' z):=by
 by_cases h:p
 ·simp only[if_pos h];exact hm
 ·simp only[if_neg h];exact hn
structure Par0 {α β:Type} (R:α→β→Prop) (m:Nat→PM α) (m':Nat→PM β):Prop where
 ok:∀ z a r,m z []=.ok (a,r)→r=[]∧∀ z',∃ a',m' z' []=.ok (a',[])∧R a a'
 err:∀ z e o,m z []=.error (e,o)→e=7∧o=z∧∀ z',m' z' []=.error (7,z')
theorem LW.nil:LW []:=⟨(fun _ h=>by cases h),.nil⟩
theorem par_zero {α β:Type}{R:α→β→Prop}{m:Nat→PM α}{m':Nat→PM β}(h:Par Q R m m'):Par0 R m m' where
 ok z a r hm:=by
  obtain⟨p,e,k⟩:=h.ok z [] a r LW.nil hm
  obtain⟨rfl,rfl⟩:=List.append_eq_nil_iff.1 e.symm
  exact⟨rfl,fun z'=>k z' [] [] LW.nil.1 LW.nil.1 .nil trivial⟩
 err z e o hm:=by
  rcases h.err z [] e o LW.nil hm with ⟨he,ho,k⟩|⟨_,p,t,r,e1,_⟩
  ·exact⟨he,ho,fun z'=>k z' [] LW.nil.1 .nil⟩
  ·exact absurd e1.symm (by simp)
theorem par_head {α β:Type} [hq:QT Q] {R:α→β→Prop}{g:Option Tok→Nat→PM α}{g':Option Tok→Nat→PM β}(h0:Par0 R (g none) (g' none))(h1:∀ t t',yP Q t t'→Par Q R (g (some t)) (g' (some t'))) :
  Par Q R (fun z ts=>g ts.head? z ts) (fun z ts=>g' ts.head? z ts) where
 ok z ts a r htw h:=by
  cases ts with
  | nil =>
   obtain⟨rfl,k⟩:=h0.ok z a r h
   refine⟨[],rfl,fun z' p' r' a1 a2 a3 a4=>?_⟩
   cases a3
   obtain rfl:=a4.nil_left;exact k z'
  | cons t q =>
   obtain⟨n,hn⟩:=hq.tot t.off
   obtain⟨p,e,_⟩:=(h1 t ⟨t.kind,t.text,t.num,n⟩ ⟨rfl,rfl,rfl,hn⟩).ok z _ a r htw h
   refine⟨p,e,fun z' p' r' a1 a2 a3 a4=>?_⟩
   have hh:HE Q (t::q) (p'++r'):=by rw[e];exact HE.append a3 a4
   obtain⟨t',q',e',ht⟩:=hh.cons_left
   obtain⟨p1,e1,k⟩:=(h1 t t' ht).ok z _ a r htw h
   have:p1=p:=aDI (e1.symm.trans e)
   subst this
   obtain⟨a',ea,ra⟩:=k z' p' r' a1 a2 a3 a4
   refine⟨a',?_,ra⟩
   show g' (p'++r').head? z' (p'++r')=_
   rw[show(p'++r').head?=some t' by rw[e'];rfl]
   exact ea
 err z ts e o htw h:=by
  cases ts with
  | nil =>
   obtain⟨he,ho,k⟩:=h0.err z e o h
   refine .inl ⟨he,ho,fun z' ts' a1 a2=>?_⟩;cases a2;exact k z'
  | cons t q =>
   obtain⟨n,hn⟩:=hq.tot t.off
   rcases(h1 t ⟨t.kind,t.text,t.num,n⟩ ⟨rfl,rfl,rfl,hn⟩).err z _ e o htw h with ⟨he,ho,_⟩|⟨he,p,t1,r,e1,ho,_⟩
   ·refine .inl ⟨he,ho,fun z' ts' a1 a2=>?_⟩
    obtain⟨t',q',rfl,ht⟩:=a2.he.cons_left
    rcases(h1 t t' ht).err z _ e o htw h with ⟨_,_,k⟩|⟨he',_⟩
    ·exact k z' _ a1 a2
    ·exact absurd he he'
   ·refine .inr ⟨he,p,t1,r,e1,ho,fun z' p' t' r' a1 a2 a3 a4 a5=>?_⟩
    have hh:HE Q (t::q) (p'++t'::r'):=by rw[e1];exact HE.append a4 (HE.cons a5)
    obtain⟨t2,q',e',ht⟩:=hh.cons_left
    rcases(h1 t t2 ht).err z _ e o htw h with ⟨he',_⟩|⟨_,p3,t3,r3,e3,ho3,k⟩
    ·exact absurd he' he
    ·obtain⟨rfl,rfl,rfl⟩:=(e1▸htw:LW (p++t1::r)).same (e1.symm.trans e3) (ho.symm.trans ho3)
     have:=k z' p' t' r' a1 a2 a3 a4 a5
     show g' (p'++t'::r').head? z' (p'++t'::r')=_
     rw[show(p'++t'::r').head?=some t2 by rw[e'];rfl]
     exact this
def headB (s:aBs):Option Tok→Bool
 | none=>false
 | some t=>dF t s
theorem seesB_head (s:aBs)(ts:List Tok):bC [s] ts=headB s ts.head?:=by
 cases ts with
 | nil=>rfl
 | cons t r=>simp[bC,headB]
theorem par_sees {α β:Type} [QT Q] {R:α→β→Prop}{s:aBs}{m n:Nat→PM α}{m' n':Nat→PM β}(hm:Par Q R m m')(hn:Par Q R n n') :
  Par Q R (fun z ts=>if bC [s] ts=true then m z ts else n z ts) (fun z ts=>if bC [s] ts=true then m' z ts else n' z ts):=by
 have:=par_head (Q:=Q) (R:=R) (g:=fun o z ts=>if headB s o=true then m z ts else n z ts) (g':=fun o z ts=>if headB s o=true then m' z ts else n' z ts)
  (by simpa[headB] using (par_zero hn)) (fun t t' ht=>by
   show Par Q R (fun z ts=>if dF t s=true then m z ts else n z ts) (fun z ts=>if dF t' s=true then m' z ts else n' z ts)
   have e:=iZ ht s;by_cases hw:dF t' s=true
   ·simp only[if_pos hw,if_pos (e.trans hw)];exact hm
   ·simp only[if_neg hw,if_neg (fun k=>hw (e.symm.trans k))];exact hn)
 simpa only[seesB_head] using this
theorem par_need1 [QT Q] (s:aBs):Par Q Eq (fun z=>need1 z s) (fun z=>need1 z s) :=
 eG (f:=fun z b=>if b=true then pure () else pZ z 4) (f':=fun z b=>if b=true then pure () else pZ z 4) (tY s) fun a b h=>by
  subst h;exact eZ (bH rfl) (uA 4 (by decide))
theorem cE [QT Q]:∀(ss:List aBs),Par Q Eq (fun z=>aW z ss) (fun z=>aW z ss)
 | []=>bH rfl
 | s::r=>eG (f:=fun z _=>aW z r) (f':=fun z _=>aW z r) (par_need1 s) fun _ _ _=>cE r
theorem kB [QT Q]:∀(ss:List aBs)(i:Int),Par Q Eq (fun z=>eC z ss i) (fun z=>eC z ss i)
 | [],_=>uA 4 (by decide)
 | s::r,i=>eG (f:=fun z b=>if b=true then pure i else eC z r (i+1)) (f':=fun z b=>if b=true then pure i else eC z r (i+1)) (tY s) fun a b h=>by
  subst h;exact eZ (bH rfl) (kB r (i+1))
theorem yB [QT Q] {α:Type}{c:Bool}{m:Nat→PM α}{d:α}(h:Par Q Eq m m):Par Q Eq (fun z=>ifP c (m z) d) (fun z=>ifP c (m z) d):=by
 unfold ifP;exact eZ h (bH rfl)
theorem par_fuel {α β:Type}{R:α→β→Prop}{g:Nat→Nat→PM α}{g':Nat→Nat→PM β}(h:∀ n,Par Q R (g n) (g' n))(he:∀ z ts n m,ts.length<n→ts.length<m→g n z ts=g m z ts)(he':∀ z ts n m,ts.length<n→ts.length<m→g' n z ts=g' m z ts) :
  Par Q R (fun z ts=>g (ts.length+1) z ts) (fun z ts=>g' (ts.length+1) z ts) where
 ok z ts a r htw hm:=by
  obtain⟨p,e,k⟩:=(h (ts.length+1)).ok z ts a r htw hm
  refine⟨p,e,fun z' p' r' a1 a2 a3 a4=>?_⟩
  let N:=ts.length+(p'++r').length+1
  have hm':g N z ts=.ok (a,r):=(he z ts N (ts.length+1) (by omega) (by omega)).trans hm
  obtain⟨p1,e1,k1⟩:=(h N).ok z ts a r htw hm'
  have:p1=p:=aDI (e1.symm.trans e)
  subst this
  obtain⟨a',ea,ra⟩:=k1 z' p' r' a1 a2 a3 a4
  exact⟨a',(he' z' _ _ N (by omega) (by omega)).trans ea,ra⟩
 err z ts e o htw hm:=by
  rcases(h (ts.length+1)).err z ts e o htw hm with ⟨h1,h2,_⟩|⟨h1,p,t,r,e1,ho,_⟩
  ·refine .inl ⟨h1,h2,fun z' ts' a1 a2=>?_⟩
   let N:=ts.length+ts'.length+1
   have hm':g N z ts=.error (e,o):=(he z ts N (ts.length+1) (by omega) (by omega)).trans hm
   rcases(h N).err z ts e o htw hm' with ⟨_,_,k⟩|⟨h1',_⟩
   ·exact(he' z' _ _ N (by omega) (by omega)).trans (k z' ts' a1 a2)
   ·exact absurd h1 h1'
  ·refine .inr ⟨h1,p,t,r,e1,ho,fun z' p' t' r' a1 a2 a3 a4 a5=>?_⟩
   let N:=ts.length+(p'++t'::r').length+1
   have hm':g N z ts=.error (e,o):=(he z ts N (ts.length+1) (by omega) (by omega)).trans hm
   rcases(h N).err z ts e o htw hm' with ⟨h1',_⟩|⟨_,p3,t3,r3,e3,ho3,k⟩
   ·exact absurd h1' h1
   ·obtain⟨rfl,rfl,rfl⟩:=(e1▸htw:LW (p++t::r)).same (e1.symm.trans e3) (ho.symm.trans ho3)
    exact(he' z' _ _ N (by omega) (by omega)).trans (k z' p' t' r' a1 a2 a3 a4 a5)
theorem tB {α:Type}{sep:aBs}{one:PM α}(hd:Dec one):∀(n m:Nat)(acc:List α)(ts:List Tok),ts.length<n→ts.length<m→listA sep one n acc ts=listA sep one m acc ts
 | 0,_,_,_,h,_=>absurd h (Nat.not_lt_zero _)
 | _+1,0,_,_,_,h=>absurd h (Nat.not_lt_zero _)
 | n+1,m+1,acc,ts,h1,h2=>by
  cases hq:cM sep ts with
  | error e=>exact absurd hq (cU _ _ _)
  | ok x =>
   obtain⟨b,r⟩:=x
   cases b with
   | false=>rw[nJ hq,nJ hq]
   | true =>
    rw[kW hq,kW hq]
    have hl:=mY hq;cases h3:one r with
    | error e=>rw[aCe h3,aCe h3]
    | ok y =>
     obtain⟨a,q⟩:=y
     have:=hd _ _ _ h3
     rw[aCd h3,aCd h3]
     exact tB hd n m _ q (by omega) (by omega)
theorem aBe [QT Q] {α:Type}{sep:aBs}{one:Nat→PM α}(h:Par Q Eq one one):∀(n:Nat)(acc:List α),Par Q Eq (fun z=>listA sep (one z) n acc) (fun z=>listA sep (one z) n acc)
 | 0,_=>bH rfl
 | n+1,acc=>eG (f:=fun z b=>if b=true then one z >>= fun a=>listA sep (one z) n (acc++[a]) else pure acc) (f':=fun z b=>if b=true then one z >>= fun a=>listA sep (one z) n (acc++[a]) else pure acc) (tY sep) fun a b hab=>by
  subst hab;exact eZ (eG (f:=fun z a=>listA sep (one z) n (acc++[a])) (f':=fun z a=>listA sep (one z) n (acc++[a])) h fun x y hxy=>by subst hxy;exact aBe h n _) (bH rfl)
theorem qX [QT Q] {α:Type}{sep:aBs}{one:Nat→PM α}(h:Par Q Eq one one)(hd:∀ z,Dec (one z)):Par Q Eq (fun z=>hO sep (one z)) (fun z=>hO sep (one z)) :=
 eG (f:=fun z a ts=>listA sep (one z) (ts.length+1) [a] ts) (f':=fun z a ts=>listA sep (one z) (ts.length+1) [a] ts) h fun a b hab=>by
  subst hab;exact par_fuel (g:=fun n z=>listA sep (one z) n [a]) (g':=fun n z=>listA sep (one z) n [a]) (fun n=>aBe h n _) (fun z ts n m=>tB (hd z) n m _ ts) (fun z ts n m=>tB (hd z) n m _ ts)
theorem vK [QT Q]:Par Q Eq (fun z=>nI z) (fun z=>nI z):=qX eF fun z=>Dec.name z
theorem zK [QT Q] (s:aBs):Par Q Eq (fun z=>namesU z s) (fun z=>namesU z s) :=
 par_sees (s:=s) (m:=fun _=>pure []) (m':=fun _=>pure []) (bH rfl) vK
theorem jH [QT Q] {α β:Type}{R:α→β→Prop}(s:aBs) {m n:Nat→PM α}{m' n':Nat→PM β}(hm:Par Q R m m')(hn:Par Q R n n') :
  Par Q R (fun z=>cM s >>= fun b=>if b=true then m z else n z) (fun z=>cM s >>= fun b=>if b=true then m' z else n' z) :=
 eG (f:=fun z b=>if b=true then m z else n z) (f':=fun z b=>if b=true then m' z else n' z) (tY s) fun a b h=>by
  subst h;exact eZ hm hn
theorem aQ [QT Q] {α γ δ:Type}{S:γ→δ→Prop}{m m':Nat→PM α}{f:Nat→α→PM γ}{f':Nat→α→PM δ}(hm:Par Q Eq m m')(hf:∀ a,Par Q S (fun z=>f z a) (fun z=>f' z a)):Par Q S (fun z=>m z >>= f z) (fun z=>m' z >>= f' z) :=
 eG hm fun a b h=>by subst h;exact hf a
theorem par_lit [QT Q]:Par Q Eq (fun z=>oK z) (fun z=>oK z) :=
 jH _ (aQ hG fun _=>bH rfl) (jH _ (aQ hG fun _=>bH rfl) (jH _ (bH rfl) (jH _ (bH rfl) (jH _ (bH rfl) (bH rfl)))))
def litT (k:Int)(z:Nat):PM (Option Vl):=if k=3 then fO z 3 >>= fun t=>pure (some ⟨1,0,t.text⟩) else if k=2 then fO z 2 >>= fun t=>pure (some ⟨2,t.num,[]⟩) else oK z
def litG:Option Tok→Nat→PM (Option Vl)
 | none,_=>pure none
 | some t,z=>litT t.kind z
theorem aBZ (z:Nat)(ts:List Tok):dM z ts=litG ts.head? z ts:=by
 cases ts with
 | nil=>rfl
 | cons t r =>
  unfold dM litG litT;dsimp only[List.head?_cons];split
  ·rename_i h
   rw[aCd (show fO z 3 (t::r)=.ok (t,r) from if_pos h)]
   rfl
  ·split
   ·rename_i h
    rw[aCd (show fO z 2 (t::r)=.ok (t,r) from if_pos h)]
    rfl
   ·rfl
theorem wY [QT Q]:Par Q Eq (fun z=>dM z) (fun z=>dM z):=by
 have:=par_head (Q:=Q) (R:=Eq) (g:=litG) (g':=litG) (par_zero (Q:=Q) (bH rfl)) (fun t t' ht=>by
  show Par Q Eq (litT t.kind) (litT t'.kind)
  rw[← ht.1]
  unfold litT;exact eZ (eG (S:=Eq) (f:=fun _ (t:Tok)=>(pure (some ⟨1,0,t.text⟩):PM (Option Vl))) (f':=fun _ (t:Tok)=>(pure (some ⟨1,0,t.text⟩):PM (Option Vl))) (tZ 3) fun a b h=>bH (by rw[h.2.1]))
   (eZ (eG (S:=Eq) (f:=fun _ (t:Tok)=>(pure (some ⟨2,t.num,[]⟩):PM (Option Vl))) (f':=fun _ (t:Tok)=>(pure (some ⟨2,t.num,[]⟩):PM (Option Vl))) (tZ 2) fun a b h=>bH (by rw[h.2.2.1])) par_lit))
 have e:(fun z=>dM z)=fun z ts=>litG ts.head? z ts:=by funext z ts;exact aBZ z ts
 rw[e]
 exact this
def valT' (z:Nat):Option Vl→PM Vl
 | some v=>pure v
 | none=>pZ z 4
theorem aBc [QT Q]:Par Q Eq (fun z=>mX z) (fun z=>mX z):=by
 have e:(fun z=>mX z)=fun z=>dM z >>= valT' z:=by
  funext z
  unfold mX
  congr 1
 rw[e]
 refine aQ wY fun o=>?_;cases o with
 | some v=>exact bH rfl
 | none=>exact uA 4 (by decide)
def sideT (z:Nat):Option Vl→PM Opd
 | some v=>pure ⟨[],[],true,v⟩
 | none=>cV z >>= fun first=>cM [46] >>= fun b=>if b=true then cV z >>= fun a=>pure ⟨first,a,false,vl0⟩ else pure ⟨[],first,false,vl0⟩
theorem par_side [QT Q]:Par Q Eq (fun z=>nY z) (fun z=>nY z):=by
 have e:(fun z=>nY z)=fun z=>dM z >>= sideT z:=by
  funext z
  unfold nY
  congr 1
 rw[e]
 refine aQ wY fun o=>?_;cases o with
 | some v=>exact bH rfl
 | none=>exact aQ eF fun first=>jH _ (aQ eF fun _=>bH rfl) (bH rfl)
theorem par_cond [QT Q]:Par Q Eq (fun z=>sR z) (fun z=>sR z) :=
 aQ par_side fun _=>aQ (kB _ _) fun _=>aQ par_side fun _=>jH _ (aQ hG fun _=>bH rfl) (jH _ (aQ hG fun _=>bH rfl) (bH rfl))
theorem aBf [QT Q]:Par Q Eq (fun z=>mC z) (fun z=>mC z) :=
 aQ (cE _) fun _=>qX par_cond fun z=>Dec.cond z
theorem par_column [QT Q]:Par Q Eq (fun z=>lE z) (fun z=>lE z) :=
 aQ eF fun _=>aQ (kB _ _) fun _=>jH _ (aQ aBc fun _=>bH rfl) (bH rfl)
theorem par_term [QT Q]:Par Q Eq (fun z=>mG z) (fun z=>mG z) :=
 aQ eF fun _=>aQ (kB _ _) fun _=>aQ (yB hG) fun _=>aQ (cE _) fun _=>aQ hG fun _=>aQ (jH _ hG (bH rfl)) fun _ =>
  aQ (cE _) fun _=>aQ hG fun _=>aQ (jH _ hG (bH rfl)) fun _=>aQ (cE _) fun _=>bH rfl
theorem sC [QT Q]:Par Q Eq (fun z=>kA z) (fun z=>kA z) :=
 aQ eF fun _=>aQ (cE _) fun _=>aQ eF fun _=>bH rfl
theorem par_fixed [QT Q]:Par Q Eq (fun z=>lY z) (fun z=>lY z) :=
 aQ eF fun _=>aQ (cE _) fun _=>aQ aBc fun _=>bH rfl
theorem par_var [QT Q]:Par Q Eq (fun z=>yM z) (fun z=>yM z) :=
 aQ eF fun _=>aQ eF fun _=>bH rfl
theorem qJ:∀(z n m:Nat)(acc:List Trm)(ts:List Tok),ts.length<n→ts.length<m→termsA z n acc ts=termsA z m acc ts
 | _,0,_,_,_,h,_=>absurd h (Nat.not_lt_zero _)
 | _,_+1,0,_,_,_,h=>absurd h (Nat.not_lt_zero _)
 | z,n+1,m+1,acc,ts,h1,h2=>by
  cases hb:bC [[125]] ts with
  | true=>rw[kQ hb,kQ hb]
  | false =>
   rw[mS hb,mS hb]
   cases h3:mG z ts with
   | error e=>rw[aCe h3,aCe h3]
   | ok y =>
    obtain⟨a,q⟩:=y
    have:=yR h3
    rw[aCd h3,aCd h3]
    exact qJ z n m _ q (by omega) (by omega)
theorem zJ [QT Q]:∀(n:Nat)(acc:List Trm),Par Q Eq (fun z=>termsA z n acc) (fun z=>termsA z n acc)
 | 0,_=>bH rfl
 | n+1,acc=>by
  have e:(fun z=>termsA z (n+1) acc)=fun z ts=>if bC [[125]] ts=true then(pure acc:PM (List Trm)) ts else(mG z >>= fun a=>termsA z n (acc++[a])) ts:=by
   funext z ts
   cases hb:bC [[125]] ts with
   | true=>rw[kQ hb];rfl
   | false=>rw[mS hb];rfl
  rw[e]
  exact par_sees (m:=fun _=>pure acc) (m':=fun _=>pure acc) (n:=fun z=>mG z >>= fun a=>termsA z n (acc++[a])) (n':=fun z=>mG z >>= fun a=>termsA z n (acc++[a])) (bH rfl) (aQ par_term fun _=>zJ n _)
theorem par_terms [QT Q]:Par Q Eq (fun z ts=>termsA z (ts.length+1) [] ts) (fun z ts=>termsA z (ts.length+1) [] ts) :=
 par_fuel (g:=fun n z=>termsA z n []) (g':=fun n z=>termsA z n []) (fun n=>zJ n _) (fun z ts n m=>qJ z n m _ ts) (fun z ts n m=>qJ z n m _ ts)
end
mutual
def ExQ (Q:Nat→Nat→Prop):Ex→Ex→Prop
 | .mk k t ks c n a s g o,.mk k' t' ks' c' n' a' s' g' o'=>k=k'∧t=t'∧c=c'∧n=n'∧a=a'∧s=s'∧g=g'∧Q o o'∧tJ Q ks ks'
def tJ (Q:Nat→Nat→Prop):List Ex→List Ex→Prop
 | [],[]=>True
 | x::xs,y::ys=>ExQ Q x y∧tJ Q xs ys
 | _,_=>False
end
def uX (Q:Nat→Nat→Prop)(x y:It):Prop:=∃ o' e',y={ x with off:=o',expr:=e' }∧Q x.off o'∧ExQ Q x.expr e'
section
variable {Q : Nat → Nat → Prop}
theorem uB {t t':Tok}{r r':List Tok}(h:yP Q t t')(k:HE Q r r'):gP (t::r)=gP (t'::r'):=by
 unfold gP
 congr 1
 funext i
 simp only[bC.eq_3]
 rw[iZ h]
 have:=yX k [40]
 rw[this]
theorem zO {ts:List Tok}{i:Nat}(h:gP ts=some i):i<7∧∃ t t2 q,ts=t::t2::q∧dF t (cG.getD i [])=true∧dF t2 [40]=true:=by
 unfold gP at h;have h1:=List.find?_some h;have h2:=List.mem_of_find?_eq_some h
 refine⟨by simpa using h2,?_⟩
 cases ts with
 | nil=>cases h1
 | cons t r =>
  cases r with
  | nil=>simp[bC]at h1
  | cons t2 q =>
   refine⟨t,t2,q,rfl,?_⟩
   simpa[bC,aC8] using h1
theorem zN:∀ i,i<7→∃ c,(cG.getD i [])[0]?=some c∧cP c=true
 | 0,_=>⟨_,rfl,by decide⟩
 | 1,_=>⟨_,rfl,by decide⟩
 | 2,_=>⟨_,rfl,by decide⟩
 | 3,_=>⟨_,rfl,by decide⟩
 | 4,_=>⟨_,rfl,by decide⟩
 | 5,_=>⟨_,rfl,by decide⟩
 | 6,_=>⟨_,rfl,by decide⟩
 | n+7,h=>absurd h (by omega)
theorem opIdx_kind {t:Tok}{r:List Tok}(ht:TW t)(hk:t.kind≠1):gP (t::r)=none:=by
 cases h:gP (t::r) with
 | none=>rfl
 | some i =>
  obtain⟨hi,t1,t2,q,e,hw,_⟩:=zO h
  cases e
  obtain⟨hx,hk'⟩:=of_decide_eq_true hw
  obtain⟨c,hc,hl⟩:=zN i hi
  rcases hk' with hk'|hk'
  ·exact absurd hk' hk
  ·rw[← hx]at hc
   rw[ht hk' c hc]at hl
   cases hl
def wB (i n off:Nat)(z:Nat):PM Ex :=
 bT z n >>= fun a=>ifP (sH i) (aW z [[44]] >>= fun _=>bT z n >>= fun b=>pure [a,b]) [a] >>= fun kids=>dZ z i off kids >>= fun x=>aW z [[41]] >>= fun _=>pure x
theorem sE {z n:Nat}{ts:List Tok}(h:gP ts=none):bT z (n+1) ts=(cV z >>= fun t=>(pure (mQ (bF ts) t):PM Ex)) ts:=by
 rw[bT]
 simp only[h]
theorem rL {z n:Nat}{t t2:Tok}{q:List Tok}{i:Nat}(h:gP (t::t2::q)=some i)(h1:dF t (cG.getD i [])=true)(h2:dF t2 [40]=true):bT z (n+1) (t::t2::q)=wB i n t.off z q:=by
 rw[bT]
 simp only[h]
 have e1:need1 z (cG.getD i []) (t::t2::q)=.ok ((),t2::q):=oV z (kR (ts:=t::t2::q) (by show(dF t _&&true)=true;rw[h1];rfl));have e2:need1 z [40] (t2::q)=.ok ((),q):=oV z (kR (ts:=t2::q) (by show(dF t2 _&&true)=true;rw[h2];rfl));have e:aW z [cG.getD i [],[40]] (t::t2::q)=.ok ((),q):=by
  show(need1 z _ >>= fun _=>need1 z _ >>= fun _=>pure ()) _=_
  rw[aCd e1,aCd e2]
  rfl
 show(aW z [cG.getD i [],[40]] >>= fun _=>wB i n t.off z) _=_
 rw[aCd e]
theorem tJ.one {a b:Ex}(h:ExQ Q a b):tJ Q [a] [b]:=⟨h,trivial⟩
theorem par_rest [QT Q] (i:Nat) {off off':Nat}(ho:Q off off') {kids kids':List Ex}(hk:tJ Q kids kids'):Par Q (ExQ Q) (fun z=>dZ z i off kids) (fun z=>dZ z i off' kids'):=by
 have mk:∀(k:Int) (t:aBs) (c:List Cnd) (n:List aBs) (a s:aBs) (g:Int),ExQ Q (.mk k t kids c n a s g off) (.mk k t kids' c n a s g off'):=fun k t c n a s g=>by
  rw[ExQ];exact⟨rfl,rfl,rfl,rfl,rfl,rfl,rfl,ho,hk⟩
 match i with
 | 0=>exact aQ aBf fun _=>bH (mk _ _ _ _ _ _ _)
 | 1=>exact aQ (cE _) fun _=>aQ (zK _) fun _=>bH (mk _ _ _ _ _ _ _)
 | 2=>exact bH (mk _ _ _ _ _ _ _)
 | 3=>exact bH (mk _ _ _ _ _ _ _)
 | 4=>exact bH (mk _ _ _ _ _ _ _)
 | 5=>exact aQ (cE _) fun _=>aQ eF fun _=>aQ (cE _) fun _=>aQ eF fun _=>bH (mk _ _ _ _ _ _ _)
 | 6=>exact aQ (cE _) fun _=>aQ (zK _) fun _=>aQ (cE _) fun _=>aQ (kB _ _) fun _=>aQ (yB eF) fun _=>aQ (cE _) fun _=>aQ eF fun _=>bH (mk _ _ _ _ _ _ _)
 | n+7=>exact bH (mk _ _ _ _ _ _ _)
theorem par_tail [QT Q] {i n:Nat}(ih:Par Q (ExQ Q) (fun z=>bT z n) (fun z=>bT z n)) {off off':Nat}(ho:Q off off'):Par Q (ExQ Q) (fun z=>wB i n off z) (fun z=>wB i n off' z):=by
 refine eG (f:=fun z a=>ifP (sH i) (aW z [[44]] >>= fun _=>bT z n >>= fun b=>pure [a,b]) [a] >>= fun kids=>dZ z i off kids >>= fun x=>aW z [[41]] >>= fun _=>pure x)
  (f':=fun z a=>ifP (sH i) (aW z [[44]] >>= fun _=>bT z n >>= fun b=>pure [a,b]) [a] >>= fun kids=>dZ z i off' kids >>= fun x=>aW z [[41]] >>= fun _=>pure x) ih fun a b hab=>?_
 refine eG (R:=tJ Q) (f:=fun z kids=>dZ z i off kids >>= fun x=>aW z [[41]] >>= fun _=>pure x) (f':=fun z kids=>dZ z i off' kids >>= fun x=>aW z [[41]] >>= fun _=>pure x) ?_ fun ks ks' hk=>?_
 ·unfold ifP
  refine eZ (aQ (cE _) fun _=>eG (f:=fun z x=>pure [a,x]) (f':=fun z x=>pure [b,x]) ih fun x y hxy=>bH ⟨hab,hxy,trivial⟩) (bH (tJ.one hab))
 ·exact eG (f:=fun z x=>aW z [[41]] >>= fun _=>pure x) (f':=fun z x=>aW z [[41]] >>= fun _=>pure x) (par_rest i ho hk) fun _ _ hxy=>aQ (cE _) fun _=>bH hxy
theorem nameP_is {z:Nat}{ts:List Tok}{a:aBs}{r:List Tok}(h:cV z ts=.ok (a,r)):∃ t,ts=t::r∧t.kind=1∧a=t.text:=by
 unfold cV at h;cases hq:fO z 1 ts with
 | error e=>rw[aCe hq]at h;cases h
 | ok p =>
  obtain⟨t,q⟩:=p
  rw[aCd hq]at h
  cases h
  cases ts with
  | nil=>cases hq
  | cons x w =>
   unfold fO at hq;dsimp only at hq;split at hq
   ·cases hq
    rename_i hk
    exact⟨t,rfl,hk,rfl⟩
   ·cases hq
theorem nameP_of {z:Nat}{t:Tok}{r:List Tok}(h:t.kind=1):cV z (t::r)=.ok (t.text,r):=aCd (show fO z 1 (t::r)=.ok (t,r) from if_pos h)
theorem aBk {z:Nat}{t:Tok}{r:List Tok}(h:t.kind≠1):cV z (t::r)=.error (4,t.off):=aCe (show fO z 1 (t::r)=.error (4,t.off) from if_neg h)
theorem par_expr [QT Q]:∀(n:Nat),Par Q (ExQ Q) (fun z=>bT z n) (fun z=>bT z n)
 | 0=>uA 3 (by decide)
 | n+1=>by
  have hT:∀ i {off off':Nat},Q off off'→Par Q (ExQ Q) (fun z=>wB i n off z) (fun z=>wB i n off' z):=fun i _ _ ho=>par_tail (par_expr n) ho;have part:∀ o,∃ o',Q o o':=QT.tot
  constructor
  ·intro z ts a r htw h
   change bT z (n+1) ts=.ok (a,r) at h
   show ∃ p,ts=p++r∧∀ z' p' r',TWs p'→TWs r'→TE Q p p'→HE Q r r'→∃ a',bT z' (n+1) (p'++r')=.ok (a',r')∧ExQ Q a a'
   cases ho:gP ts with
   | none =>
    rw[sE ho]at h
    cases hq:cV z ts with
    | error e=>rw[aCe hq]at h;cases h
    | ok x =>
     obtain⟨nm,q⟩:=x
     obtain⟨t,rfl,hk,rfl⟩:=nameP_is hq
     rw[aCd hq]at h
     cases h
     refine⟨[t],rfl,fun z' p' r' a1 a2 a3 a4=>?_⟩
     cases a3 with
     | @cons _ t' _ _ h1 h2 =>
      cases h2
      refine⟨mQ t'.off t.text,?_,?_⟩
      ·rw[lcA,lnA,sE ((uB h1 a4).symm.trans ho),aCd (nameP_of (h1.1▸hk)),← h1.2.1]
       rfl
      ·unfold mQ
       rw[ExQ]
       exact⟨rfl,rfl,rfl,rfl,rfl,rfl,rfl,h1.2.2.2,trivial⟩
   | some i =>
    obtain⟨_,t,t2,q,rfl,w1,w2⟩:=zO ho
    rw[rL ho w1 w2]at h
    obtain⟨o',hoo⟩:=part t.off
    obtain⟨p,rfl,_⟩:=(hT i hoo).ok z q a r htw.tail.tail h
    refine⟨t::t2::p,rfl,fun z' p' r' a1 a2 a3 a4=>?_⟩
    cases a3 with
    | @cons _ t' _ _ h1 h2=>cases h2 with
     | @cons _ t2' _ p' h3 h4 =>
      obtain⟨p1,e1,k⟩:=(hT i h1.2.2.2).ok z _ a r htw.tail.tail h
      have:p1=p:=aDI e1.symm
      subst this
      obtain⟨a',ea,ra⟩:=k z' p' r' a1.tail.tail a2 h4 a4
      refine⟨a',?_,ra⟩
      rw[lcA,lcA,rL ((uB h1 (HE.cons h3)).symm.trans ho) ((iZ h1 _).symm.trans w1) ((iZ h3 _).symm.trans w2)]
      exact ea
  ·intro z ts e o htw h
   change bT z (n+1) ts=.error (e,o) at h
   show(e=7∧o=z∧∀ z' ts',TWs ts'→TE Q ts ts'→bT z' (n+1) ts'=.error (7,z')) ∨
    (e≠7∧∃ p t r,ts=p++t::r∧o=t.off∧∀ z' p' t' r',TWs p'→TW t'→TWs r'→TE Q p p'→yP Q t t'→bT z' (n+1) (p'++t'::r')=.error (e,t'.off))
   cases ho:gP ts with
   | none =>
    rw[sE ho]at h
    cases ts with
    | nil =>
     have:(e,o)=((7:Int),z):=by
      have h':(Except.error ((7:Int),z):Except (Int×Nat) (Ex×List Tok))=.error (e,o):=h
      injection h' with h';exact h'.symm
     cases this
     refine .inl ⟨rfl,rfl,fun z' ts' _ ht=>?_⟩;cases ht
     rfl
    | cons t q =>
     by_cases hk:t.kind=1
     ·rw[aCd (nameP_of hk)]at h;cases h
     ·rw[aCe (aBk hk)]at h
      cases h
      refine .inr ⟨by decide,[],t,q,rfl,rfl,fun z' p' t' r' _ ht _ hp hq=>?_⟩;cases hp;have hk':t'.kind≠1:=fun e=>hk (hq.1.trans e)
      rw[lnA,sE (opIdx_kind ht hk'),aCe (aBk hk')]
   | some i =>
    obtain⟨_,t,t2,q,rfl,w1,w2⟩:=zO ho
    rw[rL ho w1 w2]at h
    obtain⟨o',hoo⟩:=part t.off
    rcases(hT i hoo).err z q e o htw.tail.tail h with ⟨he,hz,_⟩|⟨he,p,t3,r,rfl,hz,_⟩
    ·refine .inl ⟨he,hz,fun z' ts' a1 a3=>?_⟩
     cases a3 with
     | cons h1 h2=>cases h2 with
      | cons h3 h4 =>
       rcases(hT i h1.2.2.2).err z q e o htw.tail.tail h with ⟨_,_,k⟩|⟨he',_⟩
       ·rw[rL ((uB h1 (HE.cons h3)).symm.trans ho) ((iZ h1 _).symm.trans w1) ((iZ h3 _).symm.trans w2)]
        exact k z' _ a1.tail.tail h4
       ·exact absurd he he'
    ·refine .inr ⟨he,t::t2::p,t3,r,rfl,hz,fun z' p' t' r' a1 a2 a3 a4 a5=>?_⟩
     cases a4 with
     | cons h1 h2=>cases h2 with
      | cons h3 h4 =>
       rcases(hT i h1.2.2.2).err z _ e o htw.tail.tail h with ⟨he',_⟩|⟨_,p5,t5,r5,e5,ho5,k⟩
       ·exact absurd he' he
       ·obtain⟨rfl,rfl,rfl⟩:=htw.tail.tail.same e5 (hz.symm.trans ho5)
        rw[lcA,lcA,rL ((uB h1 (HE.cons h3)).symm.trans ho) ((iZ h1 _).symm.trans w1) ((iZ h3 _).symm.trans w2)]
        exact k z' _ t' r' a1.tail.tail a2 a3 h4 a5
theorem uX.same {x:It}{x':It}(h:uX Q x x')(f:It→It)(hf:∀ o e,f { x with off:=o,expr:=e }={ f x with off:=o,expr:=e })(ho:(f x).off=x.off)(he:(f x).expr=x.expr):uX Q (f x) (f x'):=by
 obtain⟨o',e',rfl,h1,h2⟩:=h
 exact⟨o',e',hf _ _,ho▸h1,he▸h2⟩
theorem fM {x x':It}(h:uX Q x x')(f:It→It)(hf:∀ o e,f { x with off:=o,expr:=e }={ f x with off:=o,expr:=e })(ho:(f x).off=x.off)(he:(f x).expr=x.expr):Par Q (uX Q) (fun _=>pure (f x)) (fun _=>pure (f x')):=bH (h.same f hf ho he)
variable [QT Q] {x x' : It} (h : uX Q x x')
include h
theorem par_tableI:Par Q (uX Q) (fun z=>yS z x) (fun z=>yS z x') :=
 aQ (cE _) fun _=>aQ (qX par_column fun z=>Dec.column z) fun c=>aQ (cE _) fun _=>aQ vK fun l =>
  fM h (fun x=>{ x with cols:=c,names:=l }) (fun _ _=>rfl) rfl rfl
theorem par_sourceI:Par Q (uX Q) (fun z=>tO z x) (fun z=>tO z x') :=
 aQ (cE _) fun _=>aQ hG fun n=>fM h (fun x=>{ x with n:=n }) (fun _ _=>rfl) rfl rfl
theorem par_blockI:Par Q (uX Q) (fun z=>aAE z x) (fun z=>aAE z x') :=
 aQ (cE _) fun _=>aQ sC fun p=>aQ (cE _) fun _=>aQ (kB _ _) fun b=>eZ
  (aQ hG fun n=>fM h (fun x=>{ x with table:=p.1,attr:=p.2,by_:=b,n:=n }) (fun _ _=>rfl) rfl rfl)
  (eZ (aQ hG fun n=>aQ hG fun m=>fM h (fun x=>{ x with table:=p.1,attr:=p.2,by_:=b,n:=n,m:=m }) (fun _ _=>rfl) rfl rfl)
   (fM h (fun x=>{ x with table:=p.1,attr:=p.2,by_:=b }) (fun _ _=>rfl) rfl rfl))
theorem par_matchI:Par Q (uX Q) (fun z=>zT z x) (fun z=>zT z x') :=
 aQ (cE _) fun _=>aQ eF fun t=>aQ (cE _) fun _=>aQ hG fun n=>aQ (cE _) fun _=>aQ par_terms fun l =>
  fM h (fun x=>{ x with table:=t,n:=n,terms:=l }) (fun _ _=>rfl) rfl rfl
theorem par_keepI:Par Q (uX Q) (fun z=>keepP z x) (fun z=>keepP z x') :=
 aQ sC fun p=>aQ (cE _) fun _=>aQ (kB _ _) fun b=>fM h (fun x=>{ x with table:=p.1,attr:=p.2,by_:=b }) (fun _ _=>rfl) rfl rfl
theorem wX:Par Q (uX Q) (fun z=>jG z x) (fun z=>jG z x') :=
 aQ (cE _) fun _=>aQ eF fun t=>aQ (cE _) fun _=>aQ vK fun l=>aQ (cE _) fun _=>fM h (fun x=>{ x with table:=t,names:=l }) (fun _ _=>rfl) rfl rfl
theorem par_dependI:Par Q (uX Q) (fun z=>uO z x) (fun z=>uO z x') :=
 eG (f:=fun z y=>aW z [[116,111]] >>= fun _=>cV z >>= fun a=>cM [119,104,101,114,101] >>= fun b=>if b=true then hO [44] (lY z) >>= fun f=>pure { y with attr:=a,fixed:=f } else pure { y with attr:=a })
  (f':=fun z y=>aW z [[116,111]] >>= fun _=>cV z >>= fun a=>cM [119,104,101,114,101] >>= fun b=>if b=true then hO [44] (lY z) >>= fun f=>pure { y with attr:=a,fixed:=f } else pure { y with attr:=a })
  (wX h) fun y y' hy=>aQ (cE _) fun _=>aQ eF fun a=>jH _ (aQ (qX par_fixed fun z=>Dec.fixed z) fun f=>fM hy (fun x=>{ x with attr:=a,fixed:=f }) (fun _ _=>rfl) rfl rfl)
   (fM hy (fun x=>{ x with attr:=a }) (fun _ _=>rfl) rfl rfl)
theorem aBY:Par Q (uX Q) (fun z=>rH z x) (fun z=>rH z x') :=
 aQ sC fun p=>aQ (cE _) fun _=>aQ sC fun q=>fM h (fun x=>{ x with table:=p.1,attr:=p.2,other:=q.1,oattr:=q.2 }) (fun _ _=>rfl) rfl rfl
theorem par_denyI:Par Q (uX Q) (fun z=>denyP z x) (fun z=>denyP z x') :=
 aQ (qX par_var fun z=>Dec.var z) fun v=>aQ aBf fun c=>fM h (fun x=>{ x with vars:=v,conds:=c }) (fun _ _=>rfl) rfl rfl
theorem par_queryI:Par Q (uX Q) (fun z=>zH z x) (fun z=>zH z x') :=
 aQ (cE _) fun _=>eG (f:=fun z e=>pure { x with expr:=e }) (f':=fun z e=>pure { x' with expr:=e }) (par_expr 12) fun a b hab=>bH (by
  obtain⟨o',e',rfl,h1,h2⟩:=h
  exact⟨o',b,rfl,h1,hab⟩)
theorem aBd (k:Int):Par Q (uX Q) (fun z=>jU z k x) (fun z=>jU z k x'):=by
 unfold jU;exact eZ (par_tableI h) (eZ (par_sourceI h) (eZ (par_blockI h) (eZ (par_matchI h) (eZ (par_keepI h) (eZ (wX h) (eZ (par_dependI h) (eZ (aBY h) (eZ (par_denyI h) (par_queryI h)))))))))
end
end Go.Proofs.YtohlogbnpfofpaaGreatDoor
namespace Go.Proofs.YtohlogbnpfofpaaGreatDoor
open Go
def aCb (Q:QQ)(ops:Array Oper):Prop:=∀(i:Nat)(o:Oper)(d:Tmp),ops[i]?=some o→o.dst=some d→∀ c s v h,Q (.panic c) (s.set d v) h→Q (.panic c) s h
def dstsIn (PD:List Nat)(ops:Array Oper):Bool:=ops.toList.all fun o=>match o.dst with|some d=>mem PD d|none=>true
theorem aCb.of {Q:QQ}{ops:Array Oper}(PD:List Nat)(hd:dstsIn PD ops=true)(hp:∀ d,mem PD d=true→∀ c s v h,Q (.panic c) (s.set d v) h→Q (.panic c) s h):aCb Q ops:=by
 intro i o d hi ho c s v h hq;have hm:o∈ops.toList:=by
  have:ops.toList[i]?=some o:=by simpa using hi
  exact aC7 this
 have:=aDh.1 hd o hm
 rw[ho]at this
 exact hp d this c s v h hq
theorem aB0 {Q:QQ}{ops:Array Oper}{w0:World}{ds:List Deferred}{i:Nat}{o:Oper}(hp:aCb Q ops)(hi:ops[i]?=some o)(v:Value):∀ c a w,lift w0 ds Q (.panic c) (Act.put a o.dst v) w→lift w0 ds Q (.panic c) a w:=by
 rintro c a w ⟨s,ha,hs,hq⟩;cases hd:o.dst with
 | none=>rw[hd]at ha;exact⟨s,ha,hs,hq⟩
 | some d =>
  rw[hd]at ha
  have hds:a.defers=ds:=by
   have:(a.put (some d) v).defers=ds:=by rw[ha];rfl
   exact this
  obtain⟨tm,df⟩:=a
  simp only at hds;subst hds;have e:s=tm.toList.set d v:=by
   have:=congrArg Act.tmps ha
   simp[Act.put,act]at this
   have:=congrArg Array.toList this
   simpa using this.symm
  subst e
  exact⟨tm.toList,by simp[act],hs,hp i o d hi hd c _ v _ hq⟩
theorem qM {l:aVs}{d n:Nat}{v:Value}(h:d≠n):sget (l.set d v) n=sget l n:=by
 rw[← dE,← dE,aDw,aDw,aDM h]
section
variable {P : Program} {ops : Array Oper} {Q : QQ} {w0 : World} {ds : List Deferred} {st0 stR tails : List Nat} {E : Heap → Heap → Prop} {A : Addr → Prop}
theorem step_skipP {listed:Array Bool}{i n:Nat}{o:Oper}{s:aVs}{w:World}(hE0:∀ h,E h h)(hp:aCb Q ops)(hsel:Region.noSelect ops=true)
  (hi:ops[i]?=some o) (hw:Region.wanted o (yielded ops (act s ds).tmps)=false) (hcl:Closed ops listed)
  (hok:(bif mem st0 i||mem stR i then(Region.ready .any ops listed).contains i&&Region.free .any ops listed i else(Region.ready .any ops listed) == [i])=true)
  (ih:iR E P ops (lift w0 ds Q) (fun j=>!mem tails j) n (listed.setIfInBounds i true) ((act s ds).put o.dst undef) w) :
  iR E P ops (lift w0 ds Q) (fun j=>!mem tails j) (n+1) listed (act s ds) w:=by
 cases hc:(mem st0 i||mem stR i) with
 | true =>
  rw[hc]at hok
  simp only[cond_true,aC8]at hok
  exact kO hi (Region.noSelect_spec hsel) (aB0 hp hi _) hE0 (by simp) (.inl rfl) n listed _ w hcl (Region.free_spec hi hok.2) (by simpa using hok.1) (.inr ⟨hw,rfl⟩) (by simp) ih
 | false =>
  rw[hc]at hok
  simp only[cond_false,beq_iff_eq]at hok
  refine⟨fun h=>(by rw[h]at hok;cases hok),fun j hj=>?_⟩
  rw[hok]at hj
  simp only[aDd]at hj;subst hj
  unfold wpOp
  simp only[hi,hw,aDe,if_false]
  exact⟨fun _=>hE0 _,ih⟩
theorem step_runP {listed:Array Bool}{i n:Nat}{dst:Option Tmp}{op:Op}{ty:TypeId}{pos:String}{after:Array Edge}{guard:Option (Nat×Bool)}{D:List Nat}{s:aVs}{w:World}{K:KK}
  (hE0:∀ h,E h h) (hEA:∀ h h' a v,E h h'→A a→aY h a=some v→aY h' a=some v) (hp:aCb Q ops) (hsel:Region.noSelect ops=true) (htails:lC ops stR tails=true)
  (hi:ops[i]?=some ⟨dst,op,ty,pos,after,guard⟩) (hw:Region.wanted ⟨dst,op,ty,pos,after,guard⟩ (yielded ops (act s ds).tmps)=true) (hcl:Closed ops listed) (hs:Same w0 w)
  (hok:(bif mem st0 i||mem stR i then(Region.ready .any ops listed).contains i&&Region.free .any ops listed i else(Region.ready .any ops listed) == [i])=true)
  (hv:oP E A P st0 stR tails i op ty D s w.heap K Q)
  (ih:∀ v l w',Same w0 w'→K v l w'.heap→iR E P ops (lift w0 ds Q) (fun j=>!mem tails j) n (listed.setIfInBounds i true) ((act s ds).put dst v) w') :
  iR E P ops (lift w0 ds Q) (fun j=>!mem tails j) (n+1) listed (act s ds) w:=by
 have still:(mem st0 i||mem stR i)=true→(mem stR i=false→vopS true P op ty D s w.heap K)→(mem stR i=true→StillVCA A P op ty s w.heap K)→iR E P ops (lift w0 ds Q) (fun j=>!mem tails j) (n+1) listed (act s ds) w:=by
  intro hc hv0 hvR
  rw[hc]at hok
  simp only[cond_true,aC8]at hok
  cases hm:mem stR i with
  | false =>
   obtain⟨v,l,reads,hre,hr,hrun,hk⟩:=(mV (hv0 hm)).ex
   have:=hre rfl
   subst this;exact kO (oi:=⟨dst,op,ty,pos,after,guard⟩) (v:=v) (reads:=[]) hi (Region.noSelect_spec hsel) (aB0 hp hi _) hE0 (by simp) (.inl rfl) n listed _ w hcl (Region.free_spec hi hok.2) (by simpa using hok.1) (.inl ⟨hw,fun w hw'=>by rw[eO,dP];exact hrun w hw'⟩) (fun r hm=>hr r hm) (ih v l w hs hk)
  | true =>
   obtain⟨v,l,reads,hr,hA,hrun,hk⟩:=(hvR hm).ex
   refine kO (oi:=⟨dst,op,ty,pos,after,guard⟩) (v:=v) (reads:=reads) hi (Region.noSelect_spec hsel) (aB0 hp hi _) hE0 (fun h h' he r hr' hc=>hEA h h' r.1 r.2 he (hA r hr') hc) ?_ n listed _ w hcl (Region.free_spec hi hok.2) (by simpa using hok.1) (.inl ⟨hw,fun w hw'=>by rw[eO,dP];exact hrun w hw'⟩) (fun r hm=>hr r hm) (ih v l w hs hk)
   right
   intro j hne hf;have hjt:j∈tails:=by rw[← mem_iff];simpa using hf
   have:=aDh.1 (aDh.1 htails j hjt) i ((mem_iff _ _).1 hm)
   simp only[aDR,beq_iff_eq]at this
   rcases this with h|h
   ·exact absurd h.symm hne
   ·simpa using h
 unfold oP at hv;cases h0:mem st0 i with
 | true =>
  rw[h0]at hv
  refine still (by simp[h0]) (fun _=>hv) (fun _=>?_)
  exact(mV hv).toA
 | false =>
  rw[h0]at hv
  simp only[cond_false]at hv
  cases hR:mem stR i with
  | true=>rw[hR]at hv;exact still (by simp[hR]) (fun h=>by rw[hR]at h;cases h) (fun _=>wL hv)
  | false =>
   rw[hR]at hv
   simp only[cond_false]at hv
   rw[h0,hR]at hok
   simp only[Bool.or_false,cond_false,beq_iff_eq]at hok
   have fin:∀ K':KK,(∀ v l h',K' v l h'→(mem tails i=false→E w.heap h')∧K v l h')→vop P op ty D s w.heap K' Q→iR E P ops (lift w0 ds Q) (fun j=>!mem tails j) (n+1) listed (act s ds) w:=by
    intro K' hK' hv'
    refine⟨fun h=>(by rw[h]at hok;cases hok),fun j hj=>?_⟩
    rw[hok]at hj
    simp only[aDd]at hj;subst hj
    unfold wpOp
    simp only[hi,hw,if_true]
    exact .inl ((oO hv').run w rfl ds dst pos after guard _ _
     (fun v l w' hw' hk=>⟨fun hf=>(hK' v l _ hk).1 (by simpa using hf),ih v l w' (hs.trans hw') (hK' v l _ hk).2⟩)
     (fun c w' hw' hq=>⟨s,rfl,hs.trans hw',hq⟩))
   cases ht:mem tails i with
   | true=>rw[ht]at hv;exact fin K (fun v l h' hk=>⟨fun h=>(by rw[ht]at h;cases h),hk⟩) hv
   | false=>rw[ht]at hv;exact fin _ (fun v l h' hk=>⟨fun _=>hk.1,hk.2⟩) hv
theorem wJ (hE0:∀ h,E h h)(hEA:∀ h h' a v,E h h'→A a→aY h a=some v→aY h' a=some v)(hp:aCb Q ops)(hsel:Region.noSelect ops=true)(htails:lC ops stR tails=true) :
  ∀(ord:List Nat) (D:List Nat) (s:aVs) (w:World) (listed:Array Bool),Same w0 w→Closed ops listed→qZ ops st0 stR ord listed=true→nX E A P ops.toList st0 stR tails ord D s w.heap Q →
   iR E P ops (lift w0 ds Q) (fun j=>!mem tails j) ord.length listed (act s ds) w
 | [],D,s,w,listed,hs,_,hok,hv=>⟨by simpa[qZ] using hok,s,rfl,hs,hv⟩
 | i::rest,D,s,w,listed,hs,hcl,hok,hv=>by
  simp only[qZ,aC8]at hok
  obtain⟨hok,hrest⟩:=hok
  have hready:i∈Region.ready .any ops listed:=by
   cases hc:(mem st0 i||mem stR i) with
   | true=>rw[hc]at hok;simp only[cond_true,aC8]at hok;simpa using hok.1
   | false=>rw[hc]at hok;simp only[cond_false,beq_iff_eq]at hok;rw[hok];simp
  have hcl':=hcl.set hready;have goOn:∀ D s (w:World),Same w0 w→nX E A P ops.toList st0 stR tails rest D s w.heap Q→iR E P ops (lift w0 ds Q) (fun j=>!mem tails j) rest.length (listed.setIfInBounds i true) (act s ds) w :=
   fun D s w hs hv=>wJ hE0 hEA hp hsel htails rest D s w _ hs hcl' hrest hv
  simp only[yK,jY]at hv
  cases ho:xY ops.toList i with
  | none=>simp[ho]at hv
  | some o =>
   have hi:ops[i]?=some o:=by rw[← ho,← uC];simp
   obtain⟨dst,op,ty,pos,after,guard⟩:=o
   have run:∀ D D' s,Region.wanted ⟨dst,op,ty,pos,after,guard⟩ (yielded ops (act s ds).tmps)=true →
     oP E A P st0 stR tails i op ty D s w.heap (fun v l h'=>dL s dst v fun s'=>nX E A P ops.toList st0 stR tails rest (fK D' dst l) s' h' Q) Q →
     iR E P ops (lift w0 ds Q) (fun j=>!mem tails j) (rest.length+1) listed (act s ds) w:=fun D D' s hw hv =>
    step_runP hE0 hEA hp hsel htails hi hw hcl hs hok hv fun v l w' hs' hk=>by rw[iP];rw[fW]at hk;exact goOn _ _ _ hs' hk
   have skip:∀ D s,Region.wanted ⟨dst,op,ty,pos,after,guard⟩ (yielded ops (act s ds).tmps)=false →
     (dL s dst undef fun s'=>nX E A P ops.toList st0 stR tails rest D s' w.heap Q) →
     iR E P ops (lift w0 ds Q) (fun j=>!mem tails j) (rest.length+1) listed (act s ds) w:=fun D s hw hk =>
    step_skipP hE0 hp hsel hi hw hcl hok (by rw[iP];rw[fW]at hk;exact goOn _ _ _ hs hk)
   cases guard with
   | none=>simp only[ho]at hv;exact run _ _ _ (by simp[Region.wanted]) hv
   | some gw =>
    obtain⟨j,want⟩:=gw
    simp only[ho]at hv
    cases hd:mJ ops.toList j with
    | none=>simp[hd]at hv
    | some g =>
     simp only[hd]at hv
     cases hm:mem D g with
     | true =>
      simp only[hm]at hv
      split at hv
      ·rename_i hg
       have hy:=dV (ds:=ds) hd hg;cases want with
       | true=>exact run _ _ _ (by simp[Region.wanted,hy]) hv
       | false=>exact skip _ _ (by simp[Region.wanted,hy]) hv
      ·rename_i hg
       have hy:=dV (ds:=ds) hd hg;cases want with
       | false=>exact run _ _ _ (by simp[Region.wanted,hy]) hv
       | true=>exact skip _ _ (by simp[Region.wanted,hy]) hv
      ·rename_i h1 h2
       have hy:=eP (ds:=ds) (s:=s) hd (fun t e=>match t,e with|true,e=>h1 e|false,e=>h2 e);exact skip _ _ (by simp[Region.wanted,hy]) hv
     | false =>
      simp only[hm]at hv
      split at hv
      ·rename_i t hg
       have hy:=dV (ds:=ds) hd hg;cases t with
       | true =>
        have hv:=hv.y rfl
        rw[fD,gS s g _ hg]at hv
        cases want with
        | true=>exact run _ _ _ (by simp[Region.wanted,hy]) hv
        | false=>exact skip _ _ (by simp[Region.wanted,hy]) hv
       | false =>
        have hv:=hv.n rfl
        rw[fD,gS s g _ hg]at hv
        cases want with
        | false=>exact run _ _ _ (by simp[Region.wanted,hy]) hv
        | true=>exact skip _ _ (by simp[Region.wanted,hy]) hv
      ·rename_i h1
       have hy:=eP (ds:=ds) (s:=s) hd (fun t e=>h1 t e);exact skip _ _ (by simp[Region.wanted,hy]) hv
theorem DrawVC.introP {id:Nat}{s:aVs}{h:Heap}(E:Heap→Heap→Prop)(A:Addr→Prop)(hE0:∀ h,E h h)(hEA:∀ h h' a v,E h h'→A a→aY h a=some v→aY h' a=some v)
  (st0 stR tails ord:List Nat) (hm:P.follows .mixedOrders=true) (hok:rM ops st0 stR tails ord=true) (hlen:ord.length=ops.size)
  (hp:aCb Q ops) (hv:nX E A P ops.toList st0 stR tails ord [] s h Q):DrawVC P id ops s h Q where
 wp w0 w ds hw hs:=by
  subst hw
  simp only[rM,aC8]at hok
  refine wp_region_any hm (tL (E:=E) (fl:=fun j=>!mem tails j) _ _ _ _ ?_);have hcl:Closed ops (Array.replicate ops.size false):=by
   intro j hj
   exfalso
   by_cases hlt:j<ops.size<;>simp[hlt]at hj
  have:=wJ (P:=P) (w0:=w0) (ds:=ds) (E:=E) (A:=A) hE0 hEA hp hok.1.1 hok.1.2 ord [] s { w with drawn:=w.drawn+1 } _ (hs.trans ⟨rfl,rfl,rfl,by simp⟩) hcl hok.2 hv
  rw[hlen]at this
  exact this
theorem DrawVC.introBP {id:Nat}{s:aVs}{h:Heap}(b:Nat)
  (st0 stR tails ord:List Nat) (hm:P.follows .mixedOrders=true) (hok:rM ops st0 stR tails ord=true) (hlen:ord.length=ops.size)
  (hp:aCb Q ops) (hv:nX (fun h h'=>h'[b]?=h[b]?) (fun a=>a.block=b) P ops.toList st0 stR tails ord [] s h Q):DrawVC P id ops s h Q :=
 DrawVC.introP (fun h h'=>h'[b]?=h[b]?) (fun a=>a.block=b) (fun _=>rfl) (fun h h' a v he ha hc=>by subst ha;rw[gL he];exact hc) st0 stR tails ord hm hok hlen hp hv
end
def panQ (I:List PanicEntry→aVs→Heap→Prop)(Q:QQ):QQ:=fun e s h =>
 match e with
 | .panic c=>I c s h
 | e=>Q e s h
theorem panQ_le {I:List PanicEntry→aVs→Heap→Prop}{Q:QQ}(hI:∀ c s h,I c s h→Q (.panic c) s h)(e:Exit)(s:aVs)(h:Heap)(hq:panQ I Q e s h):Q e s h:=by
 cases e<;>first|exact hI _ _ _ hq|exact hq
theorem DeferVC.closureP {P:Program}{fn:Func}{id g t:Nat}{rest:Code}{R:Ending→Heap→Prop}{s:aVs}{h:Heap}{caps:List Operand}{ty ty':TypeId}{pos pos':String}{after after':Array Edge}{tys:Array TypeId}(I:List PanicEntry→aVs→Heap→Prop)(ht:t<s.length)
  (hk:aAS s caps fun cap=>(∀ c s h,I c s h→LeaveVC P fn ⟨.fn (.func g) ⟨cap⟩,#[]⟩ (.panicking c) s h R)∧nA s t (.func (.func g) ⟨[]⟩ ⟨cap⟩) fun s1=>vcode P rest (panQ I (ngQ (aAa P fn ⟨.fn (.func g) ⟨cap⟩,#[]⟩ R))) s1 h) :
  DeferVC P fn id #[⟨some t,.makeFunc (.func g) ⟨[]⟩ ⟨caps⟩,ty,pos,after,none⟩,⟨none,.defer ⟨.value (.tmp t),⟨[]⟩,tys⟩,ty',pos',after',none⟩] rest R s h:=by
 refine DeferVC.closure ht ?_
 simp only[pR,fD]at hk ⊢
 exact mW rest (panQ_le hk.1) _ _ hk.2
def mapI (r:Nat)(es:List MapEntry)(clock:Nat):Item where
 fp x:=x=r
 sat h:=h[r]?=some (.map es.toArray clock)
 loc _ _ e:=fun k=>(e r rfl).trans k
section
variable {P : Program} {ty : TypeId} {s : aVs} {h0 : Base} {h : Heap} {L : List Item} {K : KK} {Q : QQ}
theorem RunVC.makeMap {t:TypeId}(o:Own h0 L h)(hk:∀ r h',pY L (mapI r [] 0) fun L'=>Own h0 L' h'→K (.map (some r)) false h'):RunVC P (.makeMap t none) ty s h K Q :=
 .of fun w hw=>by
  subst hw
  refine⟨.map (some w.heap.size),false,{ w with heap:=w.heap.push (.map #[] 0) },by simp[execOp,Instr.makeMap,newObj,Sem.run],⟨rfl,rfl,rfl,by simp⟩,?_⟩
  have:=hk w.heap.size (w.heap.push (.map #[] 0))
  rw[lL]at this
  refine this (o.callR ⟨⟨by simp,fun b hb=>by rw[Array.getElem?_push,if_neg (by omega)]⟩,?_,?_,?_,aDK _ _⟩)
  ·intro x hx;simp only[aDd]at hx;subst hx
   simp[mapI]
  ·intro x hx b hb;simp only[aDd]at hx;subst hx;cases hb;exact aDg _
  ·intro x hx b hb;simp only[aDd]at hx;subst hx;cases hb;simp
theorem getMap {w:World}{r:Nat}{es:Array MapEntry}{clock:Nat}(hb:w.heap[r]?=some (.map es clock)):(getObj r).run P w=.ok (.map es clock) w:=by simp[getObj,Sem.run,hb]
theorem setMap {w:World}{r:Nat}{es:Array MapEntry}{clock:Nat}(o:Obj)(hb:w.heap[r]?=some (.map es clock)):(setObj r o).run P w=.ok () { w with heap:=w.heap.setIfInBounds r o }:=by simp[setObj,Sem.run,hb]
theorem tS {kt:TypeId}{ik:IntKind}{n:Int}{b:Bool}(hkt:P.underlying kt=some (.int ik))(w:World):∀ k,k≠0→(Instr.checkKey b k kt (.int ik n)).run P w=.ok () w
 | 0,h=>absurd rfl h
 | k+1,_=>by simp[Instr.checkKey,run_underlying hkt]
theorem wS {kt:TypeId}{ik:IntKind}{n:Int}{es:List MapEntry}{r:Option (Nat×Value)}(hkt:P.underlying kt=some (.int ik))(hf:Instr.findNow (.int ik) (.int ik n) es 0=some r)(w:World):(Instr.findKey kt (.int ik n) es).run P w=.ok r w:=by
 simp[Instr.findKey,run_underlying hkt,hf]
theorem RunVC.insert {t kt et:TypeId}{m k x:Operand}{ik:IntKind}{n:Int}{r:Nat}{es:List MapEntry}{c:Nat}(o:Own h0 L h)(i:Nat)(hi:L[i]?=some (mapI r es c))(hu:P.underlying t=some (.map kt et))(hkt:P.underlying kt=some (.int ik))
  (hm:ev s m=.map (some r)) (hn:ev s k=.int ik n) (hf:Instr.findNow (.int ik) (.int ik n) es 0=some none)
  (hK:∀ h',pX L i (mapI r (es++[⟨.int ik n,ev s x,c⟩]) (c+1)) fun L'=>Own h0 L' h'→K undef false h'):RunVC P (.insert t m k x) ty s h K Q :=
 .of_skip fun w hw=>by
  subst hw;have hb:w.heap[r]?=some (.map es.toArray c):=o.sat _ (aC7 hi)
  refine⟨{ w with heap:=w.heap.setIfInBounds r (.map (es.toArray.push ⟨.int ik n,ev s x,c⟩) (c+1)) },?_,⟨rfl,rfl,rfl,by simp⟩,?_⟩
  ·simp[execOp,hm,hn,Instr.mapUpdate,run_underlying hu,getMap hb,tS hkt w 10000 (by decide),wS hkt hf,setMap _ hb]
  ·have:=hK (w.heap.setIfInBounds r (.map (es.toArray.push ⟨.int ik n,ev s x,c⟩) (c+1)))
   rw[rD]at this
   have hlt:r<w.heap.size:=(Array.getElem?_eq_some_iff.1 hb).1;refine this (o.set hi (by simp) (fun b _ hnb=>?_) ?_ (fun b hb=>.inl hb) (fun b hb=>?_))
   ·rw[Array.getElem?_setIfInBounds_ne (fun e=>hnb e.symm)]
   ·simp[mapI,hlt]
   ·cases hb;simpa using hlt
theorem RunVC.lookup {t kt et:TypeId}{m k:Operand}{ik:IntKind}{n:Int}{r i:Nat}{es:List MapEntry}{c:Nat}{v:Value}(o:Own h0 L h)(j:Nat)(hj:L[j]?=some (mapI r es c))(hu:P.underlying t=some (.map kt et))(hkt:P.underlying kt=some (.int ik))
  (hm:ev s m=.map (some r)) (hn:ev s k=.int ik n) (hf:Instr.findNow (.int ik) (.int ik n) es 0=some (some (i,v))) (hK:K v false h):RunVC P (.lookup t m k false) ty s h K Q :=
 .of fun w hw=>by
  subst hw;have hb:w.heap[r]?=some (.map es.toArray c):=o.sat _ (aC7 hj)
  exact⟨v,false,w,by simp[execOp,hm,hn,Instr.lookup,run_underlying hu,getMap hb,tS hkt w 10000 (by decide),wS hkt hf],.refl w,hK⟩
theorem StillVC.sliceG {pr:Bool}{t e:TypeId}{n by_ b:Nat}{x:Operand}{agg:Bool}{zero:aVs}(hu:P.underlying t=some (.array n e))(hE:TyI P e agg zero by_)(hx:ev s x=.pointer (some ⟨b,0,none⟩))
  (hk:K (.slice (some ⟨b,0,none⟩) n n) false h):StillVC pr P (.slice t x none none none) ty s h K:=by
 refine .pure' _ false (fun w=>?_) hk;have he:P.elem t=e:=by simp[Program.elem,hu]
 have hn:P.arrayLen t=n:=by simp[Program.arrayLen,hu]
 have hu':P.underlying t=some (.array (P.arrayLen t) (P.elem t)):=by rw[he,hn];exact hu
 simp[execOp,hx,run_sliceAt_array_all w t _ hu',he,hn,hE.sizeOf,slicedAt,Addr.add_lit]
theorem RunVC.sliceG {t e:TypeId}{n by_ b:Nat}{x:Operand}{agg:Bool}{zero:aVs}(hu:P.underlying t=some (.array n e))(hE:TyI P e agg zero by_)(hx:ev s x=.pointer (some ⟨b,0,none⟩))
  (hk:K (.slice (some ⟨b,0,none⟩) n n) false h):RunVC P (.slice t x none none none) ty s h K Q:=(StillVC.sliceG hu hE hx hk).run
theorem zC {fn:Func}{a b c ta tb tc:Nat}{za zb zc:aVs}{ya yb yc pa pb pc:Nat}{u v x:Value}(hf:fn.results=#[.cell a ta,.cell b tb,.cell c tc])
  (hA:TyI P ta true za ya) (hz:za.length=1) (hB:TyI P tb false zb yb) (hC:TyI P tc false zc yc) (ea:sget s a=.pointer (some ⟨pa,0,none⟩)) (eb:sget s b=.pointer (some ⟨pb,0,none⟩)) (ec:sget s c=.pointer (some ⟨pc,0,none⟩))
  (ca:aY h ⟨pa,0,none⟩=some u) (cb:aY h ⟨pb,0,none⟩=some v) (cc:aY h ⟨pc,0,none⟩=some x) (w:World) (hw:w.heap=h) :
  (results fn s.toArray).run P w=.ok (.tuple ⟨[.agg ⟨[u]⟩,v,x]⟩) w:=by
 have e1:s.toArray.getD a undef=.pointer (some ⟨pa,0,none⟩):=by rw[← ea,← dE];simp
 have e2:s.toArray.getD b undef=.pointer (some ⟨pb,0,none⟩):=by rw[← eb,← dE];simp
 have e3:s.toArray.getD c undef=.pointer (some ⟨pc,0,none⟩):=by rw[← ec,← dE];simp
 simp only[Array.getD_eq_getD_getElem?,aDo]at e1 e2 e3
 subst hw;have hc:=gZ (P:=P) (w:=w) (a:=⟨pa,0,none⟩) [u] 0 #[] (fun j hj=>by
  obtain rfl:j=0:=by simpa using hj
  rw[Addr.add_lit,gV];exact ca)
 rw[← gV]at cb cc
 simp only[aDb,aDn,aDp]at hc
 simp[results,hf,e1,e2,e3,asAddr,loadVar,hA.isAgg,hB.isAgg,hC.isAgg,hA.sizeOf,hz,loadCells,hc,run_load,cb,cc]
theorem RetVC.cell3A {fn:Func}{R:Value→Heap→Prop}{a b c ta tb tc:Nat}{za zb zc:aVs}{ya yb yc pa pb pc:Nat}{u v x:Value}(hf:fn.results=#[.cell a ta,.cell b tb,.cell c tc])
  (hA:TyI P ta true za ya) (hz:za.length=1) (hB:TyI P tb false zb yb) (hC:TyI P tc false zc yc) (ea:sget s a=.pointer (some ⟨pa,0,none⟩)) (eb:sget s b=.pointer (some ⟨pb,0,none⟩)) (ec:sget s c=.pointer (some ⟨pc,0,none⟩))
  (ca:aY h ⟨pa,0,none⟩=some u) (cb:aY h ⟨pb,0,none⟩=some v) (cc:aY h ⟨pc,0,none⟩=some x) (hr:R (.tuple ⟨[.agg ⟨[u]⟩,v,x]⟩) h):RetVC P fn s h R where
 ex:=⟨_,fun w hw=>zC hf hA hz hB hC ea eb ec ca cb cc w hw,hr⟩
theorem Spec.enterD2 {P:Program}{f:FuncId}{fn:Func}{r0 r1 c1 rest:Code}{id n:Nat}{ops:Array Oper}{args:aVs}{h:Heap}{R:Ending→Heap→Prop}
  (hf:P.funcs[f]?=some fn) (hb:fn.body=some (.seq r0 (.seq r1 (.seq c1 (.seq (.region id ops false) rest))))) (hn:fn.ntmps=n) (hname:(fn.name == "runtime.NumGoroutine")=false)
  (hv:nM args n fun s=>vcode P r0 (onN (fun s h=>vcode P r1 (onN (fun s h=>vcode P c1 (onN (fun s h=>DeferVC P fn id ops rest R s h) (aAs P fn R)) s h) (aAs P fn R)) s h) (aAs P fn R)) s h):Spec P f args h R:=by
 refine⟨⟨fn,hf,by simp[hb],hname⟩,fun w hw=>?_⟩
 subst hw
 rw[pB]at hv
 have he:act (args++List.replicate (n - args.length) undef) []={ tmps:=args.toArray++Array.replicate (fn.ntmps - args.toArray.size) undef,defers:=[] }:=by
  simp[act,hn]
 have leave0:∀ e s' w',Same w w'→aAs P fn R e s' w'.heap→bodyPostD P fn (fun e w'=>Same w w'∧R e w'.heap) e (act s' []) w':=by
  intro e s' w' hs hq;cases e with
  | normal=>obtain⟨v,hr,hR⟩:=hq.ex;exact⟨v,hr w' rfl,hs,hR⟩
  | ret=>obtain⟨v,hr,hR⟩:=hq.ex;exact⟨v,hr w' rfl,hs,hR⟩
  | panic c=>exact⟨hs,hq⟩
  | _=>exact hq.elim
 refine calls_of_wp_defers hf hb ?_
 rw[← he]
 refine wp_seq (wp_mono (dK (w0:=w) (ds:=[]) r0 _ _ w (.refl w) hv) ?_);rintro e a w1 ⟨s1,rfl,hs1,hq⟩;cases e with
 | normal =>
  refine wp_seq (wp_mono (dK (w0:=w) (ds:=[]) r1 _ _ w1 hs1 hq) ?_);rintro e a w2 ⟨s2,rfl,hs2,hq⟩;cases e with
  | normal =>
   refine wp_seq (wp_mono (dK (w0:=w) (ds:=[]) c1 _ _ w2 hs2 hq) ?_);rintro e a w2 ⟨s2,rfl,hs2,hq⟩;cases e with
   | normal =>
    obtain⟨s3,d,hd,hr⟩:=hq.ex
    refine wp_seq (hd w2 _ (wp_mono (dK (w0:=w) (ds:=[d]) rest _ _ w2 hs2 (mW rest (Q':=aAa P fn d R) (fun e s h hq=>?_) _ _ hr)) ?_))
    ·cases e<;>first|exact hq|exact hq.elim
    ·rintro e a w3 ⟨s4,rfl,hs3,hq⟩
     cases e with
     | normal=>exact hq.lv w w3 hs3 rfl
     | ret=>exact hq.lv w w3 hs3 rfl
     | panic c=>exact hq.lv w w3 hs3 rfl
     | _=>exact hq.elim
   | ret=>exact leave0 .ret s2 w2 hs2 hq
   | panic c=>exact leave0 (.panic c) s2 w2 hs2 hq
   | _=>exact hq.elim
  | ret=>exact leave0 .ret s2 w2 hs2 hq
  | panic c=>exact leave0 (.panic c) s2 w2 hs2 hq
  | _=>exact hq.elim
 | ret=>exact leave0 .ret s1 w1 hs1 hq
 | panic c=>exact leave0 (.panic c) s1 w1 hs1 hq
 | _=>exact hq.elim
end
inductive OT where
 | done
 | one (i:Nat) (t:OT)
 | fork (i j:Nat) (t u:OT)
def OT.size:OT→Nat
 | .done=>0
 | .one _ t=>t.size+1
 | .fork _ _ t _=>t.size+1
def unguarded (ops:Array Oper)(i:Nat):Bool:=match ops[i]? with
 | some o=>o.guard.isNone
 | none=>false
def qY (ops:Array Oper)(st0 stR:List Nat):OT→Array Bool→Bool
 | .done,listed=>(Region.ready .any ops listed).isEmpty
 | .one i t,listed =>
  ((bif mem st0 i||mem stR i then(Region.ready .any ops listed).contains i&&Region.free .any ops listed i else(Region.ready .any ops listed) == [i]) &&
   qY ops st0 stR t (listed.setIfInBounds i true))
 | .fork i j t u,listed =>
  ((Region.ready .any ops listed) == [i,j]&&!(mem st0 i||mem stR i)&&!(mem st0 j||mem stR j)&&unguarded ops i&&unguarded ops j&&t.size == u.size) &&
   (qY ops st0 stR t (listed.setIfInBounds i true)&&qY ops st0 stR u (listed.setIfInBounds j true))
def vordT (E:Heap→Heap→Prop)(A:Addr→Prop)(P:Program)(L:List Oper)(st0 stR tails:List Nat)(t:OT):List Nat→aVs→Heap→QQ→Prop :=
 OT.rec (motive:=fun _=>List Nat→aVs→Heap→QQ→Prop) (fun _ s h Q=>Q .normal s h) (fun i _ ih=>jY E A P L st0 stR tails i ih)
  (fun i j _ _ iht ihu D s h Q=>jY E A P L st0 stR tails i iht D s h Q∧jY E A P L st0 stR tails j ihu D s h Q) t
section
variable {E : Heap → Heap → Prop} {A : Addr → Prop} {P : Program} {ops : Array Oper} {Q : QQ} {w0 : World} {ds : List Deferred} {st0 stR tails : List Nat}
theorem one_sound (hE0:∀ h,E h h)(hEA:∀ h h' a v,E h h'→A a→aY h a=some v→aY h' a=some v)(hp:∀ c s s' h,Q (.panic c) s h→Q (.panic c) s' h)(hsel:Region.noSelect ops=true)(htails:lC ops stR tails=true)
  {i n:Nat} {next:List Nat→aVs→Heap→QQ→Prop} {D:List Nat} {s:aVs} {w:World} {listed:Array Bool} (hs:Same w0 w) (hcl:Closed ops listed)
  (hok:(bif mem st0 i||mem stR i then(Region.ready .any ops listed).contains i&&Region.free .any ops listed i else(Region.ready .any ops listed) == [i])=true)
  (goOn:∀ D s (w:World),Same w0 w→next D s w.heap Q→iR E P ops (lift w0 ds Q) (fun j=>!mem tails j) n (listed.setIfInBounds i true) (act s ds) w)
  (hv:jY E A P ops.toList st0 stR tails i next D s w.heap Q):iR E P ops (lift w0 ds Q) (fun j=>!mem tails j) (n+1) listed (act s ds) w:=by
 simp only[jY]at hv
 cases ho:xY ops.toList i with
 | none=>simp[ho]at hv
 | some o =>
  have hi:ops[i]?=some o:=by rw[← ho,← uC];simp
  obtain⟨dst,op,ty,pos,after,guard⟩:=o
  have run:∀ D D' s,Region.wanted ⟨dst,op,ty,pos,after,guard⟩ (yielded ops (act s ds).tmps)=true →
    oP E A P st0 stR tails i op ty D s w.heap (fun v l h'=>dL s dst v fun s'=>next (fK D' dst l) s' h' Q) Q →
    iR E P ops (lift w0 ds Q) (fun j=>!mem tails j) (n+1) listed (act s ds) w:=fun D D' s hw hv =>
   aA1 hE0 hEA hp hsel htails hi hw hcl hs hok hv fun v l w' hs' hk=>by rw[iP];rw[fW]at hk;exact goOn _ _ _ hs' hk
  have skip:∀ D s,Region.wanted ⟨dst,op,ty,pos,after,guard⟩ (yielded ops (act s ds).tmps)=false →
    (dL s dst undef fun s'=>next D s' w.heap Q) →
    iR E P ops (lift w0 ds Q) (fun j=>!mem tails j) (n+1) listed (act s ds) w:=fun D s hw hk =>
   yT hE0 hp hsel hi hw hcl hok (by rw[iP];rw[fW]at hk;exact goOn _ _ _ hs hk)
  cases guard with
  | none=>simp only[ho]at hv;exact run _ _ _ (by simp[Region.wanted]) hv
  | some gw =>
   obtain⟨j,want⟩:=gw
   simp only[ho]at hv
   cases hd:mJ ops.toList j with
   | none=>simp[hd]at hv
   | some g =>
    simp only[hd]at hv
    cases hm:mem D g with
    | true =>
     simp only[hm]at hv
     split at hv
     ·rename_i hg
      have hy:=dV (ds:=ds) hd hg;cases want with
      | true=>exact run _ _ _ (by simp[Region.wanted,hy]) hv
      | false=>exact skip _ _ (by simp[Region.wanted,hy]) hv
     ·rename_i hg
      have hy:=dV (ds:=ds) hd hg;cases want with
      | false=>exact run _ _ _ (by simp[Region.wanted,hy]) hv
      | true=>exact skip _ _ (by simp[Region.wanted,hy]) hv
     ·rename_i h1 h2
      have hy:=eP (ds:=ds) (s:=s) hd (fun t e=>match t,e with|true,e=>h1 e|false,e=>h2 e);exact skip _ _ (by simp[Region.wanted,hy]) hv
    | false =>
     simp only[hm]at hv
     split at hv
     ·rename_i t hg
      have hy:=dV (ds:=ds) hd hg;cases t with
      | true =>
       have hv:=hv.y rfl
       rw[fD,gS s g _ hg]at hv
       cases want with
       | true=>exact run _ _ _ (by simp[Region.wanted,hy]) hv
       | false=>exact skip _ _ (by simp[Region.wanted,hy]) hv
      | false =>
       have hv:=hv.n rfl
       rw[fD,gS s g _ hg]at hv
       cases want with
       | false=>exact run _ _ _ (by simp[Region.wanted,hy]) hv
       | true=>exact skip _ _ (by simp[Region.wanted,hy]) hv
     ·rename_i h1
      have hy:=eP (ds:=ds) (s:=s) hd (fun t e=>h1 t e);exact skip _ _ (by simp[Region.wanted,hy]) hv
theorem aBD {i n:Nat}{next:List Nat→aVs→Heap→QQ→Prop}{D:List Nat}{s:aVs}{w:World}{listed:Array Bool}(hs:Same w0 w)(hun:unguarded ops i=true)(hst:(mem st0 i||mem stR i)=false)
  (goOn:∀ D s (w:World),Same w0 w→next D s w.heap Q→iR E P ops (lift w0 ds Q) (fun j=>!mem tails j) n (listed.setIfInBounds i true) (act s ds) w)
  (hv:jY E A P ops.toList st0 stR tails i next D s w.heap Q) :
  wpOp P ops (lift w0 ds Q) i (fun a' w'=>((!mem tails i)=true→E w.heap w'.heap)∧iR E P ops (lift w0 ds Q) (fun j=>!mem tails j) n (listed.setIfInBounds i true) a' w') (act s ds) w:=by
 simp only[jY]at hv
 cases ho:xY ops.toList i with
 | none=>simp[ho]at hv
 | some o =>
  have hi:ops[i]?=some o:=by rw[← ho,← uC];simp
  obtain⟨dst,op,ty,pos,after,guard⟩:=o
  cases guard with
  | some g=>simp[unguarded,hi]at hun
  | none =>
   simp only[ho]at hv
   unfold oP at hv
   simp only[Bool.or_eq_false_iff]at hst
   rw[hst.1,hst.2]at hv
   simp only[cond_false]at hv
   have fin:∀ K':KK,(∀ v l h',K' v l h'→(mem tails i=false→E w.heap h')∧dL s dst v fun s'=>next (fK D dst l) s' h' Q)→vop P op ty D s w.heap K' Q →
     wpOp P ops (lift w0 ds Q) i (fun a' w'=>((!mem tails i)=true→E w.heap w'.heap)∧iR E P ops (lift w0 ds Q) (fun j=>!mem tails j) n (listed.setIfInBounds i true) a' w') (act s ds) w:=by
    intro K' hK' hv';unfold wpOp
    simp only[hi,Region.wanted,if_true]
    exact .inl ((oO hv').run w rfl ds dst pos after none _ _
     (fun v l w' hw' hk=>⟨fun hf=>(hK' v l _ hk).1 (by simpa using hf),by
      have h2:=(hK' v l _ hk).2
      rw[fW]at h2
      rw[iP]
      exact goOn _ _ _ (hs.trans hw') h2⟩)
     (fun c w' hw' hq=>⟨s,rfl,hs.trans hw',hq⟩))
   cases ht:mem tails i with
   | true=>rw[ht]at hv;exact ht▸fin _ (fun v l h' hk=>⟨fun h=>(by rw[ht]at h;cases h),hk⟩) hv
   | false=>rw[ht]at hv;exact ht▸fin _ (fun v l h' hk=>⟨fun _=>hk.1,hk.2⟩) hv
theorem vordT_sound (hE0:∀ h,E h h)(hEA:∀ h h' a v,E h h'→A a→aY h a=some v→aY h' a=some v)(hp:∀ c s s' h,Q (.panic c) s h→Q (.panic c) s' h)(hsel:Region.noSelect ops=true)(htails:lC ops stR tails=true) :
  ∀(t:OT) (D:List Nat) (s:aVs) (w:World) (listed:Array Bool),Same w0 w→Closed ops listed→qY ops st0 stR t listed=true→vordT E A P ops.toList st0 stR tails t D s w.heap Q →
   iR E P ops (lift w0 ds Q) (fun j=>!mem tails j) t.size listed (act s ds) w:=by
 intro t
 induction t with
 | done=>intro D s w listed hs _ hok hv;exact⟨by simpa[qY] using hok,s,rfl,hs,hv⟩
 | one i t ih =>
  intro D s w listed hs hcl hok hv
  simp only[qY,aC8]at hok
  obtain⟨hok,hrest⟩:=hok
  have hready:i∈Region.ready .any ops listed:=by
   cases hc:(mem st0 i||mem stR i) with
   | true=>rw[hc]at hok;simp only[cond_true,aC8]at hok;simpa using hok.1
   | false=>rw[hc]at hok;simp only[cond_false,beq_iff_eq]at hok;rw[hok];simp
  exact one_sound hE0 hEA hp hsel htails hs hcl hok (fun D s w hs hv=>ih D s w _ hs (hcl.set hready) hrest hv) hv
 | fork i j t u iht ihu =>
  intro D s w listed hs hcl hok hv
  simp only[qY,aC8,beq_iff_eq,aDs]at hok
  obtain⟨⟨⟨⟨⟨⟨hr,hi⟩,hj⟩,ui⟩,uj⟩,hsz⟩,h1,h2⟩:=hok
  have ri:i∈Region.ready .any ops listed:=by rw[hr];simp
  have rj:j∈Region.ready .any ops listed:=by rw[hr];simp
  refine⟨fun h=>(by rw[h]at hr;cases hr),fun k hk=>?_⟩
  rw[hr]at hk
  rcases aDl.1 hk with rfl|hk
  ·exact aBD hs ui hi (fun D s w hs hv=>iht D s w _ hs (hcl.set ri) h1 hv) hv.1
  ·simp only[aDd]at hk
   subst hk;exact aBD hs uj hj (fun D s w hs hv=>by have:=ihu D s w _ hs (hcl.set rj) h2 hv;rw[← hsz]at this;exact this) hv.2
theorem StillVC.aCz {id:Nat}{s:aVs}{h:Heap}(b:Nat)
  (st0 stR tails:List Nat) (t:OT) (hm:P.follows .mixedOrders=true) (hok:(Region.noSelect ops&&lC ops stR tails&&qY ops st0 stR t (Array.replicate ops.size false))=true) (hlen:t.size=ops.size)
  (hp:∀ c s s' h,Q (.panic c) s h→Q (.panic c) s' h) (hv:vordT (fun h h'=>h'[b]?=h[b]?) (fun a=>a.block=b) P ops.toList st0 stR tails t [] s h Q):DrawVC P id ops s h Q where
 wp w0 w ds hw hs:=by
  subst hw
  simp only[aC8]at hok
  refine wp_region_any hm (tL (E:=fun h h'=>h'[b]?=h[b]?) (fl:=fun j=>!mem tails j) _ _ _ _ ?_);have hcl:Closed ops (Array.replicate ops.size false):=by
   intro j hj
   exfalso
   by_cases hlt:j<ops.size<;>simp[hlt]at hj
  have:=vordT_sound (P:=P) (w0:=w0) (ds:=ds) (E:=fun h h'=>h'[b]?=h[b]?) (A:=fun a=>a.block=b) (fun _=>rfl) (fun h h' a v he ha hc=>by subst ha;rw[gL he];exact hc) hp hok.1.1 hok.1.2 t [] s { w with drawn:=w.drawn+1 } _ (hs.trans ⟨rfl,rfl,rfl,by simp⟩) hcl hok.2 hv
  rw[hlen]at this
  exact this
theorem DrawVC.join {id:Nat}{N:aVs→Heap→Prop}{s:aVs}{h:Heap}(asg lv:List Nat)(I:aVs→Heap→Prop)
  (hab:DrawVC P id ops s h (onN (fun s' h'=>mask asg 0 s'=mask asg 0 s∧oH s' lv fun vs=>I vs h') Q))
  (hr:∀(vs:aVs) (junk:Nat→Value) (h':Heap),I vs h'→vY asg lv vs junk 0 s fun s1=>N s1 h'):DrawVC P id ops s h (onN N Q) where
 wp w0 w ds hw hs:=by
  have key:∀ e s' h',onN (fun s' h'=>mask asg 0 s'=mask asg 0 s∧oH s' lv fun vs=>I vs h') Q e s' h'→onN N Q e s' h':=by
   refine uD (fun s' h' ⟨hm,hI⟩=>?_) (fun _ _ _ x=>x)
   rw[vC]at hI
   have:=hr (lv.map (sget s')) (sget s') h' hI
   rwa [vX,pP asg lv s' s s' 0 (by simp) hm]at this
  refine wp_mono (hab.wp w0 w ds hw hs) ?_;rintro e a w' ⟨s',rfl,hs',hq⟩
  exact⟨s',rfl,hs',key e s' _ hq⟩
end
end Go.Proofs.YtohlogbnpfofpaaGreatDoor
