/- Part 5 of the proof of gaps,items: FnPk, FnLexZ, FnLexP, FnPo, FnLo, FnBd, VcDrawP, VcMap, VcFork, FnEx0, FnEx1. -/
import Derived.Test.YtohlogbnpfofpaaGreatDoorPA04
set_option linter.all false
set_option maxHeartbeats 100000000
set_option maxRecDepth 100000
namespace Go.Proofs.YtohlogbnpfofpaaGreatDoor
open Go StillVC
def qG (pb:Nat):List Value:=[.string ⟨⟨[115,101,108,101,99,116]⟩⟩,.bool false,.func (.func 161) ⟨[]⟩ ⟨[.pointer (some ⟨pb,0,none⟩)]⟩,.string ⟨⟨[112,114,111,106,101,99,116]⟩⟩,.bool false,.func (.func 162) ⟨[]⟩ ⟨[.pointer (some ⟨pb,0,none⟩)]⟩,.string ⟨⟨[106,111,105,110]⟩⟩,.bool true,.func (.func 160) ⟨[]⟩ ⟨[]⟩,.string ⟨⟨[117,110,105,111,110]⟩⟩,.bool true,.func (.func 160) ⟨[]⟩ ⟨[]⟩,.string ⟨⟨[109,105,110,117,115]⟩⟩,.bool true,.func (.func 160) ⟨[]⟩ ⟨[]⟩,.string ⟨⟨[114,101,110,97,109,101]⟩⟩,.bool false,.func (.func 163) ⟨[]⟩ ⟨[.pointer (some ⟨pb,0,none⟩)]⟩,.string ⟨⟨[103,114,111,117,112]⟩⟩,.bool false,.func (.func 164) ⟨[]⟩ ⟨[.pointer (some ⟨pb,0,none⟩)]⟩]
theorem eD (bp:Nat)(h:Heap):cK Tryz.prog 145 [.pointer (some ⟨bp,0,none⟩)] h fun v h'=>∃ b pb,v=.slice (some ⟨b,0,none⟩) 7 7∧Own h [box pb [.pointer (some ⟨bp,0,none⟩)] 70,box b (qG pb) 188] h':=by
 refine Spec.enter Tryz.func145 rfl Tryz.ntmps145 (by kernel_rfl) ?_;have o0:=Own.refl h;(refine RunVC.aBS o0 rfl ?_;intro b10 m10 o10);refine run (aBQ ?_);refine run (aBE cD ?_);refine aI rfl ?_;refine aI rfl ?_;refine aI rfl ?_;refine run (aBQ ?_);refine run (aBE cD ?_);refine aI rfl ?_;refine aI rfl ?_;refine aI rfl ?_;refine run (aBE cD ?_);refine aI rfl ?_;refine aI rfl ?_;refine aI rfl ?_;refine run (aBE cD ?_);refine aI rfl ?_;refine aI rfl ?_;refine aI rfl ?_;refine run (aBE cD ?_);refine aI rfl ?_;refine aI rfl ?_;refine aI rfl ?_;refine run (aBQ ?_);refine run (aBE cD ?_);refine aI rfl ?_;refine aI rfl ?_;refine aI rfl ?_;refine run (aBQ ?_);refine run (aBE cD ?_);refine aI rfl ?_;refine aI rfl ?_;refine aI rfl ?_;(refine RunVC.aBV o10 dM aU rfl rfl (by decide) ?_);refine aI rfl ?_;refine aI rfl ?_;refine aI rfl ?_;refine aI rfl ?_;refine aI rfl ?_;refine aI rfl ?_;refine aI rfl ?_;intro b23 m23 o23;refine RetVC.one rfl ?_
 exact⟨_,_,rfl,Own.sel ‹_› [0,1] rfl⟩
def restR (I:Item)(c:List Value)(kind:Int)(vk:Value)(kids:List Ex)(off:Nat)(x:Ex):Prop:=∃ vc vn conds names attr as_ agg,x=.mk kind [] kids conds names attr as_ agg off∧c=wB kind [] vk vc vn attr as_ agg off ∧
 Reads I 14 vc conds.length (conds.flatMap oW)∧Reads I 1 vn names.length (names.flatMap rV)
def kM (B:Base)(bp z:Nat)(tk:Item)(bx pb:Nat)(n:Nat)(res:Except (Int×Nat) (Ex×List Tok))(kind:Int)(vk:Value)(kids:List Ex)(off:Nat):Ending→Heap→Prop :=
 Ends (fun v h'=>∃ x r w c I,res=.ok (x,r)∧v=.tuple ⟨[]⟩∧restR I c kind vk kids off x∧r.length≤n∧cH tk w r∧Own B [box bp [w,.int .i64 z] 72,tk,box bx c 42,box pb [.pointer (some ⟨bp,0,none⟩)] 70,I] h')
  (fun c h'=>∃ e w,res=.error e∧c=kB e∧Own B (PSt bp z w tk) h')
theorem Own.empty4 {B:Base}{x y z u:Item}{h:Heap}(o:Own B [x,y,z,u] h):Own B [x,y,z,u,gG] h:=o.emptyI'.sel [1,2,3,4,0] rfl
theorem rest0_spec (off:Nat)(vk:Value)(kids:List Ex)(B:Base)(bp z:Nat)(tk:Item)(bx pb:Nat)(w:Value)(ts:List Tok)(h:Heap)(o:Own B [box bp [w,.int .i64 z] 72,tk,box bx (wB 2 [] vk aK aK [] [] 0 off) 42,box pb [.pointer (some ⟨bp,0,none⟩)] 70] h)(hR:cH tk w ts)(hl:ts.length≤5000) :
  Spec Tryz.prog 161 [.pointer (some ⟨bx,0,none⟩),.pointer (some ⟨pb,0,none⟩)] h (kM B bp z tk bx pb ts.length (eS z 0 off kids ts) 2 vk kids off):=by
 have hE:eS z 0 off kids ts=(oU z >>= fun c=>(pure (Ex.mk 2 [] kids c [] [] [] 0 off):PM Ex)) ts:=rfl;unfold wB at o;refine Spec.enter Tryz.func161 rfl Tryz.ntmps161 (by kernel_rfl) ?_;refine run (aBx o 3 rfl kD rfl rfl ?_);refine cQ.callL (fun B' o'=>zC B' bp z tk _ _ _ o' hR (by omega)) ‹_› rfl (fun l1 q1 w1 v1 I h1 hm hv hle1 hR1 oq=>?_) (fun e w' h' hm o2=>⟨e,w',hE.trans (PM.aBy hm),rfl,o2⟩)
 obtain⟨hn1,rfl⟩:=hv
 rw[PM.aBz hm]at hE
 have o1:=oq
 simp only[PSt,pick,lcA,lnA,lgS,lgZ,lgN]at o1
 clear oq hm
 obtain⟨va1,vb1,rfl⟩:=o1.rowIs 2 rfl
 refine run (nC rfl ?_);refine run (fA aO rfl rfl rfl ?_);(refine RunVC.store o1 3 rfl nM rfl (by simp) (aI ⟨rfl,rfl⟩ ?_);intro m22 o22);refine RetVC.zero rfl ?_
 exact⟨_,q1,w1,_,_,hE,rfl,⟨_,_,l1,[],[],[],0,rfl,rfl,dD,aM⟩,by omega,hR1,Own.sel ‹_› [0,1,3,4,2] rfl⟩
theorem rest1_spec (off:Nat)(vk:Value)(kids:List Ex)(B:Base)(bp z:Nat)(tk:Item)(bx pb:Nat)(w:Value)(ts:List Tok)(h:Heap)(o:Own B [box bp [w,.int .i64 z] 72,tk,box bx (wB 3 [] vk aK aK [] [] 0 off) 42,box pb [.pointer (some ⟨bp,0,none⟩)] 70] h)(hR:cH tk w ts)(hl:ts.length≤5000) :
  Spec Tryz.prog 162 [.pointer (some ⟨bx,0,none⟩),.pointer (some ⟨pb,0,none⟩)] h (kM B bp z tk bx pb ts.length (eS z 1 off kids ts) 3 vk kids off):=by
 have hE:eS z 1 off kids ts=(bP z [[111,110]] >>= fun _=>namesU z [41] >>= fun l=>(pure (Ex.mk 3 [] kids [] l [] [] 0 off):PM Ex)) ts:=rfl;unfold wB at o;refine Spec.enter Tryz.func162 rfl Tryz.ntmps162 (by kernel_rfl) ?_;refine run (aBx o 3 rfl kD rfl rfl ?_);(refine RunVC.lit o aH aN rfl rfl (by decide) (aI rfl ?_);intro b11 m11 o11);refine aS (ss:=[[111,110]]) ‹_› rfl (by first|exact⟨2,by decide,rfl⟩|exact⟨3,by decide,rfl⟩|exact⟨4,by decide,rfl⟩|exact⟨5,by decide,rfl⟩|exact⟨6,by decide,rfl⟩|exact⟨7,by decide,rfl⟩|exact⟨8,by decide,rfl⟩|exact⟨9,by decide,rfl⟩) hR (by omega) (by decide) (fun _ q1 w1 v h1 hm hv hle1 hR1 oq=>?_) (fun e w' h' hm o2=>⟨e,w',hE.trans (PM.aBy hm),rfl,o2⟩);subst hv
 rw[PM.aBz hm]at hE
 have o1:=oq
 simp only[PSt,pick,lcA,lnA,lgS,lgZ,lgN]at o1
 clear oq hm;refine run (aBx o1 3 rfl kD rfl rfl ?_);(refine RunVC.lit o1 aH aN rfl rfl (by decide) (aI rfl ?_);intro b21 m21 o21);refine CallVC.ret (bJ [[41]] _ bp w1 q1 _ (Own.cellB ‹_› 0 rfl 0) (Own.reads ‹_› 1 hR1.1 rfl) (Own.boxArr ‹_› 5 rfl rfl (by decide)) (by omega)) ?_;rintro _ hp ⟨rfl,oc⟩;have op:=oc.thenE ‹_›;clear oc;cases hb:bK [[41]] q1 with
 | true =>
  rw[PM.aBz (kF hb)]at hE
  refine Br.ff ?_;refine RetVC.zero rfl ?_
  exact⟨_,q1,w1,_,gG,hE,rfl,⟨_,_,[],[],[],[],0,rfl,rfl,aM,aM⟩,by omega,hR1,(Own.sel ‹_› [0,1,2,3] rfl).empty4⟩
 | false =>
  refine Br.tt ?_;refine run (aBx op 3 rfl kD rfl rfl ?_);refine cQ.callL (fun B' o'=>oK B' bp z tk _ _ _ o' hR1 (by omega)) ‹_› rfl (fun l2 q2 w2 v2 I h2 hm hv hle2 hR2 oq=>?_) (fun e w' h' hm o2=>⟨e,w',hE.trans (PM.aBy ((jJ hb).trans hm)),rfl,o2⟩)
  obtain⟨hn2,rfl⟩:=hv
  rw[PM.aBz ((jJ hb).trans hm)]at hE
  have o2:=oq
  simp only[PSt,pick,lcA,lnA,lgS,lgZ,lgN]at o2
  clear oq hm
  obtain⟨va2,vb2,rfl⟩:=o2.rowIs 2 rfl
  refine run (nC rfl ?_);refine run (fA aO rfl rfl rfl ?_);(refine RunVC.store o2 3 rfl eZ rfl (by simp) (aI ⟨rfl,rfl⟩ ?_);intro m52 o52);refine RetVC.zero rfl ?_
  exact⟨_,q2,w2,_,_,hE,rfl,⟨_,_,[],l2,[],[],0,rfl,rfl,aM,dD⟩,by omega,hR2,Own.sel ‹_› [0,1,3,4,2] rfl⟩
theorem rest5_spec (off:Nat)(vk:Value)(kids:List Ex)(B:Base)(bp z:Nat)(tk:Item)(bx pb:Nat)(w:Value)(ts:List Tok)(h:Heap)(o:Own B [box bp [w,.int .i64 z] 72,tk,box bx (wB 7 [] vk aK aK [] [] 0 off) 42,box pb [.pointer (some ⟨bp,0,none⟩)] 70] h)(hR:cH tk w ts)(hl:ts.length≤5000) :
  Spec Tryz.prog 163 [.pointer (some ⟨bx,0,none⟩),.pointer (some ⟨pb,0,none⟩)] h (kM B bp z tk bx pb ts.length (eS z 5 off kids ts) 7 vk kids off):=by
 have hE:eS z 5 off kids ts=(bP z [[44]] >>= fun _=>dG z >>= fun a=>bP z [[97,115]] >>= fun _=>dG z >>= fun b=>(pure (Ex.mk 7 [] kids [] [] a b 0 off):PM Ex)) ts:=rfl;unfold wB at o;refine Spec.enter Tryz.func163 rfl Tryz.ntmps163 (by kernel_rfl) ?_;refine run (aBx o 3 rfl kD rfl rfl ?_);(refine RunVC.lit o aH aN rfl rfl (by decide) (aI rfl ?_);intro b11 m11 o11);refine aS (ss:=[[44]]) ‹_› rfl (by first|exact⟨2,by decide,rfl⟩|exact⟨3,by decide,rfl⟩|exact⟨4,by decide,rfl⟩|exact⟨5,by decide,rfl⟩|exact⟨6,by decide,rfl⟩|exact⟨7,by decide,rfl⟩|exact⟨8,by decide,rfl⟩|exact⟨9,by decide,rfl⟩) hR (by omega) (by decide) (fun _ q1 w1 v h1 hm hv hle1 hR1 oq=>?_) (fun e w' h' hm o2=>⟨e,w',hE.trans (PM.aBy hm),rfl,o2⟩);subst hv
 rw[PM.aBz hm]at hE
 have o1:=oq
 simp only[PSt,pick,lcA,lnA,lgS,lgZ,lgN]at o1
 clear oq hm;refine run (aBx o1 3 rfl kD rfl rfl ?_);refine cF.callL ‹_› rfl hR1 (by omega) (fun at_ q2 w2 v h2 hm hv hle2 hR2 oq=>?_) (fun e w' h' hm o2=>⟨e,w',hE.trans (PM.aBy hm),rfl,o2⟩);subst hv
 rw[PM.aBz hm]at hE
 have o2:=oq
 simp only[PSt,pick,lcA,lnA,lgS,lgZ,lgN]at o2
 clear oq hm;refine run (nC rfl ?_);refine run (fA aO rfl rfl rfl ?_);(refine RunVC.store o2 2 rfl aN rfl (by simp) (aI ⟨rfl,rfl⟩ ?_);intro m32 o32);refine run (aBx o32 3 rfl kD rfl rfl ?_);(refine RunVC.lit o32 aH aN rfl rfl (by decide) (aI rfl ?_);intro b34 m34 o34);refine aS (ss:=[[97,115]]) ‹_› rfl (by first|exact⟨2,by decide,rfl⟩|exact⟨3,by decide,rfl⟩|exact⟨4,by decide,rfl⟩|exact⟨5,by decide,rfl⟩|exact⟨6,by decide,rfl⟩|exact⟨7,by decide,rfl⟩|exact⟨8,by decide,rfl⟩|exact⟨9,by decide,rfl⟩) hR2 (by omega) (by decide) (fun _ q3 w3 v h3 hm hv hle3 hR3 oq=>?_) (fun e w' h' hm o2=>⟨e,w',hE.trans (PM.aBy hm),rfl,o2⟩);subst hv
 rw[PM.aBz hm]at hE
 have o3:=oq
 simp only[PSt,pick,lcA,lnA,lgS,lgZ,lgN]at o3
 clear oq hm;refine run (aBx o3 3 rfl kD rfl rfl ?_);refine cF.callL ‹_› rfl hR3 (by omega) (fun as_ q4 w4 v h4 hm hv hle4 hR4 oq=>?_) (fun e w' h' hm o2=>⟨e,w',hE.trans (PM.aBy hm),rfl,o2⟩);subst hv
 rw[PM.aBz hm]at hE
 have o4:=oq
 simp only[PSt,pick,lcA,lnA,lgS,lgZ,lgN]at o4
 clear oq hm;refine run (nC rfl ?_);refine run (fA aO rfl rfl rfl ?_);(refine RunVC.store o4 2 rfl aN rfl (by simp) (aI ⟨rfl,rfl⟩ ?_);intro m52 o52);refine RetVC.zero rfl ?_
 exact⟨_,q4,w4,_,gG,hE,rfl,⟨_,_,[],[],at_,as_,0,rfl,rfl,aM,aM⟩,by omega,hR4,(Own.sel ‹_› [0,1,2,3] rfl).empty4⟩
theorem rest6_spec (off:Nat)(vk:Value)(kids:List Ex)(B:Base)(bp z:Nat)(tk:Item)(bx pb:Nat)(w:Value)(ts:List Tok)(h:Heap)(o:Own B [box bp [w,.int .i64 z] 72,tk,box bx (wB 8 [] vk aK aK [] [] 0 off) 42,box pb [.pointer (some ⟨bp,0,none⟩)] 70] h)(hR:cH tk w ts)(hl:ts.length≤5000) :
  Spec Tryz.prog 164 [.pointer (some ⟨bx,0,none⟩),.pointer (some ⟨pb,0,none⟩)] h (kM B bp z tk bx pb ts.length (eS z 6 off kids ts) 8 vk kids off):=by
 have hE:eS z 6 off kids ts=(bP z [[111,110]] >>= fun _=>namesU z [119,105,116,104] >>= fun l=>bP z [[119,105,116,104]] >>= fun _=>fG z [[99,111,117,110,116],[115,117,109],[108,101,97,115,116],[103,114,101,97,116,101,115,116]] 1 >>= fun g=>ifP (g != 1) (dG z) [] >>= fun a=>bP z [[97,115]] >>= fun _=>dG z >>= fun b=>(pure (Ex.mk 8 [] kids [] l a b g off):PM Ex)) ts:=rfl;unfold wB at o;refine Spec.enter Tryz.func164 rfl Tryz.ntmps164 (by kernel_rfl) ?_;refine run (aBx o 3 rfl kD rfl rfl ?_);(refine RunVC.lit o aH aN rfl rfl (by decide) (aI rfl ?_);intro b11 m11 o11);refine aS (ss:=[[111,110]]) ‹_› rfl (by first|exact⟨2,by decide,rfl⟩|exact⟨3,by decide,rfl⟩|exact⟨4,by decide,rfl⟩|exact⟨5,by decide,rfl⟩|exact⟨6,by decide,rfl⟩|exact⟨7,by decide,rfl⟩|exact⟨8,by decide,rfl⟩|exact⟨9,by decide,rfl⟩) hR (by omega) (by decide) (fun _ q1 w1 v h1 hm hv hle1 hR1 oq=>?_) (fun e w' h' hm o2=>⟨e,w',hE.trans (PM.aBy hm),rfl,o2⟩);subst hv
 rw[PM.aBz hm]at hE
 have o1:=oq
 simp only[PSt,pick,lcA,lnA,lgS,lgZ,lgN]at o1
 clear oq hm;refine run (aBx o1 3 rfl kD rfl rfl ?_);(refine RunVC.lit o1 aH aN rfl rfl (by decide) (aI rfl ?_);intro b21 m21 o21);refine CallVC.ret (bJ [[119,105,116,104]] _ bp w1 q1 _ (Own.cellB ‹_› 0 rfl 0) (Own.reads ‹_› 1 hR1.1 rfl) (Own.boxArr ‹_› 5 rfl rfl (by decide)) (by omega)) ?_;rintro _ hp ⟨rfl,oc⟩;have op:=oc.thenE ‹_›;clear oc;cases hb:bK [[119,105,116,104]] q1 with
 | true =>
  rw[PM.aBz (kF hb)]at hE
  refine Br.ff ?_;refine run (aBx op 3 rfl kD rfl rfl ?_);(refine RunVC.lit op aH aN rfl rfl (by decide) (aI rfl ?_);intro b31 m31 o31);refine aS (ss:=[[119,105,116,104]]) ‹_› rfl (by first|exact⟨2,by decide,rfl⟩|exact⟨3,by decide,rfl⟩|exact⟨4,by decide,rfl⟩|exact⟨5,by decide,rfl⟩|exact⟨6,by decide,rfl⟩|exact⟨7,by decide,rfl⟩|exact⟨8,by decide,rfl⟩|exact⟨9,by decide,rfl⟩) hR1 (by omega) (by decide) (fun _ q2 w2 v h2 hm hv hle2 hR2 oq=>?_) (fun e w' h' hm o2=>⟨e,w',hE.trans (PM.aBy hm),rfl,o2⟩);subst hv
  rw[PM.aBz hm]at hE
  have o2:=oq
  simp only[PSt,pick,lcA,lnA,lgS,lgZ,lgN]at o2
  clear oq hm;refine run (aBx o2 3 rfl kD rfl rfl ?_);(refine RunVC.lit o2 aH aN rfl rfl (by decide) (aI rfl ?_);intro b41 m41 o41);refine jA (ss:=[[99,111,117,110,116],[115,117,109],[108,101,97,115,116],[103,114,101,97,116,101,115,116]]) ‹_› rfl (by first|exact⟨2,by decide,rfl⟩|exact⟨3,by decide,rfl⟩|exact⟨4,by decide,rfl⟩|exact⟨5,by decide,rfl⟩|exact⟨6,by decide,rfl⟩|exact⟨7,by decide,rfl⟩|exact⟨8,by decide,rfl⟩|exact⟨9,by decide,rfl⟩) hR2 (by omega) (by decide) (fun g q3 w3 v h3 hm hv hle3 hR3 oq=>?_) (fun e w' h' hm o2=>⟨e,w',hE.trans (PM.aBy hm),rfl,o2⟩);subst hv
  rw[PM.aBz hm]at hE
  have o3:=oq
  simp only[PSt,pick,lcA,lnA,lgS,lgZ,lgN]at o3
  clear oq hm;by_cases hg:g=1
  ·rw[qO (by simp[hg]),PM.aBM]at hE
   refine run (nC rfl ?_);refine run (fA aO rfl rfl rfl ?_);(refine RunVC.store o3 2 rfl aW rfl (by simp) (aI ⟨rfl,rfl⟩ ?_);intro m52 o52);refine run (nC rfl ?_);refine run (fA aO rfl rfl rfl ?_);refine run (aBx o52 2 rfl aW rfl rfl ?_);refine Br.aBO (fun hc=>absurd (by first|omega|assumption|decide|exact rfl) hc) (fun c56=>?_);refine run (aBx o52 3 rfl kD rfl rfl ?_);(refine RunVC.lit o52 aH aN rfl rfl (by decide) (aI rfl ?_);intro b58 m58 o58);refine aS (ss:=[[97,115]]) ‹_› rfl (by first|exact⟨2,by decide,rfl⟩|exact⟨3,by decide,rfl⟩|exact⟨4,by decide,rfl⟩|exact⟨5,by decide,rfl⟩|exact⟨6,by decide,rfl⟩|exact⟨7,by decide,rfl⟩|exact⟨8,by decide,rfl⟩|exact⟨9,by decide,rfl⟩) hR3 (by omega) (by decide) (fun _ q4 w4 v h4 hm hv hle4 hR4 oq=>?_) (fun e w' h' hm o2=>⟨e,w',hE.trans (PM.aBy hm),rfl,o2⟩);subst hv
   rw[PM.aBz hm]at hE
   have o4:=oq
   simp only[PSt,pick,lcA,lnA,lgS,lgZ,lgN]at o4
   clear oq hm;refine run (aBx o4 3 rfl kD rfl rfl ?_);refine cF.callL ‹_› rfl hR4 (by omega) (fun as_ q5 w5 v h5 hm hv hle5 hR5 oq=>?_) (fun e w' h' hm o2=>⟨e,w',hE.trans (PM.aBy hm),rfl,o2⟩);subst hv
   rw[PM.aBz hm]at hE
   have o5:=oq
   simp only[PSt,pick,lcA,lnA,lgS,lgZ,lgN]at o5
   clear oq hm;refine run (nC rfl ?_);refine run (fA aO rfl rfl rfl ?_);(refine RunVC.store o5 2 rfl aN rfl (by simp) (aI ⟨rfl,rfl⟩ ?_);intro m72 o72);refine RetVC.zero rfl ?_
   exact⟨_,q5,w5,_,gG,hE,rfl,⟨_,_,[],[],[],as_,g,rfl,rfl,aM,aM⟩,by omega,hR5,(Own.sel ‹_› [0,1,2,3] rfl).empty4⟩
  ·rw[mX (by simp[hg])]at hE
   refine run (nC rfl ?_);refine run (fA aO rfl rfl rfl ?_);(refine RunVC.store o3 2 rfl aW rfl (by simp) (aI ⟨rfl,rfl⟩ ?_);intro m82 o82);refine run (nC rfl ?_);refine run (fA aO rfl rfl rfl ?_);refine run (aBx o82 2 rfl aW rfl rfl ?_);refine Br.aBO (fun c86=>?_) (fun hc=>absurd hc (by first|omega|assumption|decide|exact rfl));refine run (aBx o82 3 rfl kD rfl rfl ?_);refine cF.callL ‹_› rfl hR3 (by omega) (fun at_ q6 w6 v h6 hm hv hle6 hR6 oq=>?_) (fun e w' h' hm o2=>⟨e,w',hE.trans (PM.aBy hm),rfl,o2⟩);subst hv
   rw[PM.aBz hm]at hE
   have o6:=oq
   simp only[PSt,pick,lcA,lnA,lgS,lgZ,lgN]at o6
   clear oq hm;refine run (nC rfl ?_);refine run (fA aO rfl rfl rfl ?_);(refine RunVC.store o6 2 rfl aN rfl (by simp) (aI ⟨rfl,rfl⟩ ?_);intro m92 o92);refine run (aBx o92 3 rfl kD rfl rfl ?_);(refine RunVC.lit o92 aH aN rfl rfl (by decide) (aI rfl ?_);intro b94 m94 o94);refine aS (ss:=[[97,115]]) ‹_› rfl (by first|exact⟨2,by decide,rfl⟩|exact⟨3,by decide,rfl⟩|exact⟨4,by decide,rfl⟩|exact⟨5,by decide,rfl⟩|exact⟨6,by decide,rfl⟩|exact⟨7,by decide,rfl⟩|exact⟨8,by decide,rfl⟩|exact⟨9,by decide,rfl⟩) hR6 (by omega) (by decide) (fun _ q7 w7 v h7 hm hv hle7 hR7 oq=>?_) (fun e w' h' hm o2=>⟨e,w',hE.trans (PM.aBy hm),rfl,o2⟩);subst hv
   rw[PM.aBz hm]at hE
   have o7:=oq
   simp only[PSt,pick,lcA,lnA,lgS,lgZ,lgN]at o7
   clear oq hm;refine run (aBx o7 3 rfl kD rfl rfl ?_);refine cF.callL ‹_› rfl hR7 (by omega) (fun as_ q8 w8 v h8 hm hv hle8 hR8 oq=>?_) (fun e w' h' hm o2=>⟨e,w',hE.trans (PM.aBy hm),rfl,o2⟩);subst hv
   rw[PM.aBz hm]at hE
   have o8:=oq
   simp only[PSt,pick,lcA,lnA,lgS,lgZ,lgN]at o8
   clear oq hm;refine run (nC rfl ?_);refine run (fA aO rfl rfl rfl ?_);(refine RunVC.store o8 2 rfl aN rfl (by simp) (aI ⟨rfl,rfl⟩ ?_);intro m112 o112);refine RetVC.zero rfl ?_
   exact⟨_,q8,w8,_,gG,hE,rfl,⟨_,_,[],[],at_,as_,g,rfl,rfl,aM,aM⟩,by omega,hR8,(Own.sel ‹_› [0,1,2,3] rfl).empty4⟩
 | false =>
  refine Br.tt ?_;refine run (aBx op 3 rfl kD rfl rfl ?_);refine cQ.callL (fun B' o'=>oK B' bp z tk _ _ _ o' hR1 (by omega)) ‹_› rfl (fun l9 q9 w9 v9 I h9 hm hv hle9 hR9 oq=>?_) (fun e w' h' hm o2=>⟨e,w',hE.trans (PM.aBy ((jJ hb).trans hm)),rfl,o2⟩)
  obtain⟨hn9,rfl⟩:=hv
  rw[PM.aBz ((jJ hb).trans hm)]at hE
  have o9:=oq
  simp only[PSt,pick,lcA,lnA,lgS,lgZ,lgN]at o9
  clear oq hm
  obtain⟨va9,vb9,rfl⟩:=o9.rowIs 2 rfl
  refine run (nC rfl ?_);refine run (fA aO rfl rfl rfl ?_);(refine RunVC.store o9 3 rfl eZ rfl (by simp) (aI ⟨rfl,rfl⟩ ?_);intro m132 o132);refine run (aBx o132 4 rfl kD rfl rfl ?_);(refine RunVC.lit o132 aH aN rfl rfl (by decide) (aI rfl ?_);intro b134 m134 o134);refine aS (ss:=[[119,105,116,104]]) ‹_› rfl (by first|exact⟨2,by decide,rfl⟩|exact⟨3,by decide,rfl⟩|exact⟨4,by decide,rfl⟩|exact⟨5,by decide,rfl⟩|exact⟨6,by decide,rfl⟩|exact⟨7,by decide,rfl⟩|exact⟨8,by decide,rfl⟩|exact⟨9,by decide,rfl⟩) hR9 (by omega) (by decide) (fun _ q10 w10 v h10 hm hv hle10 hR10 oq=>?_) (fun e w' h' hm o2=>⟨e,w',hE.trans (PM.aBy hm),rfl,o2⟩);subst hv
  rw[PM.aBz hm]at hE
  have o10:=oq
  simp only[PSt,pick,lcA,lnA,lgS,lgZ,lgN]at o10
  clear oq hm;refine run (aBx o10 4 rfl kD rfl rfl ?_);(refine RunVC.lit o10 aH aN rfl rfl (by decide) (aI rfl ?_);intro b141 m141 o141);refine jA (ss:=[[99,111,117,110,116],[115,117,109],[108,101,97,115,116],[103,114,101,97,116,101,115,116]]) ‹_› rfl (by first|exact⟨2,by decide,rfl⟩|exact⟨3,by decide,rfl⟩|exact⟨4,by decide,rfl⟩|exact⟨5,by decide,rfl⟩|exact⟨6,by decide,rfl⟩|exact⟨7,by decide,rfl⟩|exact⟨8,by decide,rfl⟩|exact⟨9,by decide,rfl⟩) hR10 (by omega) (by decide) (fun g q11 w11 v h11 hm hv hle11 hR11 oq=>?_) (fun e w' h' hm o2=>⟨e,w',hE.trans (PM.aBy hm),rfl,o2⟩);subst hv
  rw[PM.aBz hm]at hE
  have o11:=oq
  simp only[PSt,pick,lcA,lnA,lgS,lgZ,lgN]at o11
  clear oq hm;by_cases hg:g=1
  ·rw[qO (by simp[hg]),PM.aBM]at hE
   refine run (nC rfl ?_);refine run (fA aO rfl rfl rfl ?_);(refine RunVC.store o11 3 rfl aW rfl (by simp) (aI ⟨rfl,rfl⟩ ?_);intro m152 o152);refine run (nC rfl ?_);refine run (fA aO rfl rfl rfl ?_);refine run (aBx o152 3 rfl aW rfl rfl ?_);refine Br.aBO (fun hc=>absurd (by first|omega|assumption|decide|exact rfl) hc) (fun c156=>?_);refine run (aBx o152 4 rfl kD rfl rfl ?_);(refine RunVC.lit o152 aH aN rfl rfl (by decide) (aI rfl ?_);intro b158 m158 o158);refine aS (ss:=[[97,115]]) ‹_› rfl (by first|exact⟨2,by decide,rfl⟩|exact⟨3,by decide,rfl⟩|exact⟨4,by decide,rfl⟩|exact⟨5,by decide,rfl⟩|exact⟨6,by decide,rfl⟩|exact⟨7,by decide,rfl⟩|exact⟨8,by decide,rfl⟩|exact⟨9,by decide,rfl⟩) hR11 (by omega) (by decide) (fun _ q12 w12 v h12 hm hv hle12 hR12 oq=>?_) (fun e w' h' hm o2=>⟨e,w',hE.trans (PM.aBy hm),rfl,o2⟩);subst hv
   rw[PM.aBz hm]at hE
   have o12:=oq
   simp only[PSt,pick,lcA,lnA,lgS,lgZ,lgN]at o12
   clear oq hm;refine run (aBx o12 4 rfl kD rfl rfl ?_);refine cF.callL ‹_› rfl hR12 (by omega) (fun as_ q13 w13 v h13 hm hv hle13 hR13 oq=>?_) (fun e w' h' hm o2=>⟨e,w',hE.trans (PM.aBy hm),rfl,o2⟩);subst hv
   rw[PM.aBz hm]at hE
   have o13:=oq
   simp only[PSt,pick,lcA,lnA,lgS,lgZ,lgN]at o13
   clear oq hm;refine run (nC rfl ?_);refine run (fA aO rfl rfl rfl ?_);(refine RunVC.store o13 3 rfl aN rfl (by simp) (aI ⟨rfl,rfl⟩ ?_);intro m172 o172);refine RetVC.zero rfl ?_
   exact⟨_,q13,w13,_,_,hE,rfl,⟨_,_,[],l9,[],as_,g,rfl,rfl,aM,dD⟩,by omega,hR13,Own.sel ‹_› [0,1,3,4,2] rfl⟩
  ·rw[mX (by simp[hg])]at hE
   refine run (nC rfl ?_);refine run (fA aO rfl rfl rfl ?_);(refine RunVC.store o11 3 rfl aW rfl (by simp) (aI ⟨rfl,rfl⟩ ?_);intro m182 o182);refine run (nC rfl ?_);refine run (fA aO rfl rfl rfl ?_);refine run (aBx o182 3 rfl aW rfl rfl ?_);refine Br.aBO (fun c186=>?_) (fun hc=>absurd hc (by first|omega|assumption|decide|exact rfl));refine run (aBx o182 4 rfl kD rfl rfl ?_);refine cF.callL ‹_› rfl hR11 (by omega) (fun at_ q14 w14 v h14 hm hv hle14 hR14 oq=>?_) (fun e w' h' hm o2=>⟨e,w',hE.trans (PM.aBy hm),rfl,o2⟩);subst hv
   rw[PM.aBz hm]at hE
   have o14:=oq
   simp only[PSt,pick,lcA,lnA,lgS,lgZ,lgN]at o14
   clear oq hm;refine run (nC rfl ?_);refine run (fA aO rfl rfl rfl ?_);(refine RunVC.store o14 3 rfl aN rfl (by simp) (aI ⟨rfl,rfl⟩ ?_);intro m192 o192);refine run (aBx o192 4 rfl kD rfl rfl ?_);(refine RunVC.lit o192 aH aN rfl rfl (by decide) (aI rfl ?_);intro b194 m194 o194);refine aS (ss:=[[97,115]]) ‹_› rfl (by first|exact⟨2,by decide,rfl⟩|exact⟨3,by decide,rfl⟩|exact⟨4,by decide,rfl⟩|exact⟨5,by decide,rfl⟩|exact⟨6,by decide,rfl⟩|exact⟨7,by decide,rfl⟩|exact⟨8,by decide,rfl⟩|exact⟨9,by decide,rfl⟩) hR14 (by omega) (by decide) (fun _ q15 w15 v h15 hm hv hle15 hR15 oq=>?_) (fun e w' h' hm o2=>⟨e,w',hE.trans (PM.aBy hm),rfl,o2⟩);subst hv
   rw[PM.aBz hm]at hE
   have o15:=oq
   simp only[PSt,pick,lcA,lnA,lgS,lgZ,lgN]at o15
   clear oq hm;refine run (aBx o15 4 rfl kD rfl rfl ?_);refine cF.callL ‹_› rfl hR15 (by omega) (fun as_ q16 w16 v h16 hm hv hle16 hR16 oq=>?_) (fun e w' h' hm o2=>⟨e,w',hE.trans (PM.aBy hm),rfl,o2⟩);subst hv
   rw[PM.aBz hm]at hE
   have o16:=oq
   simp only[PSt,pick,lcA,lnA,lgS,lgZ,lgN]at o16
   clear oq hm;refine run (nC rfl ?_);refine run (fA aO rfl rfl rfl ?_);(refine RunVC.store o16 3 rfl aN rfl (by simp) (aI ⟨rfl,rfl⟩ ?_);intro m212 o212);refine RetVC.zero rfl ?_
   exact⟨_,q16,w16,_,_,hE,rfl,⟨_,_,[],l9,at_,as_,g,rfl,rfl,aM,dD⟩,by omega,hR16,Own.sel ‹_› [0,1,3,4,2] rfl⟩
theorem vL {t:List UInt8}{i:Nat}{a b:UInt8}:Lib.hasPrefix (t.drop i) [a,b]=true↔t[i]?=some a∧t[i+1]?=some b:=by
 have h1:(t.drop i)[0]?=t[i]?:=by rw[List.getElem?_drop];rfl
 have h2:(t.drop i)[1]?=t[i+1]?:=by rw[List.getElem?_drop]
 rw[← h1,← h2]
 generalize t.drop i=l
 unfold Lib.hasPrefix
 match l with
 | []=>simp
 | [x]=>simp[List.isPrefixOf]
 | x::y::r =>
  rw[List.isPrefixOf_iff_prefix,List.cons_prefix_cons,List.cons_prefix_cons]
  simp only[List.nil_prefix,and_true,lgZ,lgS,Option.some.injEq]
  exact⟨fun h=>⟨h.1.symm,h.2.symm⟩,fun h=>⟨h.1.symm,h.2.symm⟩⟩
theorem uE:∀(l acc:List UInt8)(k:Nat),eL l acc k≠.none
 | [],_,_=>by simp[eL]
 | [c],acc,k=>by
  rw[eL]
  split
  ·split<;>simp
  ·split<;>simp
 | c::d::r,acc,k=>by
  rw[eL]
  split
  ·split<;>simp
  ·split
   ·simp
   ·split
    ·split
     ·simp
     ·exact uE r _ _
    ·exact uE (d::r) _ _
theorem xR:∀(l acc:List UInt8)(k:Nat) {e:Int},eL l acc k=.err e→e=3∨e=5∨e=7
 | [],_,_,_,h=>by cases h;omega
 | [c],acc,k,_,h=>by
  rw[eL]at h
  split at h
  ·split at h<;>cases h
   omega
  ·split at h<;>cases h<;>omega
 | c::d::r,acc,k,_,h=>by
  rw[eL]at h
  split at h
  ·split at h<;>cases h
   omega
  ·split at h
   ·cases h;omega
   ·split at h
    ·split at h
     ·cases h;omega
     ·exact xR r _ _ h
    ·exact xR (d::r) _ _ h
theorem pZ:∀(l acc:List UInt8)(k:Nat) {kd n:Int}{x:List UInt8}{len:Nat},eL l acc k=.tok kd x n len→kd=3∧n=0
 | [],_,_,_,_,_,_,h=>by cases h
 | [c],acc,k,_,_,_,_,h=>by
  rw[eL]at h
  split at h
  ·split at h<;>cases h
   exact⟨rfl,rfl⟩
  ·split at h<;>cases h
 | c::d::r,acc,k,_,_,_,_,h=>by
  rw[eL]at h
  split at h
  ·split at h<;>cases h
   exact⟨rfl,rfl⟩
  ·split at h
   ·cases h
   ·split at h
    ·split at h
     ·cases h
     ·exact pZ r _ _ h
    ·exact pZ (d::r) _ _ h
theorem letter_not {c:UInt8}(h:dO c=true):bX c=false∧c.toNat≠34:=by
 simp only[dO,bX,decide_eq_true_eq,decide_eq_false_iff_not]at *
 omega
theorem jS {c:UInt8}{r:List UInt8}(hc:dO c=true):fU (c::r)=if 24<bO bZ (c::r) then .err 3 else .tok 1 ((c::r).take (bO bZ (c::r))) 0 (bO bZ (c::r)):=by
 have:vP (c::r)=if 24<bO bZ (c::r) then .err 3 else .tok 1 ((c::r).take (bO bZ (c::r))) 0 (bO bZ (c::r)):=by rw[vP,if_pos hc]
 unfold fU readers iS
 rw[this]
 by_cases h:24<bO bZ (c::r)
 ·simp only[if_pos h]
 ·simp only[if_neg h]
theorem uL {c:UInt8}{r:List UInt8}(hc:dO c=false):vP (c::r)=.none:=by
 rw[vP,if_neg (by rw[hc];simp)]
theorem span_zero {p:UInt8→Bool}{c:UInt8}{r:List UInt8}(hc:p c=false):bO p (c::r)=0:=by
 unfold bO;rw[List.takeWhile_cons,hc];rfl
theorem kQ {c:UInt8}{r:List UInt8}(hl:dO c=false)(hc:bX c=true):fU (c::r)=if 10<bO bX (c::r)∨bO bX (c::r)<bO bZ (c::r) then .err 6 else .tok 2 ((c::r).take (bO bX (c::r))) (undec ((c::r).take (bO bX (c::r)))) (bO bX (c::r)):=by
 have h0:¬ bO bX (c::r)=0:=by have:=aAm (r:=r) hc;omega
 unfold fU readers iS
 rw[uL hl]
 simp only[iS,oJ,if_neg h0]
 by_cases h:10<bO bX (c::r)∨bO bX (c::r)<bO bZ (c::r)
 ·simp only[if_pos h]
 ·simp only[if_neg h]
theorem vO {c:UInt8}{r:List UInt8}(hc:bX c=false):oJ (c::r)=.none:=by
 rw[oJ,if_pos (span_zero hc)]
theorem kP {c:UInt8}{r:List UInt8}(hl:dO c=false)(hd:bX c=false)(hc:c.toNat=34):fU (c::r)=eL r [] 0:=by
 unfold fU readers iS
 rw[uL hl]
 simp only[iS,vO hd,rE,if_pos hc]
 cases h:eL r [] 0 with
 | none=>exact absurd h (uE _ _ _)
 | _=>rfl
theorem lH {c:UInt8}{r:List UInt8}(hl:dO c=false)(hd:bX c=false)(hc:c.toNat≠34):fU (c::r)=if rU (c::r)=0 then .err 5 else .tok 4 ((c::r).take (rU (c::r))) 0 (rU (c::r)):=by
 unfold fU readers iS
 rw[uL hl]
 simp only[iS,vO hd,rE,if_neg hc,sR]
 by_cases h:rU (c::r)=0
 ·simp only[if_pos h]
 ·simp only[if_neg h]
theorem undec_snoc (l:List UInt8)(c:UInt8):undec (l++[c])=undec l*10+(c.toNat - 48):=by
 simp[undec,List.foldl_append]
theorem wC {c:UInt8}(h:bX c=true):bZ c=true:=by simp[bZ,h]
theorem undec_lt (l:List UInt8)(h:∀ c∈l,bX c=true):undec l<10 ^ l.length:=by
 have key:∀(r:List UInt8),(∀ c∈r,bX c=true)→undec r.reverse<10 ^ r.length:=by
  intro r
  induction r with
  | nil=>intro _;simp[undec]
  | cons c r ih =>
   intro h;have h1:=ih (fun d hd=>h d (by simp[hd]));have h2:=zA (h c (by simp))
   rw[List.reverse_cons,undec_snoc,List.length_cons,Nat.pow_succ]
   omega
 have:=key l.reverse (fun c hc=>h c (by simpa using hc))
 simpa using this
theorem readR_err {l:List UInt8}{e:Int}(h:fU l=.err e):e=3∨e=5∨e=6∨e=7:=by
 cases l with
 | nil =>
  have:fU []=.err 5:=rfl
  rw[this]at h
  cases h;omega
 | cons c r =>
  cases hl:dO c with
  | true =>
   rw[jS hl]at h
   split at h<;>cases h
   omega
  | false =>
   cases hd:bX c with
   | true =>
    rw[kQ hl hd]at h
    split at h<;>cases h
    omega
   | false =>
    by_cases h34:c.toNat=34
    ·rw[kP hl hd h34]at h
     have:=xR _ _ _ h
     omega
    ·rw[lH hl hd h34]at h
     split at h<;>cases h
     omega
theorem readR_some (l:List UInt8):fU l≠.none:=by
 have key:∀ rs,iS rs l≠.none:=by
  intro rs
  induction rs with
  | nil=>simp[iS]
  | cons r rs ih =>
   rw[iS]
   split
   ·exact ih
   ·assumption
 exact key _
theorem symN_cons (c:UInt8)(r:List UInt8):rU (c::r)=if (r[0]?=some 61∧(c=33∨c=60)) then 2 else if c∈symB then 1 else 0:=by
 have h0:(c::r)[0]?=some c:=rfl;have hs:=symN_at h0;have p1:=vL (t:=c::r) (i:=0) (a:=33) (b:=61);have p2:=vL (t:=c::r) (i:=0) (a:=60) (b:=61)
 simp only[List.drop_zero,lgZ,Nat.zero_add,lgS,Option.some.injEq]at hs p1 p2
 rw[hs]
 by_cases h:r[0]?=some 61∧(c=33∨c=60)
 ·rw[if_pos h,if_pos]
  rcases h with ⟨h1,rfl|rfl⟩
  ·exact .inl (p1.2 ⟨rfl,h1⟩)
  ·exact .inr (p2.2 ⟨rfl,h1⟩)
 ·rw[if_neg h,if_neg]
  rintro(e|e)
  ·exact h ⟨(p1.1 e).2,.inl (p1.1 e).1⟩
  ·exact h ⟨(p2.1 e).2,.inr (p2.1 e).1⟩
def Post {α:Type}(m:PM α)(φ:α→Prop):Prop:=∀ ts a r,m ts=.ok (a,r)→φ a
theorem eY {α:Type}{φ:α→Prop}{a:α}(h:φ a):Post (pure a:PM α) φ:=by
 intro ts x r e;cases e;exact h
theorem bL {α β:Type}{m:PM α}{f:α→PM β}{φ:β→Prop}(hf:∀ a,Post (f a) φ):Post (m >>= f) φ:=by
 intro ts b r h;cases hq:m ts with
 | error e=>rw[PM.aBy hq]at h;cases h
 | ok p =>
  obtain⟨a,q⟩:=p
  rw[PM.aBz hq]at h
  exact hf a _ _ _ h
theorem post_from {α β:Type}{m:PM α}{f:α→PM β}{ψ:α→Prop}{φ:β→Prop}(hm:Post m ψ)(hf:∀ a,ψ a→Post (f a) φ):Post (m >>= f) φ:=by
 intro ts b r h;cases hq:m ts with
 | error e=>rw[PM.aBy hq]at h;cases h
 | ok p =>
  obtain⟨a,q⟩:=p
  rw[PM.aBz hq]at h
  exact hf a (hm _ _ _ hq) _ _ _ h
theorem gM {α:Type}{p:Prop} [Decidable p] {m n:PM α}{φ:α→Prop}(hm:Post m φ)(hn:Post n φ):Post (if p then m else n) φ:=by
 split
 ·exact hm
 ·exact hn
def Kept (x y:It):Prop:=y.kind=x.kind∧y.name=x.name∧y.off=x.off
theorem vW (z:Nat)(x:It):Post (lG z x) (Kept x):=bL fun _=>bL fun _=>bL fun _=>bL fun _=>bL fun _=>eY ⟨rfl,rfl,rfl⟩
theorem kept_part (z:Nat)(k:Int)(x:It):Post (mF z k x) (Kept x):=by
 unfold mF;refine gM ?_ (gM ?_ (gM ?_ (gM ?_ (gM ?_ (gM ?_ (gM ?_ (gM ?_ (gM ?_ ?_))))))))
 ·exact bL fun _=>bL fun _=>bL fun _=>bL fun _=>eY ⟨rfl,rfl,rfl⟩
 ·exact bL fun _=>bL fun _=>eY ⟨rfl,rfl,rfl⟩
 ·exact bL fun _=>bL fun _=>bL fun _=>bL fun _=>gM (bL fun _=>eY ⟨rfl,rfl,rfl⟩) (gM (bL fun _=>bL fun _=>eY ⟨rfl,rfl,rfl⟩) (eY ⟨rfl,rfl,rfl⟩))
 ·exact bL fun _=>bL fun _=>bL fun _=>bL fun _=>bL fun _=>bL fun _=>eY ⟨rfl,rfl,rfl⟩
 ·exact bL fun _=>bL fun _=>bL fun _=>eY ⟨rfl,rfl,rfl⟩
 ·exact vW z x
 ·refine post_from (vW z x) fun y hy=>bL fun _=>bL fun _=>bL fun _=>gM (bL fun _=>eY ?_) (eY ?_)
  ·exact hy
  ·exact hy
 ·exact bL fun _=>bL fun _=>bL fun _=>eY ⟨rfl,rfl,rfl⟩
 ·exact bL fun _=>bL fun _=>eY ⟨rfl,rfl,rfl⟩
 ·exact bL fun _=>bL fun _=>eY ⟨rfl,rfl,rfl⟩
theorem Dec.lit (z:Nat):Dec (litE z) :=
 Dec.opt (Dec.bind (Dec.num z) fun _=>Dec.pure _) (Dec.opt (Dec.bind (Dec.num z) fun _=>Dec.pure _) (Dec.opt (Dec.pure _) (Dec.opt (Dec.pure _) (Dec.opt (Dec.pure _) (Dec.pure _)))))
theorem Dec.literal (z:Nat):Dec (fC z):=by
 intro ts a r h;cases ts with
 | nil=>cases h;exact Nat.le_refl _
 | cons t q =>
  unfold fC at h;dsimp only at h;split at h
  ·cases h;simp
  ·split at h
   ·cases h;simp
   ·exact Dec.lit z _ _ _ h
theorem Dec.value (z:Nat):Dec (rT z):=Dec.bind (Dec.literal z) fun o=>by cases o<;>first|exact Dec.fail _ _|exact Dec.pure _
theorem Dec.side (z:Nat):Dec (xL z):=Dec.bind (Dec.literal z) fun o=>by
 cases o with
 | some v=>exact Dec.pure _
 | none=>exact Dec.bind (Dec.name z) fun _=>Dec.opt (Dec.bind (Dec.name z) fun _=>Dec.pure _) (Dec.pure _)
theorem Dec.cond (z:Nat):Dec (zD z) :=
 Dec.bind (Dec.side z) fun _=>Dec.bind (Dec.word _ _ _) fun _=>Dec.bind (Dec.side z) fun _=>Dec.opt (Dec.bind (Dec.num z) fun _=>Dec.pure _) (Dec.opt (Dec.bind (Dec.num z) fun _=>Dec.pure _) (Dec.pure _))
theorem Dec.column (z:Nat):Dec (oV z) :=
 Dec.bind (Dec.name z) fun _=>Dec.bind (Dec.word _ _ _) fun _=>Dec.opt (Dec.bind (Dec.value z) fun _=>Dec.pure _) (Dec.pure _)
theorem Dec.fixed (z:Nat):Dec (sD z):=Dec.bind (Dec.name z) fun _=>Dec.bind (Dec.need _ _) fun _=>Dec.bind (Dec.value z) fun _=>Dec.pure _
theorem Dec.var (z:Nat):Dec (varP z):=Dec.bind (Dec.name z) fun _=>Dec.bind (Dec.name z) fun _=>Dec.pure _
theorem Dec.term (z:Nat):Dec (pP z):=fun _ _ _ h=>by have:=xF h;omega
theorem Dec.listA {α:Type}{sep:List UInt8}{one:PM α}(h:Dec one):∀(n:Nat)(acc:List α),Dec (Go.Proofs.YtohlogbnpfofpaaGreatDoor.listA sep one n acc)
 | 0,_=>Dec.pure _
 | n+1,acc=>Dec.opt (Dec.bind h fun _=>Dec.listA h n _) (Dec.pure _)
theorem Dec.list {α:Type}{sep:List UInt8}{one:PM α}(h:Dec one):Dec (jU sep one):=Dec.bind h fun _ ts a r e=>Dec.listA h _ _ ts a r e
theorem Dec.names (z:Nat):Dec (nE z):=Dec.list (Dec.name z)
theorem Dec.namesU (z:Nat)(s:List UInt8):Dec (Go.Proofs.YtohlogbnpfofpaaGreatDoor.namesU z s):=by
 intro ts a r h;cases hb:bK [s] ts with
 | true=>rw[kF hb]at h;cases h;exact Nat.le_refl _
 | false=>rw[jJ hb]at h;exact Dec.names z _ _ _ h
theorem Dec.conds (z:Nat):Dec (oU z):=Dec.bind (Dec.need _ _) fun _=>Dec.list (Dec.cond z)
theorem Dec.place (z:Nat):Dec (oH z):=Dec.bind (Dec.name z) fun _=>Dec.bind (Dec.need _ _) fun _=>Dec.bind (Dec.name z) fun _=>Dec.pure _
theorem Dec.termsA (z:Nat):∀(n:Nat)(acc:List Trm),Dec (Go.Proofs.YtohlogbnpfofpaaGreatDoor.termsA z n acc)
 | 0,_=>Dec.pure _
 | n+1,acc=>by
  intro ts a r h;cases hb:bK [[125]] ts with
  | true=>rw[lX hb]at h;cases h;exact Nat.le_refl _
  | false=>rw[nN hb]at h;exact(Dec.bind (Dec.term z) fun _=>Dec.termsA z n _) _ _ _ h
theorem Dec.rest (z i off:Nat)(kids:List Ex):Dec (eS z i off kids):=by
 match i with
 | 0=>exact Dec.bind (Dec.conds z) fun _=>Dec.pure _
 | 1=>exact Dec.bind (Dec.need _ _) fun _=>Dec.bind (Dec.namesU _ _) fun _=>Dec.pure _
 | 2=>exact Dec.pure _
 | 3=>exact Dec.pure _
 | 4=>exact Dec.pure _
 | 5=>exact Dec.bind (Dec.need _ _) fun _=>Dec.bind (Dec.name z) fun _=>Dec.bind (Dec.need _ _) fun _=>Dec.bind (Dec.name z) fun _=>Dec.pure _
 | 6=>exact Dec.bind (Dec.need _ _) fun _=>Dec.bind (Dec.namesU _ _) fun _=>Dec.bind (Dec.need _ _) fun _=>Dec.bind (Dec.word _ _ _) fun _=>Dec.bind (Dec.ifP (Dec.name z)) fun _=>Dec.bind (Dec.need _ _) fun _=>Dec.bind (Dec.name z) fun _=>Dec.pure _
 | n+7=>exact Dec.pure _
theorem Dec.expr (z:Nat):∀(n:Nat),Dec (cJ z n)
 | 0=>Dec.fail z 3
 | n+1=>by
  intro ts a r h
  rw[cJ]at h
  cases ho:pC ts with
  | none =>
   simp only[ho]at h
   exact(Dec.bind (Dec.name z) fun _=>Dec.pure _) _ _ _ h
  | some i =>
   simp only[ho]at h
   exact(Dec.bind (Dec.need _ _) fun _=>Dec.bind (Dec.expr z n) fun _=>Dec.bind (Dec.ifP (Dec.bind (Dec.need _ _) fun _=>Dec.bind (Dec.expr z n) fun _=>Dec.pure _)) fun _=>Dec.bind (Dec.rest _ _ _ _) fun _=>Dec.bind (Dec.need _ _) fun _=>Dec.pure _) _ _ _ h
theorem Dec.ite {α:Type}{p:Prop} [Decidable p] {m n:PM α}(hm:Dec m)(hn:Dec n):Dec (if p then m else n):=by
 split
 ·exact hm
 ·exact hn
theorem Dec.unique (z:Nat)(x:It):Dec (lG z x):=Dec.bind (Dec.need _ _) fun _=>Dec.bind (Dec.name z) fun _=>Dec.bind (Dec.need _ _) fun _=>Dec.bind (Dec.names z) fun _=>Dec.bind (Dec.need _ _) fun _=>Dec.pure _
theorem Dec.part (z:Nat)(k:Int)(x:It):Dec (mF z k x):=by
 unfold mF;refine Dec.ite ?_ (Dec.ite ?_ (Dec.ite ?_ (Dec.ite ?_ (Dec.ite ?_ (Dec.ite ?_ (Dec.ite ?_ (Dec.ite ?_ (Dec.ite ?_ ?_))))))))
 ·exact Dec.bind (Dec.need _ _) fun _=>Dec.bind (Dec.list (Dec.column z)) fun _=>Dec.bind (Dec.need _ _) fun _=>Dec.bind (Dec.names z) fun _=>Dec.pure _
 ·exact Dec.bind (Dec.need _ _) fun _=>Dec.bind (Dec.num z) fun _=>Dec.pure _
 ·exact Dec.bind (Dec.need _ _) fun _=>Dec.bind (Dec.place z) fun _=>Dec.bind (Dec.need _ _) fun _=>Dec.bind (Dec.word _ _ _) fun _=>Dec.ite (Dec.bind (Dec.num z) fun _=>Dec.pure _) (Dec.ite (Dec.bind (Dec.num z) fun _=>Dec.bind (Dec.num z) fun _=>Dec.pure _) (Dec.pure _))
 ·exact Dec.bind (Dec.need _ _) fun _=>Dec.bind (Dec.name z) fun _=>Dec.bind (Dec.need _ _) fun _=>Dec.bind (Dec.num z) fun _=>Dec.bind (Dec.need _ _) fun _=>Dec.bind (fun ts a r e=>Dec.termsA z _ _ ts a r e) fun _=>Dec.pure _
 ·exact Dec.bind (Dec.place z) fun _=>Dec.bind (Dec.need _ _) fun _=>Dec.bind (Dec.word _ _ _) fun _=>Dec.pure _
 ·exact Dec.unique z x
 ·exact Dec.bind (Dec.unique z x) fun _=>Dec.bind (Dec.need _ _) fun _=>Dec.bind (Dec.name z) fun _=>Dec.opt (Dec.bind (Dec.list (Dec.fixed z)) fun _=>Dec.pure _) (Dec.pure _)
 ·exact Dec.bind (Dec.place z) fun _=>Dec.bind (Dec.need _ _) fun _=>Dec.bind (Dec.place z) fun _=>Dec.pure _
 ·exact Dec.bind (Dec.list (Dec.var z)) fun _=>Dec.bind (Dec.conds z) fun _=>Dec.pure _
 ·exact Dec.bind (Dec.need _ _) fun _=>Dec.bind (Dec.expr z 12) fun _=>Dec.pure _
section
variable {Q : Nat → Nat → Prop}
class QT (Q : Nat → Nat → Prop) : Prop where
 tot:∀ n,∃ n',Q n n'
 zero:Q 0 0
instance:QT Eq:=⟨fun n=>⟨n,rfl⟩,rfl⟩
instance:QT fun _ _=>True:=⟨fun n=>⟨n,trivial⟩,trivial⟩
end
def BPost {α:Type}(N:Nat)(m:PM α)(φ:α→Prop):Prop:=∀ ts a r,ts.length≤N→m ts=.ok (a,r)→φ a
section
variable {N : Nat}
theorem bW {α:Type}{φ:α→Prop}{a:α}(h:φ a):BPost N (pure a:PM α) φ:=by
 intro ts x r _ e;cases e;exact h
theorem aV {α β:Type}{m:PM α}{f:α→PM β}{φ:β→Prop}(hd:Dec m)(hf:∀ a,BPost N (f a) φ):BPost N (m >>= f) φ:=by
 intro ts b r hl h;cases hq:m ts with
 | error e=>rw[PM.aBy hq]at h;cases h
 | ok p =>
  obtain⟨a,q⟩:=p
  rw[PM.aBz hq]at h
  exact hf a _ _ _ (Nat.le_trans (hd _ _ _ hq) hl) h
theorem dI {α β:Type}{m:PM α}{f:α→PM β}{ψ:α→Prop}{φ:β→Prop}(hd:Dec m)(hm:BPost N m ψ)(hf:∀ a,ψ a→BPost N (f a) φ):BPost N (m >>= f) φ:=by
 intro ts b r hl h;cases hq:m ts with
 | error e=>rw[PM.aBy hq]at h;cases h
 | ok p =>
  obtain⟨a,q⟩:=p
  rw[PM.aBz hq]at h
  exact hf a (hm _ _ _ hl hq) _ _ _ (Nat.le_trans (hd _ _ _ hq) hl) h
theorem fL {α:Type}{p:Prop} [Decidable p] {m n:PM α}{φ:α→Prop}(hm:BPost N m φ)(hn:BPost N n φ):BPost N (if p then m else n) φ:=by
 split
 ·exact hm
 ·exact hn
theorem bpost_opt {α:Type}{s:List UInt8}{m n:PM α}{φ:α→Prop}(h1:BPost N m φ)(h2:BPost N n φ):BPost N (dK s >>= fun b=>if b=true then m else n) φ :=
 aV (Dec.take s) fun b=>by cases b<;>assumption
theorem aAA {α:Type}{sep:List UInt8}{one:PM α}(hd:Dec one):∀(n:Nat)(acc:List α)(ts:List Tok)(l:List α)(r:List Tok),listA sep one n acc ts=.ok (l,r)→l.length+r.length≤acc.length+ts.length
 | 0,acc,ts,l,r,h=>by cases h;exact Nat.le_refl _
 | n+1,acc,ts,l,r,h=>by
  cases hq:dK sep ts with
  | error e=>exact absurd hq (cS _ _ _)
  | ok x =>
   obtain⟨b,q⟩:=x
   cases b with
   | false=>rw[nU hq]at h;cases h;have:=gB hq;subst this;exact Nat.le_refl _
   | true =>
    rw[lS hq]at h
    have hl:=lY hq;cases h3:one q with
    | error e=>rw[PM.aBy h3]at h;cases h
    | ok y =>
     obtain⟨a,w⟩:=y
     have:=hd _ _ _ h3
     rw[PM.aBz h3]at h
     have ih:=aAA hd n (acc++[a]) w l r h
     simp at ih
     omega
theorem mP {α:Type}{sep:List UInt8}{one:PM α}(hd:Dec one):BPost N (jU sep one) fun l=>l.length≤N+1:=by
 intro ts l r hl h;cases h3:one ts with
 | error e=>exact absurd ((PM.aBy (f:=fun a=>(fun ts=>listA sep one (ts.length+1) [a] ts:PM (List α))) h3).symm.trans h) (by simp)
 | ok y =>
  obtain⟨a,w⟩:=y
  have:=hd _ _ _ h3
  have h':=(PM.aBz (f:=fun a=>(fun ts=>listA sep one (ts.length+1) [a] ts:PM (List α))) h3).symm.trans h
  have:=aAA hd _ _ _ _ _ h'
  simp at this
  omega
theorem qX (z:Nat):BPost N (nE z) fun l=>l.length≤N+1:=mP (Dec.name z)
theorem tT (z:Nat)(s:List UInt8):BPost N (namesU z s) fun l=>l.length≤N+1:=by
 intro ts a r hl h;cases hb:bK [s] ts with
 | true=>rw[kF hb]at h;cases h;simp
 | false=>rw[jJ hb]at h;exact qX z _ _ _ hl h
theorem wG (z:Nat):BPost N (oU z) fun l=>l.length≤N+1:=aV (Dec.need _ _) fun _=>mP (Dec.cond z)
theorem xE (z:Nat):∀(n:Nat)(acc:List Trm)(ts:List Tok)(l:List Trm)(r:List Tok),termsA z n acc ts=.ok (l,r)→l.length+r.length≤acc.length+ts.length
 | 0,acc,ts,l,r,h=>by cases h;exact Nat.le_refl _
 | n+1,acc,ts,l,r,h=>by
  cases hb:bK [[125]] ts with
  | true=>rw[lX hb]at h;cases h;exact Nat.le_refl _
  | false =>
   rw[nN hb]at h
   cases h3:pP z ts with
   | error e=>rw[PM.aBy h3]at h;cases h
   | ok y =>
    obtain⟨a,w⟩:=y
    have:=xF h3
    rw[PM.aBz h3]at h
    have ih:=xE z n (acc++[a]) w l r h
    simp at ih
    omega
theorem bpost_terms (z:Nat):BPost N (fun ts=>termsA z (ts.length+1) [] ts) fun l=>l.length≤N+1:=by
 intro ts l r hl h
 have:=xE z _ _ _ _ _ h
 simp at this
 omega
mutual
def ExB (N:Nat):Ex→Prop
 | .mk _ _ ks c n _ _ _ _=>ks.length≤N∧c.length≤N∧n.length≤N∧aBw N ks
def aBw (N:Nat):List Ex→Prop
 | []=>True
 | x::xs=>ExB N x∧aBw N xs
end
structure ItB (N:Nat) (x:It):Prop where
 cols:x.cols.length≤N
 names:x.names.length≤N
 terms:x.terms.length≤N
 fixed:x.fixed.length≤N
 vars:x.vars.length≤N
 conds:x.conds.length≤N
 expr:ExB N x.expr
theorem nF {k:Int}{t:List UInt8}{ks:List Ex}{c:List Cnd}{n:List (List UInt8)}{a s:List UInt8}{g:Int}{o:Nat}{M:Nat}(h1:ks.length≤M)(h2:c.length≤M)(h3:n.length≤M)(h4:aBw M ks):ExB M (.mk k t ks c n a s g o):=by
 rw[ExB];exact⟨h1,h2,h3,h4⟩
theorem bpost_rest (z i off:Nat) {kids:List Ex}(hk:kids.length≤2)(hN:1≤N)(hks:aBw (N+1) kids):BPost N (eS z i off kids) (ExB (N+1)):=by
 have h0:kids.length≤N+1:=by omega
 match i with
 | 0=>exact dI (Dec.conds z) (wG z) fun c hc=>bW (nF h0 hc (by simp) hks)
 | 1=>exact aV (Dec.need _ _) fun _=>dI (Dec.namesU _ _) (tT _ _) fun l hl=>bW (nF h0 (by simp) hl hks)
 | 2=>exact bW (nF h0 (by simp) (by simp) hks)
 | 3=>exact bW (nF h0 (by simp) (by simp) hks)
 | 4=>exact bW (nF h0 (by simp) (by simp) hks)
 | 5=>exact aV (Dec.need _ _) fun _=>aV (Dec.name z) fun _=>aV (Dec.need _ _) fun _=>aV (Dec.name z) fun _=>bW (nF h0 (by simp) (by simp) hks)
 | 6=>exact aV (Dec.need _ _) fun _=>dI (Dec.namesU _ _) (tT _ _) fun l hl=>aV (Dec.need _ _) fun _=>aV (Dec.word _ _ _) fun _=>aV (Dec.ifP (Dec.name z)) fun _=>aV (Dec.need _ _) fun _=>aV (Dec.name z) fun _=>bW (nF h0 (by simp) hl hks)
 | n+7=>exact bW (nF h0 (by simp) (by simp) hks)
theorem sH (z:Nat)(hN:1≤N):∀(n:Nat),BPost N (cJ z n) (ExB (N+1))
 | 0=>fun ts a r _ h=>by cases h
 | n+1=>by
  intro ts a r hl h
  rw[cJ]at h
  cases ho:pC ts with
  | none =>
   simp only[ho]at h
   refine(aV (N:=N) (φ:=ExB (N+1)) (Dec.name z) fun t=>bW ?_) _ _ _ hl h
   exact nF (by simp) (by simp) (by simp) trivial
  | some i =>
   simp only[ho]at h
   refine(aV (N:=N) (φ:=ExB (N+1)) (Dec.need _ _) fun _=>dI (ψ:=ExB (N+1)) (Dec.expr z n) (sH z hN n) fun a ha=>?_) _ _ _ hl h
   refine dI (ψ:=fun ks=>ks.length≤2∧aBw (N+1) ks) (Dec.ifP (Dec.bind (Dec.need _ _) fun _=>Dec.bind (Dec.expr z n) fun _=>Dec.pure _)) ?_ fun ks hks=>?_
   ·unfold ifP
    exact fL (aV (Dec.need _ _) fun _=>dI (ψ:=ExB (N+1)) (Dec.expr z n) (sH z hN n) fun b hb=>bW ⟨by simp,ha,hb,trivial⟩) (bW ⟨by simp,ha,trivial⟩)
   ·exact dI (Dec.rest _ _ _ _) (bpost_rest z i _ hks.1 hN hks.2) fun x hx=>aV (Dec.need _ _) fun _=>bW hx
theorem tS (z:Nat) {x:It}(h:ItB (N+1) x):BPost N (lG z x) (ItB (N+1)) :=
 aV (Dec.need _ _) fun _=>aV (Dec.name z) fun _=>aV (Dec.need _ _) fun _=>dI (Dec.names z) (qX z) fun l hl=>aV (Dec.need _ _) fun _=>bW { h with names:=hl }
theorem bpost_part (z:Nat)(hN:1≤N)(k:Int) {x:It}(h:ItB (N+1) x):BPost N (mF z k x) (ItB (N+1)):=by
 unfold mF;refine fL ?_ (fL ?_ (fL ?_ (fL ?_ (fL ?_ (fL ?_ (fL ?_ (fL ?_ (fL ?_ ?_))))))))
 ·exact aV (Dec.need _ _) fun _=>dI (Dec.list (Dec.column z)) (mP (Dec.column z)) fun c hc=>aV (Dec.need _ _) fun _=>dI (Dec.names z) (qX z) fun l hl=>bW { h with cols:=hc,names:=hl }
 ·exact aV (Dec.need _ _) fun _=>aV (Dec.num z) fun _=>bW { h with }
 ·exact aV (Dec.need _ _) fun _=>aV (Dec.place z) fun _=>aV (Dec.need _ _) fun _=>aV (Dec.word _ _ _) fun _=>fL (aV (Dec.num z) fun _=>bW { h with }) (fL (aV (Dec.num z) fun _=>aV (Dec.num z) fun _=>bW { h with }) (bW { h with }))
 ·exact aV (Dec.need _ _) fun _=>aV (Dec.name z) fun _=>aV (Dec.need _ _) fun _=>aV (Dec.num z) fun _=>aV (Dec.need _ _) fun _=>dI (fun ts a r e=>Dec.termsA z _ _ ts a r e) (bpost_terms z) fun l hl=>bW { h with terms:=hl }
 ·exact aV (Dec.place z) fun _=>aV (Dec.need _ _) fun _=>aV (Dec.word _ _ _) fun _=>bW { h with }
 ·exact tS z h
 ·exact dI (Dec.unique z x) (tS z h) fun y hy=>aV (Dec.need _ _) fun _=>aV (Dec.name z) fun _=>bpost_opt (dI (Dec.list (Dec.fixed z)) (mP (Dec.fixed z)) fun l hl=>bW { hy with fixed:=hl }) (bW { hy with })
 ·exact aV (Dec.place z) fun _=>aV (Dec.need _ _) fun _=>aV (Dec.place z) fun _=>bW { h with }
 ·exact dI (Dec.list (Dec.var z)) (mP (Dec.var z)) fun v hv=>dI (Dec.conds z) (wG z) fun c hc=>bW { h with vars:=hv,conds:=hc }
 ·exact aV (Dec.need _ _) fun _=>dI (Dec.expr z 12) (sH z hN 12) fun x hx=>bW { h with expr:=hx }
end
end Go.Proofs.YtohlogbnpfofpaaGreatDoor
namespace Go.Proofs.YtohlogbnpfofpaaGreatDoor
open Go
def aBu (Q:QQ)(ops:Array Oper):Prop:=∀(i:Nat)(o:Oper)(d:Tmp),ops[i]?=some o→o.dst=some d→∀ c s v h,Q (.panic c) (s.set d v) h→Q (.panic c) s h
def dstsIn (PD:List Nat)(ops:Array Oper):Bool:=ops.toList.all fun o=>match o.dst with|some d=>mem PD d|none=>true
theorem aBu.of {Q:QQ}{ops:Array Oper}(PD:List Nat)(hd:dstsIn PD ops=true)(hp:∀ d,mem PD d=true→∀ c s v h,Q (.panic c) (s.set d v) h→Q (.panic c) s h):aBu Q ops:=by
 intro i o d hi ho c s v h hq;have hm:o∈ops.toList:=by
  have:ops.toList[i]?=some o:=by simpa using hi
  exact List.mem_of_getElem? this
 have:=List.all_eq_true.1 hd o hm
 rw[ho]at this
 exact hp d this c s v h hq
theorem aBg {Q:QQ}{ops:Array Oper}{w0:World}{ds:List Deferred}{i:Nat}{o:Oper}(hp:aBu Q ops)(hi:ops[i]?=some o)(v:Value):∀ c a w,lift w0 ds Q (.panic c) (Act.put a o.dst v) w→lift w0 ds Q (.panic c) a w:=by
 rintro c a w ⟨s,ha,hs,hq⟩;cases hd:o.dst with
 | none=>rw[hd]at ha;exact⟨s,ha,hs,hq⟩
 | some d =>
  rw[hd]at ha
  have hds:a.defers=ds:=by
   have:(a.put (some d) v).defers=ds:=by rw[ha];rfl
   exact this
  obtain⟨tm,df⟩:=a
  simp only at hds;subst hds;have e:s=tm.toList.set d v:=by
   have:=congrArg Act.tmps ha
   simp[Act.put,act]at this
   have:=congrArg Array.toList this
   simpa using this.symm
  subst e
  exact⟨tm.toList,by simp[act],hs,hp i o d hi hd c _ v _ hq⟩
theorem pT {l:List Value}{d n:Nat}{v:Value}(h:d≠n):sget (l.set d v) n=sget l n:=by
 rw[← dA,← dA,List.getD_eq_getElem?_getD,List.getD_eq_getElem?_getD,List.getElem?_set_ne h]
section
variable {P : Program} {ops : Array Oper} {Q : QQ} {w0 : World} {ds : List Deferred} {st0 stR tails : List Nat} {E : Heap → Heap → Prop} {A : Addr → Prop}
theorem step_skipP {listed:Array Bool}{i n:Nat}{o:Oper}{s:List Value}{w:World}(hE0:∀ h,E h h)(hp:aBu Q ops)(hsel:Region.noSelect ops=true)
  (hi:ops[i]?=some o) (hw:Region.wanted o (yielded ops (act s ds).tmps)=false) (hcl:Closed ops listed)
  (hok:(bif mem st0 i||mem stR i then(Region.ready .any ops listed).contains i&&Region.free .any ops listed i else(Region.ready .any ops listed) == [i])=true)
  (ih:iF E P ops (lift w0 ds Q) (fun j=>!mem tails j) n (listed.setIfInBounds i true) ((act s ds).put o.dst undef) w) :
  iF E P ops (lift w0 ds Q) (fun j=>!mem tails j) (n+1) listed (act s ds) w:=by
 cases hc:(mem st0 i||mem stR i) with
 | true =>
  rw[hc]at hok
  simp only[cond_true,Bool.and_eq_true]at hok
  exact kC hi (Region.noSelect_spec hsel) (aBg hp hi _) hE0 (by simp) (.inl rfl) n listed _ w hcl (Region.free_spec hi hok.2) (by simpa using hok.1) (.inr ⟨hw,rfl⟩) (by simp) ih
 | false =>
  rw[hc]at hok
  simp only[cond_false,beq_iff_eq]at hok
  refine⟨fun h=>(by rw[h]at hok;cases hok),fun j hj=>?_⟩
  rw[hok]at hj
  simp only[List.mem_singleton]at hj;subst hj
  unfold wpOp
  simp only[hi,hw,Bool.false_eq_true,if_false]
  exact⟨fun _=>hE0 _,ih⟩
theorem step_runP {listed:Array Bool}{i n:Nat}{dst:Option Tmp}{op:Op}{ty:TypeId}{pos:String}{after:Array Edge}{guard:Option (Nat×Bool)}{D:List Nat}{s:List Value}{w:World}{K:KK}
  (hE0:∀ h,E h h) (hEA:∀ h h' a v,E h h'→A a→aX h a=some v→aX h' a=some v) (hp:aBu Q ops) (hsel:Region.noSelect ops=true) (htails:kK ops stR tails=true)
  (hi:ops[i]?=some ⟨dst,op,ty,pos,after,guard⟩) (hw:Region.wanted ⟨dst,op,ty,pos,after,guard⟩ (yielded ops (act s ds).tmps)=true) (hcl:Closed ops listed) (hs:Same w0 w)
  (hok:(bif mem st0 i||mem stR i then(Region.ready .any ops listed).contains i&&Region.free .any ops listed i else(Region.ready .any ops listed) == [i])=true)
  (hv:nL E A P st0 stR tails i op ty D s w.heap K Q)
  (ih:∀ v l w',Same w0 w'→K v l w'.heap→iF E P ops (lift w0 ds Q) (fun j=>!mem tails j) n (listed.setIfInBounds i true) ((act s ds).put dst v) w') :
  iF E P ops (lift w0 ds Q) (fun j=>!mem tails j) (n+1) listed (act s ds) w:=by
 have still:(mem st0 i||mem stR i)=true→(mem stR i=false→vopS true P op ty D s w.heap K)→(mem stR i=true→StillVCA A P op ty s w.heap K)→iF E P ops (lift w0 ds Q) (fun j=>!mem tails j) (n+1) listed (act s ds) w:=by
  intro hc hv0 hvR
  rw[hc]at hok
  simp only[cond_true,Bool.and_eq_true]at hok
  cases hm:mem stR i with
  | false =>
   obtain⟨v,l,reads,hre,hr,hrun,hk⟩:=(lU (hv0 hm)).ex
   have:=hre rfl
   subst this;exact kC (oi:=⟨dst,op,ty,pos,after,guard⟩) (v:=v) (reads:=[]) hi (Region.noSelect_spec hsel) (aBg hp hi _) hE0 (by simp) (.inl rfl) n listed _ w hcl (Region.free_spec hi hok.2) (by simpa using hok.1) (.inl ⟨hw,fun w hw'=>by rw[eJ,dP];exact hrun w hw'⟩) (fun r hm=>hr r hm) (ih v l w hs hk)
  | true =>
   obtain⟨v,l,reads,hr,hA,hrun,hk⟩:=(hvR hm).ex
   refine kC (oi:=⟨dst,op,ty,pos,after,guard⟩) (v:=v) (reads:=reads) hi (Region.noSelect_spec hsel) (aBg hp hi _) hE0 (fun h h' he r hr' hc=>hEA h h' r.1 r.2 he (hA r hr') hc) ?_ n listed _ w hcl (Region.free_spec hi hok.2) (by simpa using hok.1) (.inl ⟨hw,fun w hw'=>by rw[eJ,dP];exact hrun w hw'⟩) (fun r hm=>hr r hm) (ih v l w hs hk)
   right
   intro j hne hf;have hjt:j∈tails:=by rw[← mem_iff];simpa using hf
   have:=List.all_eq_true.1 (List.all_eq_true.1 htails j hjt) i ((mem_iff _ _).1 hm)
   simp only[Bool.or_eq_true,beq_iff_eq]at this
   rcases this with h|h
   ·exact absurd h.symm hne
   ·simpa using h
 unfold nL at hv;cases h0:mem st0 i with
 | true =>
  rw[h0]at hv
  refine still (by simp[h0]) (fun _=>hv) (fun _=>?_)
  exact(lU hv).toA
 | false =>
  rw[h0]at hv
  simp only[cond_false]at hv
  cases hR:mem stR i with
  | true=>rw[hR]at hv;exact still (by simp[hR]) (fun h=>by rw[hR]at h;cases h) (fun _=>vF hv)
  | false =>
   rw[hR]at hv
   simp only[cond_false]at hv
   rw[h0,hR]at hok
   simp only[Bool.or_false,cond_false,beq_iff_eq]at hok
   have fin:∀ K':KK,(∀ v l h',K' v l h'→(mem tails i=false→E w.heap h')∧K v l h')→vop P op ty D s w.heap K' Q→iF E P ops (lift w0 ds Q) (fun j=>!mem tails j) (n+1) listed (act s ds) w:=by
    intro K' hK' hv'
    refine⟨fun h=>(by rw[h]at hok;cases hok),fun j hj=>?_⟩
    rw[hok]at hj
    simp only[List.mem_singleton]at hj;subst hj
    unfold wpOp
    simp only[hi,hw,if_true]
    exact .inl ((nK hv').run w rfl ds dst pos after guard _ _
     (fun v l w' hw' hk=>⟨fun hf=>(hK' v l _ hk).1 (by simpa using hf),ih v l w' (hs.trans hw') (hK' v l _ hk).2⟩)
     (fun c w' hw' hq=>⟨s,rfl,hs.trans hw',hq⟩))
   cases ht:mem tails i with
   | true=>rw[ht]at hv;exact fin K (fun v l h' hk=>⟨fun h=>(by rw[ht]at h;cases h),hk⟩) hv
   | false=>rw[ht]at hv;exact fin _ (fun v l h' hk=>⟨fun _=>hk.1,hk.2⟩) hv
theorem vD (hE0:∀ h,E h h)(hEA:∀ h h' a v,E h h'→A a→aX h a=some v→aX h' a=some v)(hp:aBu Q ops)(hsel:Region.noSelect ops=true)(htails:kK ops stR tails=true) :
  ∀(ord:List Nat) (D:List Nat) (s:List Value) (w:World) (listed:Array Bool),Same w0 w→Closed ops listed→qF ops st0 stR ord listed=true→mV E A P ops.toList st0 stR tails ord D s w.heap Q →
   iF E P ops (lift w0 ds Q) (fun j=>!mem tails j) ord.length listed (act s ds) w
 | [],D,s,w,listed,hs,_,hok,hv=>⟨by simpa[qF] using hok,s,rfl,hs,hv⟩
 | i::rest,D,s,w,listed,hs,hcl,hok,hv=>by
  simp only[qF,Bool.and_eq_true]at hok
  obtain⟨hok,hrest⟩:=hok
  have hready:i∈Region.ready .any ops listed:=by
   cases hc:(mem st0 i||mem stR i) with
   | true=>rw[hc]at hok;simp only[cond_true,Bool.and_eq_true]at hok;simpa using hok.1
   | false=>rw[hc]at hok;simp only[cond_false,beq_iff_eq]at hok;rw[hok];simp
  have hcl':=hcl.set hready;have goOn:∀ D s (w:World),Same w0 w→mV E A P ops.toList st0 stR tails rest D s w.heap Q→iF E P ops (lift w0 ds Q) (fun j=>!mem tails j) rest.length (listed.setIfInBounds i true) (act s ds) w :=
   fun D s w hs hv=>vD hE0 hEA hp hsel htails rest D s w _ hs hcl' hrest hv
  simp only[xA,jR]at hv
  cases ho:wM ops.toList i with
  | none=>simp[ho]at hv
  | some o =>
   have hi:ops[i]?=some o:=by rw[← ho,← tD];simp
   obtain⟨dst,op,ty,pos,after,guard⟩:=o
   have run:∀ D D' s,Region.wanted ⟨dst,op,ty,pos,after,guard⟩ (yielded ops (act s ds).tmps)=true →
     nL E A P st0 stR tails i op ty D s w.heap (fun v l h'=>dL s dst v fun s'=>mV E A P ops.toList st0 stR tails rest (fJ D' dst l) s' h' Q) Q →
     iF E P ops (lift w0 ds Q) (fun j=>!mem tails j) (rest.length+1) listed (act s ds) w:=fun D D' s hw hv =>
    step_runP hE0 hEA hp hsel htails hi hw hcl hs hok hv fun v l w' hs' hk=>by rw[iE];rw[fT]at hk;exact goOn _ _ _ hs' hk
   have skip:∀ D s,Region.wanted ⟨dst,op,ty,pos,after,guard⟩ (yielded ops (act s ds).tmps)=false →
     (dL s dst undef fun s'=>mV E A P ops.toList st0 stR tails rest D s' w.heap Q) →
     iF E P ops (lift w0 ds Q) (fun j=>!mem tails j) (rest.length+1) listed (act s ds) w:=fun D s hw hk =>
    step_skipP hE0 hp hsel hi hw hcl hok (by rw[iE];rw[fT]at hk;exact goOn _ _ _ hs hk)
   cases guard with
   | none=>simp only[ho]at hv;exact run _ _ _ (by simp[Region.wanted]) hv
   | some gw =>
    obtain⟨j,want⟩:=gw
    simp only[ho]at hv
    cases hd:lF ops.toList j with
    | none=>simp[hd]at hv
    | some g =>
     simp only[hd]at hv
     cases hm:mem D g with
     | true =>
      simp only[hm]at hv
      split at hv
      ·rename_i hg
       have hy:=dU (ds:=ds) hd hg;cases want with
       | true=>exact run _ _ _ (by simp[Region.wanted,hy]) hv
       | false=>exact skip _ _ (by simp[Region.wanted,hy]) hv
      ·rename_i hg
       have hy:=dU (ds:=ds) hd hg;cases want with
       | false=>exact run _ _ _ (by simp[Region.wanted,hy]) hv
       | true=>exact skip _ _ (by simp[Region.wanted,hy]) hv
      ·rename_i h1 h2
       have hy:=eK (ds:=ds) (s:=s) hd (fun t e=>match t,e with|true,e=>h1 e|false,e=>h2 e);exact skip _ _ (by simp[Region.wanted,hy]) hv
     | false =>
      simp only[hm]at hv
      split at hv
      ·rename_i t hg
       have hy:=dU (ds:=ds) hd hg;cases t with
       | true =>
        have hv:=hv.y rfl
        rw[fB,gO s g _ hg]at hv
        cases want with
        | true=>exact run _ _ _ (by simp[Region.wanted,hy]) hv
        | false=>exact skip _ _ (by simp[Region.wanted,hy]) hv
       | false =>
        have hv:=hv.n rfl
        rw[fB,gO s g _ hg]at hv
        cases want with
        | false=>exact run _ _ _ (by simp[Region.wanted,hy]) hv
        | true=>exact skip _ _ (by simp[Region.wanted,hy]) hv
      ·rename_i h1
       have hy:=eK (ds:=ds) (s:=s) hd (fun t e=>h1 t e);exact skip _ _ (by simp[Region.wanted,hy]) hv
theorem DrawVC.introP {id:Nat}{s:List Value}{h:Heap}(E:Heap→Heap→Prop)(A:Addr→Prop)(hE0:∀ h,E h h)(hEA:∀ h h' a v,E h h'→A a→aX h a=some v→aX h' a=some v)
  (st0 stR tails ord:List Nat) (hm:P.follows .mixedOrders=true) (hok:qT ops st0 stR tails ord=true) (hlen:ord.length=ops.size)
  (hp:aBu Q ops) (hv:mV E A P ops.toList st0 stR tails ord [] s h Q):DrawVC P id ops s h Q where
 wp w0 w ds hw hs:=by
  subst hw
  simp only[qT,Bool.and_eq_true]at hok
  refine wp_region_any hm (sP (E:=E) (fl:=fun j=>!mem tails j) _ _ _ _ ?_);have hcl:Closed ops (Array.replicate ops.size false):=by
   intro j hj
   exfalso
   by_cases hlt:j<ops.size<;>simp[hlt]at hj
  have:=vD (P:=P) (w0:=w0) (ds:=ds) (E:=E) (A:=A) hE0 hEA hp hok.1.1 hok.1.2 ord [] s { w with drawn:=w.drawn+1 } _ (hs.trans ⟨rfl,rfl,rfl,by simp⟩) hcl hok.2 hv
  rw[hlen]at this
  exact this
theorem DrawVC.introBP {id:Nat}{s:List Value}{h:Heap}(b:Nat)
  (st0 stR tails ord:List Nat) (hm:P.follows .mixedOrders=true) (hok:qT ops st0 stR tails ord=true) (hlen:ord.length=ops.size)
  (hp:aBu Q ops) (hv:mV (fun h h'=>h'[b]?=h[b]?) (fun a=>a.block=b) P ops.toList st0 stR tails ord [] s h Q):DrawVC P id ops s h Q :=
 DrawVC.introP (fun h h'=>h'[b]?=h[b]?) (fun a=>a.block=b) (fun _=>rfl) (fun h h' a v he ha hc=>by subst ha;rw[gH he];exact hc) st0 stR tails ord hm hok hlen hp hv
end
def panQ (I:List PanicEntry→List Value→Heap→Prop)(Q:QQ):QQ:=fun e s h =>
 match e with
 | .panic c=>I c s h
 | e=>Q e s h
theorem panQ_le {I:List PanicEntry→List Value→Heap→Prop}{Q:QQ}(hI:∀ c s h,I c s h→Q (.panic c) s h)(e:Exit)(s:List Value)(h:Heap)(hq:panQ I Q e s h):Q e s h:=by
 cases e<;>first|exact hI _ _ _ hq|exact hq
theorem DeferVC.closureP {P:Program}{fn:Func}{id g t:Nat}{rest:Code}{R:Ending→Heap→Prop}{s:List Value}{h:Heap}{caps:List Operand}{ty ty':TypeId}{pos pos':String}{after after':Array Edge}{tys:Array TypeId}(I:List PanicEntry→List Value→Heap→Prop)(ht:t<s.length)
  (hk:zY s caps fun cap=>(∀ c s h,I c s h→LeaveVC P fn ⟨.fn (.func g) ⟨cap⟩,#[]⟩ (.panicking c) s h R)∧mC s t (.func (.func g) ⟨[]⟩ ⟨cap⟩) fun s1=>vcode P rest (panQ I (ngQ (yF P fn ⟨.fn (.func g) ⟨cap⟩,#[]⟩ R))) s1 h) :
  DeferVC P fn id #[⟨some t,.makeFunc (.func g) ⟨[]⟩ ⟨caps⟩,ty,pos,after,none⟩,⟨none,.defer ⟨.value (.tmp t),⟨[]⟩,tys⟩,ty',pos',after',none⟩] rest R s h:=by
 refine DeferVC.closure ht ?_
 simp only[oQ,fB]at hk ⊢
 exact lW rest (panQ_le hk.1) _ _ hk.2
def mapI (r:Nat)(es:List MapEntry)(clock:Nat):Item where
 fp x:=x=r
 sat h:=h[r]?=some (.map es.toArray clock)
 loc _ _ e:=fun k=>(e r rfl).trans k
section
variable {P : Program} {ty : TypeId} {s : List Value} {h0 : Base} {h : Heap} {L : List Item} {K : KK} {Q : QQ}
theorem RunVC.makeMap {t:TypeId}(o:Own h0 L h)(hk:∀ r h',pE L (mapI r [] 0) fun L'=>Own h0 L' h'→K (.map (some r)) false h'):RunVC P (.makeMap t none) ty s h K Q :=
 .of fun w hw=>by
  subst hw
  refine⟨.map (some w.heap.size),false,{ w with heap:=w.heap.push (.map #[] 0) },by simp[execOp,Instr.makeMap,newObj,Sem.run],⟨rfl,rfl,rfl,by simp⟩,?_⟩
  have:=hk w.heap.size (w.heap.push (.map #[] 0))
  rw[kT]at this
  refine this (o.callR ⟨⟨by simp,fun b hb=>by rw[Array.getElem?_push,if_neg (by omega)]⟩,?_,?_,?_,List.pairwise_singleton _ _⟩)
  ·intro x hx;simp only[List.mem_singleton]at hx;subst hx
   simp[mapI]
  ·intro x hx b hb;simp only[List.mem_singleton]at hx;subst hx;cases hb;exact Nat.le_refl _
  ·intro x hx b hb;simp only[List.mem_singleton]at hx;subst hx;cases hb;simp
theorem getMap {w:World}{r:Nat}{es:Array MapEntry}{clock:Nat}(hb:w.heap[r]?=some (.map es clock)):(getObj r).run P w=.ok (.map es clock) w:=by simp[getObj,Sem.run,hb]
theorem setMap {w:World}{r:Nat}{es:Array MapEntry}{clock:Nat}(o:Obj)(hb:w.heap[r]?=some (.map es clock)):(setObj r o).run P w=.ok () { w with heap:=w.heap.setIfInBounds r o }:=by simp[setObj,Sem.run,hb]
theorem sW {kt:TypeId}{ik:IntKind}{n:Int}{b:Bool}(hkt:P.underlying kt=some (.int ik))(w:World):∀ k,k≠0→(Instr.checkKey b k kt (.int ik n)).run P w=.ok () w
 | 0,h=>absurd rfl h
 | k+1,_=>by simp[Instr.checkKey,run_underlying hkt]
theorem vK {kt:TypeId}{ik:IntKind}{n:Int}{es:List MapEntry}{r:Option (Nat×Value)}(hkt:P.underlying kt=some (.int ik))(hf:Instr.findNow (.int ik) (.int ik n) es 0=some r)(w:World):(Instr.findKey kt (.int ik n) es).run P w=.ok r w:=by
 simp[Instr.findKey,run_underlying hkt,hf]
theorem RunVC.insert {t kt et:TypeId}{m k x:Operand}{ik:IntKind}{n:Int}{r:Nat}{es:List MapEntry}{c:Nat}(o:Own h0 L h)(i:Nat)(hi:L[i]?=some (mapI r es c))(hu:P.underlying t=some (.map kt et))(hkt:P.underlying kt=some (.int ik))
  (hm:ev s m=.map (some r)) (hn:ev s k=.int ik n) (hf:Instr.findNow (.int ik) (.int ik n) es 0=some none)
  (hK:∀ h',pD L i (mapI r (es++[⟨.int ik n,ev s x,c⟩]) (c+1)) fun L'=>Own h0 L' h'→K undef false h'):RunVC P (.insert t m k x) ty s h K Q :=
 .of_skip fun w hw=>by
  subst hw;have hb:w.heap[r]?=some (.map es.toArray c):=o.sat _ (List.mem_of_getElem? hi)
  refine⟨{ w with heap:=w.heap.setIfInBounds r (.map (es.toArray.push ⟨.int ik n,ev s x,c⟩) (c+1)) },?_,⟨rfl,rfl,rfl,by simp⟩,?_⟩
  ·simp[execOp,hm,hn,Instr.mapUpdate,run_underlying hu,getMap hb,sW hkt w 10000 (by decide),vK hkt hf,setMap _ hb]
  ·have:=hK (w.heap.setIfInBounds r (.map (es.toArray.push ⟨.int ik n,ev s x,c⟩) (c+1)))
   rw[qK]at this
   have hlt:r<w.heap.size:=(Array.getElem?_eq_some_iff.1 hb).1;refine this (o.set hi (by simp) (fun b _ hnb=>?_) ?_ (fun b hb=>.inl hb) (fun b hb=>?_))
   ·rw[Array.getElem?_setIfInBounds_ne (fun e=>hnb e.symm)]
   ·simp[mapI,hlt]
   ·cases hb;simpa using hlt
theorem RunVC.lookup {t kt et:TypeId}{m k:Operand}{ik:IntKind}{n:Int}{r i:Nat}{es:List MapEntry}{c:Nat}{v:Value}(o:Own h0 L h)(j:Nat)(hj:L[j]?=some (mapI r es c))(hu:P.underlying t=some (.map kt et))(hkt:P.underlying kt=some (.int ik))
  (hm:ev s m=.map (some r)) (hn:ev s k=.int ik n) (hf:Instr.findNow (.int ik) (.int ik n) es 0=some (some (i,v))) (hK:K v false h):RunVC P (.lookup t m k false) ty s h K Q :=
 .of fun w hw=>by
  subst hw;have hb:w.heap[r]?=some (.map es.toArray c):=o.sat _ (List.mem_of_getElem? hj)
  exact⟨v,false,w,by simp[execOp,hm,hn,Instr.lookup,run_underlying hu,getMap hb,sW hkt w 10000 (by decide),vK hkt hf],.refl w,hK⟩
theorem StillVC.sliceG {pr:Bool}{t e:TypeId}{n by_ b:Nat}{x:Operand}{agg:Bool}{zero:List Value}(hu:P.underlying t=some (.array n e))(hE:TyI P e agg zero by_)(hx:ev s x=.pointer (some ⟨b,0,none⟩))
  (hk:K (.slice (some ⟨b,0,none⟩) n n) false h):StillVC pr P (.slice t x none none none) ty s h K:=by
 refine .pure' _ false (fun w=>?_) hk;have he:P.elem t=e:=by simp[Program.elem,hu]
 have hn:P.arrayLen t=n:=by simp[Program.arrayLen,hu]
 have hu':P.underlying t=some (.array (P.arrayLen t) (P.elem t)):=by rw[he,hn];exact hu
 simp[execOp,hx,run_sliceAt_array_all w t _ hu',he,hn,hE.sizeOf,slicedAt,Addr.add_lit]
theorem RunVC.sliceG {t e:TypeId}{n by_ b:Nat}{x:Operand}{agg:Bool}{zero:List Value}(hu:P.underlying t=some (.array n e))(hE:TyI P e agg zero by_)(hx:ev s x=.pointer (some ⟨b,0,none⟩))
  (hk:K (.slice (some ⟨b,0,none⟩) n n) false h):RunVC P (.slice t x none none none) ty s h K Q:=(StillVC.sliceG hu hE hx hk).run
theorem xN {fn:Func}{a b c ta tb tc:Nat}{za zb zc:List Value}{ya yb yc pa pb pc:Nat}{u v x:Value}(hf:fn.results=#[.cell a ta,.cell b tb,.cell c tc])
  (hA:TyI P ta true za ya) (hz:za.length=1) (hB:TyI P tb false zb yb) (hC:TyI P tc false zc yc) (ea:sget s a=.pointer (some ⟨pa,0,none⟩)) (eb:sget s b=.pointer (some ⟨pb,0,none⟩)) (ec:sget s c=.pointer (some ⟨pc,0,none⟩))
  (ca:aX h ⟨pa,0,none⟩=some u) (cb:aX h ⟨pb,0,none⟩=some v) (cc:aX h ⟨pc,0,none⟩=some x) (w:World) (hw:w.heap=h) :
  (results fn s.toArray).run P w=.ok (.tuple ⟨[.agg ⟨[u]⟩,v,x]⟩) w:=by
 have e1:s.toArray.getD a undef=.pointer (some ⟨pa,0,none⟩):=by rw[← ea,← dA];simp
 have e2:s.toArray.getD b undef=.pointer (some ⟨pb,0,none⟩):=by rw[← eb,← dA];simp
 have e3:s.toArray.getD c undef=.pointer (some ⟨pc,0,none⟩):=by rw[← ec,← dA];simp
 simp only[Array.getD_eq_getD_getElem?,List.getElem?_toArray]at e1 e2 e3
 subst hw;have hc:=gT (P:=P) (w:=w) (a:=⟨pa,0,none⟩) [u] 0 #[] (fun j hj=>by
  obtain rfl:j=0:=by simpa using hj
  rw[Addr.add_lit,fK];exact ca)
 rw[← fK]at cb cc
 simp only[List.length_cons,List.length_nil,Nat.zero_add]at hc
 simp[results,hf,e1,e2,e3,asAddr,loadVar,hA.isAgg,hB.isAgg,hC.isAgg,hA.sizeOf,hz,loadCells,hc,run_load,cb,cc]
theorem RetVC.cell3A {fn:Func}{R:Value→Heap→Prop}{a b c ta tb tc:Nat}{za zb zc:List Value}{ya yb yc pa pb pc:Nat}{u v x:Value}(hf:fn.results=#[.cell a ta,.cell b tb,.cell c tc])
  (hA:TyI P ta true za ya) (hz:za.length=1) (hB:TyI P tb false zb yb) (hC:TyI P tc false zc yc) (ea:sget s a=.pointer (some ⟨pa,0,none⟩)) (eb:sget s b=.pointer (some ⟨pb,0,none⟩)) (ec:sget s c=.pointer (some ⟨pc,0,none⟩))
  (ca:aX h ⟨pa,0,none⟩=some u) (cb:aX h ⟨pb,0,none⟩=some v) (cc:aX h ⟨pc,0,none⟩=some x) (hr:R (.tuple ⟨[.agg ⟨[u]⟩,v,x]⟩) h):RetVC P fn s h R where
 ex:=⟨_,fun w hw=>xN hf hA hz hB hC ea eb ec ca cb cc w hw,hr⟩
theorem Spec.enterD2 {P:Program}{f:FuncId}{fn:Func}{r0 r1 c1 rest:Code}{id n:Nat}{ops:Array Oper}{args:List Value}{h:Heap}{R:Ending→Heap→Prop}
  (hf:P.funcs[f]?=some fn) (hb:fn.body=some (.seq r0 (.seq r1 (.seq c1 (.seq (.region id ops false) rest))))) (hn:fn.ntmps=n) (hname:(fn.name == "runtime.NumGoroutine")=false)
  (hv:mL args n fun s=>vcode P r0 (zW (fun s h=>vcode P r1 (zW (fun s h=>vcode P c1 (zW (fun s h=>DeferVC P fn id ops rest R s h) (yY P fn R)) s h) (yY P fn R)) s h) (yY P fn R)) s h):Spec P f args h R:=by
 refine⟨⟨fn,hf,by simp[hb],hname⟩,fun w hw=>?_⟩
 subst hw
 rw[nX]at hv
 have he:act (args++List.replicate (n - args.length) undef) []={ tmps:=args.toArray++Array.replicate (fn.ntmps - args.toArray.size) undef,defers:=[] }:=by
  simp[act,hn]
 have leave0:∀ e s' w',Same w w'→yY P fn R e s' w'.heap→bodyPostD P fn (fun e w'=>Same w w'∧R e w'.heap) e (act s' []) w':=by
  intro e s' w' hs hq;cases e with
  | normal=>obtain⟨v,hr,hR⟩:=hq.ex;exact⟨v,hr w' rfl,hs,hR⟩
  | ret=>obtain⟨v,hr,hR⟩:=hq.ex;exact⟨v,hr w' rfl,hs,hR⟩
  | panic c=>exact⟨hs,hq⟩
  | _=>exact hq.elim
 refine calls_of_wp_defers hf hb ?_
 rw[← he]
 refine wp_seq (wp_mono (dF (w0:=w) (ds:=[]) r0 _ _ w (.refl w) hv) ?_);rintro e a w1 ⟨s1,rfl,hs1,hq⟩;cases e with
 | normal =>
  refine wp_seq (wp_mono (dF (w0:=w) (ds:=[]) r1 _ _ w1 hs1 hq) ?_);rintro e a w2 ⟨s2,rfl,hs2,hq⟩;cases e with
  | normal =>
   refine wp_seq (wp_mono (dF (w0:=w) (ds:=[]) c1 _ _ w2 hs2 hq) ?_);rintro e a w2 ⟨s2,rfl,hs2,hq⟩;cases e with
   | normal =>
    obtain⟨s3,d,hd,hr⟩:=hq.ex
    refine wp_seq (hd w2 _ (wp_mono (dF (w0:=w) (ds:=[d]) rest _ _ w2 hs2 (lW rest (Q':=yF P fn d R) (fun e s h hq=>?_) _ _ hr)) ?_))
    ·cases e<;>first|exact hq|exact hq.elim
    ·rintro e a w3 ⟨s4,rfl,hs3,hq⟩
     cases e with
     | normal=>exact hq.lv w w3 hs3 rfl
     | ret=>exact hq.lv w w3 hs3 rfl
     | panic c=>exact hq.lv w w3 hs3 rfl
     | _=>exact hq.elim
   | ret=>exact leave0 .ret s2 w2 hs2 hq
   | panic c=>exact leave0 (.panic c) s2 w2 hs2 hq
   | _=>exact hq.elim
  | ret=>exact leave0 .ret s2 w2 hs2 hq
  | panic c=>exact leave0 (.panic c) s2 w2 hs2 hq
  | _=>exact hq.elim
 | ret=>exact leave0 .ret s1 w1 hs1 hq
 | panic c=>exact leave0 (.panic c) s1 w1 hs1 hq
 | _=>exact hq.elim
end
inductive OT where
 | done
 | one (i:Nat) (t:OT)
 | fork (i j:Nat) (t u:OT)
def OT.size:OT→Nat
 | .done=>0
 | .one _ t=>t.size+1
 | .fork _ _ t _=>t.size+1
def unguarded (ops:Array Oper)(i:Nat):Bool:=match ops[i]? with
 | some o=>o.guard.isNone
 | none=>false
def qE (ops:Array Oper)(st0 stR:List Nat):OT→Array Bool→Bool
 | .done,listed=>(Region.ready .any ops listed).isEmpty
 | .one i t,listed =>
  ((bif mem st0 i||mem stR i then(Region.ready .any ops listed).contains i&&Region.free .any ops listed i else(Region.ready .any ops listed) == [i]) &&
   qE ops st0 stR t (listed.setIfInBounds i true))
 | .fork i j t u,listed =>
  ((Region.ready .any ops listed) == [i,j]&&!(mem st0 i||mem stR i)&&!(mem st0 j||mem stR j)&&unguarded ops i&&unguarded ops j&&t.size == u.size) &&
   (qE ops st0 stR t (listed.setIfInBounds i true)&&qE ops st0 stR u (listed.setIfInBounds j true))
def vordT (E:Heap→Heap→Prop)(A:Addr→Prop)(P:Program)(L:List Oper)(st0 stR tails:List Nat)(t:OT):List Nat→List Value→Heap→QQ→Prop :=
 OT.rec (motive:=fun _=>List Nat→List Value→Heap→QQ→Prop) (fun _ s h Q=>Q .normal s h) (fun i _ ih=>jR E A P L st0 stR tails i ih)
  (fun i j _ _ iht ihu D s h Q=>jR E A P L st0 stR tails i iht D s h Q∧jR E A P L st0 stR tails j ihu D s h Q) t
section
variable {E : Heap → Heap → Prop} {A : Addr → Prop} {P : Program} {ops : Array Oper} {Q : QQ} {w0 : World} {ds : List Deferred} {st0 stR tails : List Nat}
theorem one_sound (hE0:∀ h,E h h)(hEA:∀ h h' a v,E h h'→A a→aX h a=some v→aX h' a=some v)(hp:∀ c s s' h,Q (.panic c) s h→Q (.panic c) s' h)(hsel:Region.noSelect ops=true)(htails:kK ops stR tails=true)
  {i n:Nat} {next:List Nat→List Value→Heap→QQ→Prop} {D:List Nat} {s:List Value} {w:World} {listed:Array Bool} (hs:Same w0 w) (hcl:Closed ops listed)
  (hok:(bif mem st0 i||mem stR i then(Region.ready .any ops listed).contains i&&Region.free .any ops listed i else(Region.ready .any ops listed) == [i])=true)
  (goOn:∀ D s (w:World),Same w0 w→next D s w.heap Q→iF E P ops (lift w0 ds Q) (fun j=>!mem tails j) n (listed.setIfInBounds i true) (act s ds) w)
  (hv:jR E A P ops.toList st0 stR tails i next D s w.heap Q):iF E P ops (lift w0 ds Q) (fun j=>!mem tails j) (n+1) listed (act s ds) w:=by
 simp only[jR]at hv
 cases ho:wM ops.toList i with
 | none=>simp[ho]at hv
 | some o =>
  have hi:ops[i]?=some o:=by rw[← ho,← tD];simp
  obtain⟨dst,op,ty,pos,after,guard⟩:=o
  have run:∀ D D' s,Region.wanted ⟨dst,op,ty,pos,after,guard⟩ (yielded ops (act s ds).tmps)=true →
    nL E A P st0 stR tails i op ty D s w.heap (fun v l h'=>dL s dst v fun s'=>next (fJ D' dst l) s' h' Q) Q →
    iF E P ops (lift w0 ds Q) (fun j=>!mem tails j) (n+1) listed (act s ds) w:=fun D D' s hw hv =>
   aAk hE0 hEA hp hsel htails hi hw hcl hs hok hv fun v l w' hs' hk=>by rw[iE];rw[fT]at hk;exact goOn _ _ _ hs' hk
  have skip:∀ D s,Region.wanted ⟨dst,op,ty,pos,after,guard⟩ (yielded ops (act s ds).tmps)=false →
    (dL s dst undef fun s'=>next D s' w.heap Q) →
    iF E P ops (lift w0 ds Q) (fun j=>!mem tails j) (n+1) listed (act s ds) w:=fun D s hw hk =>
   xG hE0 hp hsel hi hw hcl hok (by rw[iE];rw[fT]at hk;exact goOn _ _ _ hs hk)
  cases guard with
  | none=>simp only[ho]at hv;exact run _ _ _ (by simp[Region.wanted]) hv
  | some gw =>
   obtain⟨j,want⟩:=gw
   simp only[ho]at hv
   cases hd:lF ops.toList j with
   | none=>simp[hd]at hv
   | some g =>
    simp only[hd]at hv
    cases hm:mem D g with
    | true =>
     simp only[hm]at hv
     split at hv
     ·rename_i hg
      have hy:=dU (ds:=ds) hd hg;cases want with
      | true=>exact run _ _ _ (by simp[Region.wanted,hy]) hv
      | false=>exact skip _ _ (by simp[Region.wanted,hy]) hv
     ·rename_i hg
      have hy:=dU (ds:=ds) hd hg;cases want with
      | false=>exact run _ _ _ (by simp[Region.wanted,hy]) hv
      | true=>exact skip _ _ (by simp[Region.wanted,hy]) hv
     ·rename_i h1 h2
      have hy:=eK (ds:=ds) (s:=s) hd (fun t e=>match t,e with|true,e=>h1 e|false,e=>h2 e);exact skip _ _ (by simp[Region.wanted,hy]) hv
    | false =>
     simp only[hm]at hv
     split at hv
     ·rename_i t hg
      have hy:=dU (ds:=ds) hd hg;cases t with
      | true =>
       have hv:=hv.y rfl
       rw[fB,gO s g _ hg]at hv
       cases want with
       | true=>exact run _ _ _ (by simp[Region.wanted,hy]) hv
       | false=>exact skip _ _ (by simp[Region.wanted,hy]) hv
      | false =>
       have hv:=hv.n rfl
       rw[fB,gO s g _ hg]at hv
       cases want with
       | false=>exact run _ _ _ (by simp[Region.wanted,hy]) hv
       | true=>exact skip _ _ (by simp[Region.wanted,hy]) hv
     ·rename_i h1
      have hy:=eK (ds:=ds) (s:=s) hd (fun t e=>h1 t e);exact skip _ _ (by simp[Region.wanted,hy]) hv
theorem aAS {i n:Nat}{next:List Nat→List Value→Heap→QQ→Prop}{D:List Nat}{s:List Value}{w:World}{listed:Array Bool}(hs:Same w0 w)(hun:unguarded ops i=true)(hst:(mem st0 i||mem stR i)=false)
  (goOn:∀ D s (w:World),Same w0 w→next D s w.heap Q→iF E P ops (lift w0 ds Q) (fun j=>!mem tails j) n (listed.setIfInBounds i true) (act s ds) w)
  (hv:jR E A P ops.toList st0 stR tails i next D s w.heap Q) :
  wpOp P ops (lift w0 ds Q) i (fun a' w'=>((!mem tails i)=true→E w.heap w'.heap)∧iF E P ops (lift w0 ds Q) (fun j=>!mem tails j) n (listed.setIfInBounds i true) a' w') (act s ds) w:=by
 simp only[jR]at hv
 cases ho:wM ops.toList i with
 | none=>simp[ho]at hv
 | some o =>
  have hi:ops[i]?=some o:=by rw[← ho,← tD];simp
  obtain⟨dst,op,ty,pos,after,guard⟩:=o
  cases guard with
  | some g=>simp[unguarded,hi]at hun
  | none =>
   simp only[ho]at hv
   unfold nL at hv
   simp only[Bool.or_eq_false_iff]at hst
   rw[hst.1,hst.2]at hv
   simp only[cond_false]at hv
   have fin:∀ K':KK,(∀ v l h',K' v l h'→(mem tails i=false→E w.heap h')∧dL s dst v fun s'=>next (fJ D dst l) s' h' Q)→vop P op ty D s w.heap K' Q →
     wpOp P ops (lift w0 ds Q) i (fun a' w'=>((!mem tails i)=true→E w.heap w'.heap)∧iF E P ops (lift w0 ds Q) (fun j=>!mem tails j) n (listed.setIfInBounds i true) a' w') (act s ds) w:=by
    intro K' hK' hv';unfold wpOp
    simp only[hi,Region.wanted,if_true]
    exact .inl ((nK hv').run w rfl ds dst pos after none _ _
     (fun v l w' hw' hk=>⟨fun hf=>(hK' v l _ hk).1 (by simpa using hf),by
      have h2:=(hK' v l _ hk).2
      rw[fT]at h2
      rw[iE]
      exact goOn _ _ _ (hs.trans hw') h2⟩)
     (fun c w' hw' hq=>⟨s,rfl,hs.trans hw',hq⟩))
   cases ht:mem tails i with
   | true=>rw[ht]at hv;exact ht▸fin _ (fun v l h' hk=>⟨fun h=>(by rw[ht]at h;cases h),hk⟩) hv
   | false=>rw[ht]at hv;exact ht▸fin _ (fun v l h' hk=>⟨fun _=>hk.1,hk.2⟩) hv
theorem vordT_sound (hE0:∀ h,E h h)(hEA:∀ h h' a v,E h h'→A a→aX h a=some v→aX h' a=some v)(hp:∀ c s s' h,Q (.panic c) s h→Q (.panic c) s' h)(hsel:Region.noSelect ops=true)(htails:kK ops stR tails=true) :
  ∀(t:OT) (D:List Nat) (s:List Value) (w:World) (listed:Array Bool),Same w0 w→Closed ops listed→qE ops st0 stR t listed=true→vordT E A P ops.toList st0 stR tails t D s w.heap Q →
   iF E P ops (lift w0 ds Q) (fun j=>!mem tails j) t.size listed (act s ds) w:=by
 intro t
 induction t with
 | done=>intro D s w listed hs _ hok hv;exact⟨by simpa[qE] using hok,s,rfl,hs,hv⟩
 | one i t ih =>
  intro D s w listed hs hcl hok hv
  simp only[qE,Bool.and_eq_true]at hok
  obtain⟨hok,hrest⟩:=hok
  have hready:i∈Region.ready .any ops listed:=by
   cases hc:(mem st0 i||mem stR i) with
   | true=>rw[hc]at hok;simp only[cond_true,Bool.and_eq_true]at hok;simpa using hok.1
   | false=>rw[hc]at hok;simp only[cond_false,beq_iff_eq]at hok;rw[hok];simp
  exact one_sound hE0 hEA hp hsel htails hs hcl hok (fun D s w hs hv=>ih D s w _ hs (hcl.set hready) hrest hv) hv
 | fork i j t u iht ihu =>
  intro D s w listed hs hcl hok hv
  simp only[qE,Bool.and_eq_true,beq_iff_eq,Bool.not_eq_true']at hok
  obtain⟨⟨⟨⟨⟨⟨hr,hi⟩,hj⟩,ui⟩,uj⟩,hsz⟩,h1,h2⟩:=hok
  have ri:i∈Region.ready .any ops listed:=by rw[hr];simp
  have rj:j∈Region.ready .any ops listed:=by rw[hr];simp
  refine⟨fun h=>(by rw[h]at hr;cases hr),fun k hk=>?_⟩
  rw[hr]at hk
  rcases List.mem_cons.1 hk with rfl|hk
  ·exact aAS hs ui hi (fun D s w hs hv=>iht D s w _ hs (hcl.set ri) h1 hv) hv.1
  ·simp only[List.mem_singleton]at hk
   subst hk;exact aAS hs uj hj (fun D s w hs hv=>by have:=ihu D s w _ hs (hcl.set rj) h2 hv;rw[← hsz]at this;exact this) hv.2
theorem DrawVC.aBU {id:Nat}{s:List Value}{h:Heap}(b:Nat)
  (st0 stR tails:List Nat) (t:OT) (hm:P.follows .mixedOrders=true) (hok:(Region.noSelect ops&&kK ops stR tails&&qE ops st0 stR t (Array.replicate ops.size false))=true) (hlen:t.size=ops.size)
  (hp:∀ c s s' h,Q (.panic c) s h→Q (.panic c) s' h) (hv:vordT (fun h h'=>h'[b]?=h[b]?) (fun a=>a.block=b) P ops.toList st0 stR tails t [] s h Q):DrawVC P id ops s h Q where
 wp w0 w ds hw hs:=by
  subst hw
  simp only[Bool.and_eq_true]at hok
  refine wp_region_any hm (sP (E:=fun h h'=>h'[b]?=h[b]?) (fl:=fun j=>!mem tails j) _ _ _ _ ?_);have hcl:Closed ops (Array.replicate ops.size false):=by
   intro j hj
   exfalso
   by_cases hlt:j<ops.size<;>simp[hlt]at hj
  have:=vordT_sound (P:=P) (w0:=w0) (ds:=ds) (E:=fun h h'=>h'[b]?=h[b]?) (A:=fun a=>a.block=b) (fun _=>rfl) (fun h h' a v he ha hc=>by subst ha;rw[gH he];exact hc) hp hok.1.1 hok.1.2 t [] s { w with drawn:=w.drawn+1 } _ (hs.trans ⟨rfl,rfl,rfl,by simp⟩) hcl hok.2 hv
  rw[hlen]at this
  exact this
theorem DrawVC.join {id:Nat}{N:List Value→Heap→Prop}{s:List Value}{h:Heap}(asg lv:List Nat)(I:List Value→Heap→Prop)
  (hab:DrawVC P id ops s h (zW (fun s' h'=>mask asg 0 s'=mask asg 0 s∧nA s' lv fun vs=>I vs h') Q))
  (hr:∀(vs:List Value) (junk:Nat→Value) (h':Heap),I vs h'→uT asg lv vs junk 0 s fun s1=>N s1 h'):DrawVC P id ops s h (zW N Q) where
 wp w0 w ds hw hs:=by
  have key:∀ e s' h',zW (fun s' h'=>mask asg 0 s'=mask asg 0 s∧nA s' lv fun vs=>I vs h') Q e s' h'→zW N Q e s' h':=by
   refine tE (fun s' h' ⟨hm,hI⟩=>?_) (fun _ _ _ x=>x)
   rw[uA]at hI
   have:=hr (lv.map (sget s')) (sget s') h' hI
   rwa [uS,oP asg lv s' s s' 0 (by simp) hm]at this
  refine wp_mono (hab.wp w0 w ds hw hs) ?_;rintro e a w' ⟨s',rfl,hs',hq⟩
  exact⟨s',rfl,hs',key e s' _ hq⟩
end
end Go.Proofs.YtohlogbnpfofpaaGreatDoor
namespace Go.Proofs.YtohlogbnpfofpaaGreatDoor
open Go StillVC
theorem aAz:∀(vs cs:List Value)(off m:Nat),(lset cs off vs).take m=lset (cs.take m) off vs
 | [],_,_,_=>rfl
 | v::vs,cs,off,m=>by rw[lset,aAz vs,List.take_set,lset]
theorem RunVC.aBI {P:Program}{ty:TypeId}{s:List Value}{h:Heap}{K:KK}{Q:QQ}{h0:Base}{L:List Item}{t:TypeId}{a x:Operand}{zero vs:List Value}{by_:Nat}{agg:Bool}{v:Value}{e:TypeId}{sz n i:Nat}{xs:List Value}(o:Own h0 L h)(k:Nat)(hk:L[k]?=some (row v e sz n xs))(hT:TyI P t agg zero by_)
  (hz:zero.length=sz) (ha:ev s a=adr v (i*sz)) (hx:ev s x=.agg ⟨vs⟩) (hv:vs.length=sz) (hi:i<n) (hs0:0<sz) (h1:vs.all (fun u=>u.oneCell')=true)
  (hK:∀ h',Own h0 (L.set k (row v e sz n (lset xs (i*sz) vs))) h'→K undef false h'):RunVC P (.store t a x) ty s h K Q :=
 .of_skip fun w hw=>by
  subst hw;have hr:rM w.heap e sz v n xs:=o.sat _ (List.mem_of_getElem? hk)
  obtain⟨hl,hr⟩:=hr
  rcases hr with ⟨rfl,rfl⟩|⟨g,cap,cur,rfl,hg,hn,hm,hs,ht⟩
  ·omega
  ·have hb:w.heap[g]?=some (.cells cur.toList.toArray e (0,0)):=by simpa using hg
   have hroom:i*sz+sz≤cap*sz:=by
    have:(i+1)*sz≤cap*sz:=Nat.mul_le_mul_right _ (by omega)
    rw[Nat.add_mul]at this;omega
   have hrun:=pX (P:=P) (b:=g) (off:=i*sz) vs 0 w cur.toList e 0 0 hb (.inl rfl) (by simp;omega) (List.all_eq_true.1 h1)
   refine⟨wsets w g (i*sz) vs,?_,(gC _ w g (i*sz)).2.2,?_⟩
   ·rw[adr]at ha
    have hva:(Value.agg ⟨vs⟩).cells=⟨vs⟩:=rfl
    simp[execOp,ha,hx,Instr.storeAt,Instr.sureAddr,storeVar,hT.sizeOf,hz,hv,hva,hrun]
   ·refine hK _ (o.set hk (Nat.le_of_eq (gC _ w g (i*sz)).1.symm) (fun x _ hx=>(gC _ w g (i*sz)).2.1 x (fun e=>hx (by subst e;rfl))) ?_ (fun x hx=>.inl hx) (fun x hx=>?_))
    ·refine⟨by rw[qJ];exact hl,.inr ⟨g,cap,(lset cur.toList (i*sz) vs).toArray,rfl,sets_blk _ _ _ _ _ _ _ _ hb,hn,hm,by simp[qJ,hs],?_⟩⟩
     rw[← ht]
     exact aAz _ _ _ _
    ·rw[(gC _ w g (i*sz)).1];exact o.hi _ (List.mem_of_getElem? hk) x hx
theorem opIdx_none {ts:List Tok}(h:∀ j,j<7→bK [dB.getD j [],[40]] ts=false):pC ts=none:=by
 unfold pC
 rw[List.find?_eq_none]
 intro j hj
 rw[h j (by simpa using hj)]
 decide
theorem exprP_none {z n:Nat}{ts:List Tok}(h:pC ts=none):cJ z (n+1) ts=(dG z >>= fun t=>(pure (lL (bD ts) t):PM Ex)) ts:=by
 rw[cJ]
 simp only[h]
theorem jC {ts:List Tok}{i:Nat}(hi:i<7)(h:∀ j,j<i→bK [dB.getD j [],[40]] ts=false)(hb:bK [dB.getD i [],[40]] ts=true):pC ts=some i:=by
 unfold pC
 rw[List.find?_range_eq_some]
 exact⟨hb,by simpa using hi,fun j hj=>by rw[h j hj];rfl⟩
theorem jD {z n:Nat}{ts:List Tok}{i:Nat}(h:pC ts=some i):cJ z (n+1) ts=(bP z [dB.getD i [],[40]] >>= fun _=>cJ z n >>= fun a=>ifP (wJ i) (bP z [[44]] >>= fun _=>cJ z n >>= fun b=>pure [a,b]) [a] >>= fun kids=>eS z i (bD ts) kids >>= fun x=>bP z [[41]] >>= fun _=>(pure x:PM Ex)) ts:=by
 rw[cJ]
 simp only[h]
theorem exR_leaf (I:Item)(t:List UInt8)(off:Nat):lB I (wB 1 t aK aK aK [] [] 0 off) (lL off t):=by
 unfold lL
 rw[lB]
 exact⟨_,_,_,rfl,aM,aM,[],aM,trivial⟩
theorem eN {I:Item}{h:Heap}(hI:I.sat h):∀ {x:Ex}{c:List Value},lB I c x→c.all (fun u=>u.oneCell')=true
 | .mk kind table kids conds names attr as_ agg off,c,hx=>by
  rw[lB]at hx
  obtain⟨vk,vc,vn,rfl,h2,h3,xs,h4,_⟩:=hx
  obtain⟨a1,b1,rfl⟩:=h2.isS hI
  obtain⟨a2,b2,rfl⟩:=h3.isS hI
  obtain⟨a3,b3,rfl⟩:=h4.isS hI
  rfl
theorem cA {cs:List Value}{c:cV}(h:cs.length=9):lset ([]++cs) (0*9) c.1=c.1:=by
 rw[lnA,Nat.zero_mul,wS _ _ _ (by rw[c.2,h];omega)]
 simp[c.2,h]
theorem kM.callL {g:FuncId}{args:List Value}{s:List Value}{h:Heap}{K:KK}{Q:QQ}{B:Base}{L X:List Item}{bp z:Nat}{tk:Item}{bx pb n:Nat}{res:Except (Int×Nat) (Ex×List Tok)}{kind:Int}{vk:Value}{kids:List Ex}{off:Nat}
  (sp:∀ B':Base,Own B' X h→Spec Tryz.prog g args h (kM B' bp z tk bx pb n res kind vk kids off)) (o:Own B L h) (ks js:List Nat) (hd:dst (ks++js)=true) (e:pick L ks=X)
  (hret:∀ x r w' c I h',res=.ok (x,r)→restR I c kind vk kids off x→r.length≤n→cH tk w' r→Own B ([box bp [w',.int .i64 z] 72,tk,box bx c 42,box pb [.pointer (some ⟨bp,0,none⟩)] 70,I]++pick L js) h'→K (.tuple ⟨[]⟩) false h')
  (hpan:∀ e w' h',res=.error e→Own B (PSt bp z w' tk) h'→Q (.panic (kB e)) s h'):CallVC Tryz.prog g args s h K Q:=by
 have ol:=o.lend ks js hd
 rw[e]at ol
 exact CallVC.ends (sp _ ol) (fun v h' ⟨x,r,w',c,I,h1,h2,h3,h4,h5,h6⟩=>by subst h2;exact hret x r w' c I h' h1 h3 h4 h5 h6.back) (fun c h' ⟨e,w',h1,h2,h3⟩=>by subst h2;exact hpan e w' h' h1 (h3.back.sel [0,1] rfl))
theorem eE {cs:List Value}{c d:cV}(h:cs.length=9):lset (c.1++cs) (1*9) d.1=c.1++d.1:=by
 rw[Nat.one_mul,wS _ _ _ (by rw[List.length_append,d.2,c.2,h];exact Nat.le_refl _)]
 simp[c.2,d.2,h]
theorem uJ (bx:Nat)(h:Heap):cK Tryz.prog 160 [.pointer (some ⟨bx,0,none⟩)] h fun v h'=>v=.tuple ⟨[]⟩∧Own h [] h':=by
 refine Spec.enter Tryz.func160 rfl Tryz.ntmps160 (by kernel_rfl) ?_;have o0:=Own.refl h;refine RetVC.zero rfl ?_
 exact⟨rfl,o0⟩
def exV (x:Ex)(v:Value)(I:Item):Prop:=∃ c:cV,v=.agg ⟨c.1⟩∧lB I c.1 x
def lD (n:Nat):Prop:=∀(level:Int)(_:level=13 - n)(B:Base)(bp z:Nat)(tk:Item)(w:Value)(ts:List Tok)(h:Heap)(_:Own B (PSt bp z w tk) h)(_:cH tk w ts)(_:ts.length≤5000),
 Spec Tryz.prog 118 [.pointer (some ⟨bp,0,none⟩),.int .i64 level] h (cQ B bp z tk ts.length (cJ z n ts) exV)
theorem expr_zero:lD 0:=by
 intro level hlv B bp z tk w ts h o hR hl;refine Spec.enter Tryz.func118 rfl Tryz.ntmps118 (by kernel_rfl) ?_;(refine RunVC.alloc o aT ?_;intro b10 m10 o10);refine Br.dec (fun c11=>?_) (fun hc=>absurd (by omega) hc);refine CallVC.ends (kE 3 bp z w ts _ (Own.cellB ‹_› 0 rfl 0) (Own.cellB ‹_› 0 rfl 1) (Own.reads ‹_› 1 hR.1 rfl)) (fun _ _ h=>h.elim) (fun c h4 ⟨hc,ho⟩=>?_)
 exact⟨_,w,rfl,hc,(ho.thenE ‹_›).sel [0,1] rfl⟩
theorem expr_leaf (n:Nat)(hn:n≤11)(ih:lD n):∀(level:Int)(_:level=13 - ((n+1:Nat):Int))(B:Base)(bp z:Nat)(tk:Item)(w:Value)(ts:List Tok)(h:Heap)(_:Own B (PSt bp z w tk) h)(_:cH tk w ts)(_:ts.length≤5000)(_:∀ j,j<7→bK [dB.getD j [],[40]] ts=false),
  Spec Tryz.prog 118 [.pointer (some ⟨bp,0,none⟩),.int .i64 level] h (cQ B bp z tk ts.length (cJ z (n+1) ts) exV):=by
 intro level hlv B bp z tk w ts h o hR hl hno
 obtain⟨hRd,hK⟩:=hR
 have hR:cH tk w ts:=⟨hRd,hK⟩;refine Spec.enter Tryz.func118 rfl Tryz.ntmps118 (by kernel_rfl) ?_;(refine RunVC.alloc o aT ?_;intro b10 m10 o10);refine Br.dec (fun hc=>absurd hc (by omega)) (fun c11=>?_);refine run (aBE aO ?_);refine aI rfl ?_;(refine RunVC.alloc o10 aT ?_;intro b13 m13 o13);(refine RunVC.aBA o13 3 rfl aT rfl (by decide) (aI ⟨rfl,rfl⟩ ?_);intro m14 o14);refine run (nC rfl ?_);refine run (fA fD rfl rfl rfl ?_);refine run (aBx o14 0 rfl eF rfl rfl ?_);refine run (aBX (o14.reads 1 hRd rfl) fE ?_);refine Br.join [19,20,21,22,23,24,25,26] [] (fun _ hh=>Own B [box bp [w,.int .i64 z] 72,tk,box b10 [.int .i64 0,.string ⟨⟨[]⟩⟩,aK,aK,aK,.string ⟨⟨[]⟩⟩,.string ⟨⟨[]⟩⟩,.int .i64 0,.int .i64 0] 42,box b13 [.int .i64 1,.string ⟨⟨[]⟩⟩,aK,aK,aK,.string ⟨⟨[]⟩⟩,.string ⟨⟨[]⟩⟩,.int .i64 0,.int .i64 (bD ts)] 42] hh) rfl rfl ?_ ?_
 ·cases ts with
  | nil =>
   refine Br.ff ?_
   refine⟨rfl,?_⟩
   exact o14
  | cons t r =>
   have hx:(t::r)[0]?=some t:=rfl;have hln:(t::r).length=r.length+1:=rfl;refine Br.dec (fun c30=>?_) (fun hc=>absurd (by omega) hc);refine run (nC rfl ?_);refine run (fA fD rfl rfl rfl ?_);refine run (aBx o14 0 rfl eF rfl rfl ?_);refine run (aBJ fE bA (o14.reads 1 hRd rfl) rfl (by omega) (by omega) ?_);refine run (aBT (o14.reads 1 hRd rfl) (by omega) eI rfl rfl rfl ?_);refine run (aBW (o14.reads 1 hRd rfl) aW (fun _=>rfl) rfl ‹_› rfl ?_);refine run (fA aO rfl rfl rfl ?_);(refine RunVC.aBA o14 3 rfl aW rfl (by decide) (aI ⟨rfl,rfl⟩ ?_);intro m38 o38)
   refine⟨rfl,?_⟩
   exact Own.sel ‹_› [0,1,2,3] rfl
 ·intro vs junk hh oh
  refine CallVC.ret (eD bp _) ?_;rintro _ h2 ⟨bo,pb,rfl,oc⟩;have o2:=oh.call oc
  simp only[lcA,lnA]at o2
  clear oc;refine run (aBH rfl dM ?_);refine LoopVC.intro [6,7,30,31,32,33,34,35,36,37,38,39,40,41,42,43,44,45,46,47,48,49,50,51,52,53,54,55,56,57,58,59,60,61,62,63,64,65,66,67,68,69,70,71,72,73,74,75,76,77,78,79,80,81,82,83] [30] (fun vs hh=>∃(i:Nat),i≤7∧vs=[.int .i64 i]∧Own B [box bp [w,.int .i64 z] 72,tk,box b10 [.int .i64 0,.string ⟨⟨[]⟩⟩,aK,aK,aK,.string ⟨⟨[]⟩⟩,.string ⟨⟨[]⟩⟩,.int .i64 0,.int .i64 0] 42,box b13 [.int .i64 1,.string ⟨⟨[]⟩⟩,aK,aK,aK,.string ⟨⟨[]⟩⟩,.string ⟨⟨[]⟩⟩,.int .i64 0,.int .i64 (bD ts)] 42,box pb [.pointer (some ⟨bp,0,none⟩)] 70,box bo (qG pb) 188] hh) (fun vs _=>match vs with|[.int _ i]=>7 - i.toNat|_=>0) ?_ ?_
  ·exact⟨0,by omega,rfl,o2⟩
  ·rintro vs' junk' h3 ⟨i,hi,rfl,o3⟩
   clear o14 oh o2;have hoL:(qG pb).length=7*3:=rfl
   rcases(by omega:i=0∨i=1∨i=2∨i=3∨i=4∨i=5∨i=6∨i=7) with rfl|rfl|rfl|rfl|rfl|rfl|rfl|rfl
   ·refine Br.tt ?_
    refine run (aBJ dM aU (o3.boxArrN 5 rfl ‹_› (by omega)) rfl (by omega) (by omega) ?_);refine run (aBB o3 5 rfl aU rfl rfl rfl ?_);(refine RunVC.alloc o3 aU ?_;intro b1002 m1002 o1002);(refine RunVC.aBA o1002 6 rfl aU rfl (by decide) (aI ⟨rfl,rfl⟩ ?_);intro m1003 o1003);refine run (fA cD rfl rfl rfl ?_);refine run (aBx o1003 6 rfl aN rfl rfl ?_);(refine RunVC.lit o1003 aH aN rfl rfl (by decide) (aI rfl ?_);intro b1006 m1006 o1006);refine CallVC.ret (bJ [[115,101,108,101,99,116],[40]] _ bp w ts _ (Own.cellB ‹_› 0 rfl 0) (Own.reads ‹_› 1 hR.1 rfl) (Own.boxArr ‹_› 7 rfl rfl (by decide)) hl) ?_;rintro _ h4 ⟨rv,oc⟩;have o4:=oc.thenE ‹_›;clear oc;have hb:bK [[115,101,108,101,99,116],[40]] ts=false:=hno 0 (by decide)
    rw[hb]at rv
    subst rv;refine Br.tt ?_;refine Ar.i64 (by omega) (by omega) ?_
    refine⟨rfl,?_⟩
    exact⟨⟨1,by omega,rfl,Own.sel ‹_› [0,1,2,3,4,5] rfl⟩,by simp⟩
   ·refine Br.tt ?_
    refine run (aBJ dM aU (o3.boxArrN 5 rfl ‹_› (by omega)) rfl (by omega) (by omega) ?_);refine run (aBB o3 5 rfl aU rfl rfl rfl ?_);(refine RunVC.alloc o3 aU ?_;intro b2002 m2002 o2002);(refine RunVC.aBA o2002 6 rfl aU rfl (by decide) (aI ⟨rfl,rfl⟩ ?_);intro m2003 o2003);refine run (fA cD rfl rfl rfl ?_);refine run (aBx o2003 6 rfl aN rfl rfl ?_);(refine RunVC.lit o2003 aH aN rfl rfl (by decide) (aI rfl ?_);intro b2006 m2006 o2006);refine CallVC.ret (bJ [[112,114,111,106,101,99,116],[40]] _ bp w ts _ (Own.cellB ‹_› 0 rfl 0) (Own.reads ‹_› 1 hR.1 rfl) (Own.boxArr ‹_› 7 rfl rfl (by decide)) hl) ?_;rintro _ h4 ⟨rv,oc⟩;have o4:=oc.thenE ‹_›;clear oc;have hb:bK [[112,114,111,106,101,99,116],[40]] ts=false:=hno 1 (by decide)
    rw[hb]at rv
    subst rv;refine Br.tt ?_;refine Ar.i64 (by omega) (by omega) ?_
    refine⟨rfl,?_⟩
    exact⟨⟨2,by omega,rfl,Own.sel ‹_› [0,1,2,3,4,5] rfl⟩,by simp⟩
   ·refine Br.tt ?_
    refine run (aBJ dM aU (o3.boxArrN 5 rfl ‹_› (by omega)) rfl (by omega) (by omega) ?_);refine run (aBB o3 5 rfl aU rfl rfl rfl ?_);(refine RunVC.alloc o3 aU ?_;intro b3002 m3002 o3002);(refine RunVC.aBA o3002 6 rfl aU rfl (by decide) (aI ⟨rfl,rfl⟩ ?_);intro m3003 o3003);refine run (fA cD rfl rfl rfl ?_);refine run (aBx o3003 6 rfl aN rfl rfl ?_);(refine RunVC.lit o3003 aH aN rfl rfl (by decide) (aI rfl ?_);intro b3006 m3006 o3006);refine CallVC.ret (bJ [[106,111,105,110],[40]] _ bp w ts _ (Own.cellB ‹_› 0 rfl 0) (Own.reads ‹_› 1 hR.1 rfl) (Own.boxArr ‹_› 7 rfl rfl (by decide)) hl) ?_;rintro _ h4 ⟨rv,oc⟩;have o4:=oc.thenE ‹_›;clear oc;have hb:bK [[106,111,105,110],[40]] ts=false:=hno 2 (by decide)
    rw[hb]at rv
    subst rv;refine Br.tt ?_;refine Ar.i64 (by omega) (by omega) ?_
    refine⟨rfl,?_⟩
    exact⟨⟨3,by omega,rfl,Own.sel ‹_› [0,1,2,3,4,5] rfl⟩,by simp⟩
   ·refine Br.tt ?_
    refine run (aBJ dM aU (o3.boxArrN 5 rfl ‹_› (by omega)) rfl (by omega) (by omega) ?_);refine run (aBB o3 5 rfl aU rfl rfl rfl ?_);(refine RunVC.alloc o3 aU ?_;intro b4002 m4002 o4002);(refine RunVC.aBA o4002 6 rfl aU rfl (by decide) (aI ⟨rfl,rfl⟩ ?_);intro m4003 o4003);refine run (fA cD rfl rfl rfl ?_);refine run (aBx o4003 6 rfl aN rfl rfl ?_);(refine RunVC.lit o4003 aH aN rfl rfl (by decide) (aI rfl ?_);intro b4006 m4006 o4006);refine CallVC.ret (bJ [[117,110,105,111,110],[40]] _ bp w ts _ (Own.cellB ‹_› 0 rfl 0) (Own.reads ‹_› 1 hR.1 rfl) (Own.boxArr ‹_› 7 rfl rfl (by decide)) hl) ?_;rintro _ h4 ⟨rv,oc⟩;have o4:=oc.thenE ‹_›;clear oc;have hb:bK [[117,110,105,111,110],[40]] ts=false:=hno 3 (by decide)
    rw[hb]at rv
    subst rv;refine Br.tt ?_;refine Ar.i64 (by omega) (by omega) ?_
    refine⟨rfl,?_⟩
    exact⟨⟨4,by omega,rfl,Own.sel ‹_› [0,1,2,3,4,5] rfl⟩,by simp⟩
   ·refine Br.tt ?_
    refine run (aBJ dM aU (o3.boxArrN 5 rfl ‹_› (by omega)) rfl (by omega) (by omega) ?_);refine run (aBB o3 5 rfl aU rfl rfl rfl ?_);(refine RunVC.alloc o3 aU ?_;intro b5002 m5002 o5002);(refine RunVC.aBA o5002 6 rfl aU rfl (by decide) (aI ⟨rfl,rfl⟩ ?_);intro m5003 o5003);refine run (fA cD rfl rfl rfl ?_);refine run (aBx o5003 6 rfl aN rfl rfl ?_);(refine RunVC.lit o5003 aH aN rfl rfl (by decide) (aI rfl ?_);intro b5006 m5006 o5006);refine CallVC.ret (bJ [[109,105,110,117,115],[40]] _ bp w ts _ (Own.cellB ‹_› 0 rfl 0) (Own.reads ‹_› 1 hR.1 rfl) (Own.boxArr ‹_› 7 rfl rfl (by decide)) hl) ?_;rintro _ h4 ⟨rv,oc⟩;have o4:=oc.thenE ‹_›;clear oc;have hb:bK [[109,105,110,117,115],[40]] ts=false:=hno 4 (by decide)
    rw[hb]at rv
    subst rv;refine Br.tt ?_;refine Ar.i64 (by omega) (by omega) ?_
    refine⟨rfl,?_⟩
    exact⟨⟨5,by omega,rfl,Own.sel ‹_› [0,1,2,3,4,5] rfl⟩,by simp⟩
   ·refine Br.tt ?_
    refine run (aBJ dM aU (o3.boxArrN 5 rfl ‹_› (by omega)) rfl (by omega) (by omega) ?_);refine run (aBB o3 5 rfl aU rfl rfl rfl ?_);(refine RunVC.alloc o3 aU ?_;intro b6002 m6002 o6002);(refine RunVC.aBA o6002 6 rfl aU rfl (by decide) (aI ⟨rfl,rfl⟩ ?_);intro m6003 o6003);refine run (fA cD rfl rfl rfl ?_);refine run (aBx o6003 6 rfl aN rfl rfl ?_);(refine RunVC.lit o6003 aH aN rfl rfl (by decide) (aI rfl ?_);intro b6006 m6006 o6006);refine CallVC.ret (bJ [[114,101,110,97,109,101],[40]] _ bp w ts _ (Own.cellB ‹_› 0 rfl 0) (Own.reads ‹_› 1 hR.1 rfl) (Own.boxArr ‹_› 7 rfl rfl (by decide)) hl) ?_;rintro _ h4 ⟨rv,oc⟩;have o4:=oc.thenE ‹_›;clear oc;have hb:bK [[114,101,110,97,109,101],[40]] ts=false:=hno 5 (by decide)
    rw[hb]at rv
    subst rv;refine Br.tt ?_;refine Ar.i64 (by omega) (by omega) ?_
    refine⟨rfl,?_⟩
    exact⟨⟨6,by omega,rfl,Own.sel ‹_› [0,1,2,3,4,5] rfl⟩,by simp⟩
   ·refine Br.tt ?_
    refine run (aBJ dM aU (o3.boxArrN 5 rfl ‹_› (by omega)) rfl (by omega) (by omega) ?_);refine run (aBB o3 5 rfl aU rfl rfl rfl ?_);(refine RunVC.alloc o3 aU ?_;intro b7002 m7002 o7002);(refine RunVC.aBA o7002 6 rfl aU rfl (by decide) (aI ⟨rfl,rfl⟩ ?_);intro m7003 o7003);refine run (fA cD rfl rfl rfl ?_);refine run (aBx o7003 6 rfl aN rfl rfl ?_);(refine RunVC.lit o7003 aH aN rfl rfl (by decide) (aI rfl ?_);intro b7006 m7006 o7006);refine CallVC.ret (bJ [[103,114,111,117,112],[40]] _ bp w ts _ (Own.cellB ‹_› 0 rfl 0) (Own.reads ‹_› 1 hR.1 rfl) (Own.boxArr ‹_› 7 rfl rfl (by decide)) hl) ?_;rintro _ h4 ⟨rv,oc⟩;have o4:=oc.thenE ‹_›;clear oc;have hb:bK [[103,114,111,117,112],[40]] ts=false:=hno 6 (by decide)
    rw[hb]at rv
    subst rv;refine Br.tt ?_;refine Ar.i64 (by omega) (by omega) ?_
    refine⟨rfl,?_⟩
    exact⟨⟨7,by omega,rfl,Own.sel ‹_› [0,1,2,3,4,5] rfl⟩,by simp⟩
   ·have hE:cJ z (n+1) ts=(dG z >>= fun t=>(pure (lL (bD ts) t):PM Ex)) ts:=exprP_none (opIdx_none hno)
    refine Br.ff ?_;refine cF.callL ‹_› rfl hR (by omega) (fun a q w2 v h4 hm hv hle hR2 oq=>?_) (fun e w2 h4 hm o2=>⟨e,w2,hE.trans (PM.aBy hm),rfl,o2⟩);subst hv
    rw[PM.aBz hm]at hE
    have o9:=oq
    simp only[PSt,pick,lcA,lnA,lgS,lgZ,lgN]at o9
    clear oq hm;refine run (fA aO rfl rfl rfl ?_);(refine RunVC.store o9 3 rfl aN rfl (by simp) (aI ⟨rfl,rfl⟩ ?_);intro m71 o71);refine run (aBB o71 3 rfl aT rfl rfl rfl ?_);(refine RunVC.aBA o71 2 rfl aT rfl (by decide) (aI ⟨rfl,rfl⟩ ?_);intro m73 o73)
    first|refine RetVC.aBL rfl o73 2 rfl aT rfl rfl ?_|refine RetVC.aBK rfl o73 2 rfl aT rfl rfl ?_|refine RetVC.cellTT rfl o73 2 rfl aT rfl rfl ?_
    exact⟨lL (bD ts) a,q,w2,gG,hE,⟨⟨wB 1 a aK aK aK [] [] 0 (bD ts),rfl⟩,rfl,exR_leaf _ _ _⟩,by omega,hR2,(Own.sel ‹_› [0,1] rfl).emptyI'.sel [1,2,0] rfl⟩
theorem expr_select (n:Nat)(hn:n≤11)(ih:lD n):∀(level:Int)(_:level=13 - ((n+1:Nat):Int))(B:Base)(bp z:Nat)(tk:Item)(w:Value)(ts:List Tok)(h:Heap)(_:Own B (PSt bp z w tk) h)(_:cH tk w ts)(_:ts.length≤5000)(_:∀ j,j<0→bK [dB.getD j [],[40]] ts=false)(_:bK [[115,101,108,101,99,116],[40]] ts=true),
  Spec Tryz.prog 118 [.pointer (some ⟨bp,0,none⟩),.int .i64 level] h (cQ B bp z tk ts.length (cJ z (n+1) ts) exV):=by
 intro level hlv B bp z tk w ts h o hR hl hno hb
 obtain⟨hRd,hK⟩:=hR
 have hR:cH tk w ts:=⟨hRd,hK⟩;refine Spec.enter Tryz.func118 rfl Tryz.ntmps118 (by kernel_rfl) ?_;(refine RunVC.alloc o aT ?_;intro b10 m10 o10);refine Br.dec (fun hc=>absurd hc (by omega)) (fun c11=>?_);refine run (aBE aO ?_);refine aI rfl ?_;(refine RunVC.alloc o10 aT ?_;intro b13 m13 o13);(refine RunVC.aBA o13 3 rfl aT rfl (by decide) (aI ⟨rfl,rfl⟩ ?_);intro m14 o14);refine run (nC rfl ?_);refine run (fA fD rfl rfl rfl ?_);refine run (aBx o14 0 rfl eF rfl rfl ?_);refine run (aBX (o14.reads 1 hRd rfl) fE ?_);refine Br.join [19,20,21,22,23,24,25,26] [] (fun _ hh=>Own B [box bp [w,.int .i64 z] 72,tk,box b10 [.int .i64 0,.string ⟨⟨[]⟩⟩,aK,aK,aK,.string ⟨⟨[]⟩⟩,.string ⟨⟨[]⟩⟩,.int .i64 0,.int .i64 0] 42,box b13 [.int .i64 1,.string ⟨⟨[]⟩⟩,aK,aK,aK,.string ⟨⟨[]⟩⟩,.string ⟨⟨[]⟩⟩,.int .i64 0,.int .i64 (bD ts)] 42] hh) rfl rfl ?_ ?_
 ·cases ts with
  | nil =>
   refine Br.ff ?_
   refine⟨rfl,?_⟩
   exact o14
  | cons t r =>
   have hx:(t::r)[0]?=some t:=rfl;have hln:(t::r).length=r.length+1:=rfl;refine Br.dec (fun c30=>?_) (fun hc=>absurd (by omega) hc);refine run (nC rfl ?_);refine run (fA fD rfl rfl rfl ?_);refine run (aBx o14 0 rfl eF rfl rfl ?_);refine run (aBJ fE bA (o14.reads 1 hRd rfl) rfl (by omega) (by omega) ?_);refine run (aBT (o14.reads 1 hRd rfl) (by omega) eI rfl rfl rfl ?_);refine run (aBW (o14.reads 1 hRd rfl) aW (fun _=>rfl) rfl ‹_› rfl ?_);refine run (fA aO rfl rfl rfl ?_);(refine RunVC.aBA o14 3 rfl aW rfl (by decide) (aI ⟨rfl,rfl⟩ ?_);intro m38 o38)
   refine⟨rfl,?_⟩
   exact Own.sel ‹_› [0,1,2,3] rfl
 ·intro vs junk hh oh
  refine CallVC.ret (eD bp _) ?_;rintro _ h2 ⟨bo,pb,rfl,oc⟩;have o2:=oh.call oc
  simp only[lcA,lnA]at o2
  clear oc;refine run (aBH rfl dM ?_);refine LoopVC.intro [6,7,30,31,32,33,34,35,36,37,38,39,40,41,42,43,44,45,46,47,48,49,50,51,52,53,54,55,56,57,58,59,60,61,62,63,64,65,66,67,68,69,70,71,72,73,74,75,76,77,78,79,80,81,82,83] [30] (fun vs hh=>∃(i:Nat),i≤0∧vs=[.int .i64 i]∧Own B [box bp [w,.int .i64 z] 72,tk,box b10 [.int .i64 0,.string ⟨⟨[]⟩⟩,aK,aK,aK,.string ⟨⟨[]⟩⟩,.string ⟨⟨[]⟩⟩,.int .i64 0,.int .i64 0] 42,box b13 [.int .i64 1,.string ⟨⟨[]⟩⟩,aK,aK,aK,.string ⟨⟨[]⟩⟩,.string ⟨⟨[]⟩⟩,.int .i64 0,.int .i64 (bD ts)] 42,box pb [.pointer (some ⟨bp,0,none⟩)] 70,box bo (qG pb) 188] hh) (fun vs _=>match vs with|[.int _ i]=>7 - i.toNat|_=>0) ?_ ?_
  ·exact⟨0,by omega,rfl,o2⟩
  ·rintro vs' junk' h3 ⟨i,hi,rfl,o3⟩
   clear o14 oh o2;have hoL:(qG pb).length=7*3:=rfl
   rcases(by omega:i=0) with rfl
   ·refine Br.tt ?_
    refine run (aBJ dM aU (o3.boxArrN 5 rfl ‹_› (by omega)) rfl (by omega) (by omega) ?_);refine run (aBB o3 5 rfl aU rfl rfl rfl ?_);(refine RunVC.alloc o3 aU ?_;intro b1002 m1002 o1002);(refine RunVC.aBA o1002 6 rfl aU rfl (by decide) (aI ⟨rfl,rfl⟩ ?_);intro m1003 o1003);refine run (fA cD rfl rfl rfl ?_);refine run (aBx o1003 6 rfl aN rfl rfl ?_);(refine RunVC.lit o1003 aH aN rfl rfl (by decide) (aI rfl ?_);intro b1006 m1006 o1006);refine CallVC.ret (bJ [[115,101,108,101,99,116],[40]] _ bp w ts _ (Own.cellB ‹_› 0 rfl 0) (Own.reads ‹_› 1 hR.1 rfl) (Own.boxArr ‹_› 7 rfl rfl (by decide)) hl) ?_;rintro _ h4 ⟨rv,oc⟩;have o4:=oc.thenE ‹_›;clear oc
    rw[hb]at rv
    subst rv;have hE:cJ z (n+1) ts=(bP z [[115,101,108,101,99,116],[40]] >>= fun _=>cJ z n >>= fun a=>ifP (wJ 0) (bP z [[44]] >>= fun _=>cJ z n >>= fun b=>pure [a,b]) [a] >>= fun kids=>eS z 0 (bD ts) kids >>= fun x=>bP z [[41]] >>= fun _=>(pure x:PM Ex)) ts:=jD (jC (by decide) hno hb);have o5:=o4.sel [0,1,2,3,4,6] rfl
    simp only[PSt,pick,lcA,lnA,lgS,lgZ,lgN]at o5
    clear o3 o4;refine Br.ff ?_;refine Ar.i64 (by omega) (by omega) ?_;refine run (fA aO rfl rfl rfl ?_);(refine RunVC.store o5 3 rfl aW rfl (by simp) (aI ⟨rfl,rfl⟩ ?_);intro m1041 o1041);refine run (fA cD rfl rfl rfl ?_);refine run (aBx o1041 5 rfl aN rfl rfl ?_);(refine RunVC.lit o1041 aH aN rfl rfl (by decide) (aI rfl ?_);intro b1044 m1044 o1044);refine aS (ss:=[[115,101,108,101,99,116],[40]]) ‹_› rfl (by first|exact⟨2,by decide,rfl⟩|exact⟨3,by decide,rfl⟩|exact⟨4,by decide,rfl⟩|exact⟨5,by decide,rfl⟩|exact⟨6,by decide,rfl⟩|exact⟨7,by decide,rfl⟩|exact⟨8,by decide,rfl⟩|exact⟨9,by decide,rfl⟩) hR (by omega) (by decide) (fun _ q1 w1 v h5 hm hv hle1 hR1 oq=>?_) (fun e w' h' hm o2=>⟨e,w',hE.trans (PM.aBy hm),rfl,o2⟩);subst hv
    rw[PM.aBz hm]at hE
    have o6:=oq.sel [0,1,2,3,4,5] rfl
    simp only[PSt,pick,lcA,lnA,lgS,lgZ,lgN]at o6
    clear oq hm;refine DrawVC.join [49,50,51,52,53,54,55,56,57,58,59] [] (fun _ hh=>∃(a1:Ex) (q2:List Tok) (w2:Value) (c1:cV) (I1:Item) (ua:Option Addr) (uc:Nat),cJ z n q1=.ok (a1,q2)∧q2.length≤q1.length∧cH tk w2 q2∧lB I1 c1.1 a1∧Own B [box bp [w2,.int .i64 z] 72,tk,I1,box b10 [.int .i64 0,.string ⟨⟨[]⟩⟩,aK,aK,aK,.string ⟨⟨[]⟩⟩,.string ⟨⟨[]⟩⟩,.int .i64 0,.int .i64 0] 42,box b13 [.int .i64 2,.string ⟨⟨[]⟩⟩,.slice ua 1 uc,aK,aK,.string ⟨⟨[]⟩⟩,.string ⟨⟨[]⟩⟩,.int .i64 0,.int .i64 (bD ts)] 42,box pb [.pointer (some ⟨bp,0,none⟩)] 70,box b1002 [.string ⟨⟨[115,101,108,101,99,116]⟩⟩,.bool false,.func (.func 161) ⟨[]⟩ ⟨[.pointer (some ⟨pb,0,none⟩)]⟩] 188,row (.slice ua 1 uc) 42 9 1 c1.1] hh) ?_ ?_
    ·refine DrawVC.aBU b13 [0,2,3,4,6,9,11] [1] [8,10,12] (.one 0 (.one 1 (.one 2 (.one 3 (.one 4 (.one 6 (.fork 5 7 (.one 7 (.one 8 (.one 9 (.one 11 (.fork 10 12 (.one 12 .done) (.one 10 .done)))))) (.one 5 (.one 8 (.one 9 (.one 11 (.fork 10 12 (.one 12 .done) (.one 10 .done))))))))))))) mixed (by kernel_rfl) rfl (fun _ _ _ _ h=>h) ?_
     refine fA aO rfl rfl rfl ?_;refine StillVCA.load1 cX rfl rfl ((o6.cellB 3 rfl _).trans rfl) ?_;refine Ar.i64 (by omega) (by omega) ?_;refine aBH rfl bY ?_
     refine⟨?_,?_⟩
     ·skip
      refine cQ.callL (fun B' o'=>ih (level+1) (by omega) B' bp z tk _ _ _ o' hR1 (by omega)) ‹_› rfl (fun a1 q2 w2 v I1 h6 hm hv hle2 hR2 oq=>?_) (fun e w' h' hm o2=>⟨e,w',hE.trans (PM.aBy hm),rfl,o2⟩)
      obtain⟨c1,rfl,hx1⟩:=hv
      have o7:=oq
      simp only[PSt,pick,lcA,lnA,lgS,lgZ,lgN]at o7
      clear oq
      refine⟨Eq.trans (Own.satK o7 4 rfl) (Eq.symm (Own.satK (x:=box b13 _ _) ‹_› 3 rfl)),?_⟩
      have one1:=eN (Own.satK o7 2 rfl) hx1;(refine RunVC.aBV o7 bY aT rfl rfl (by decide) ?_);refine aI rfl ?_;intro b1101 m1101 o1101;refine aI ((o1101.boxBlk 4 rfl).trans (o7.boxBlk 4 rfl).symm) ?_;have on:=Own.nilRow ‹_› 42 9
      simp only[lcA,lnA]at on
      refine RunVC.append on 8 rfl bY aT (by decide) (Own.boxArrN on 7 rfl (n:=1) rfl (by omega)) (by simp[Value.oneCell']) (by simp only[maxLen];omega) (by omega) ?_;intro vA mA oA
      obtain⟨ua,uc,rfl⟩:=oA.rowIs 8 rfl
      refine aBJ bY aT (oA.rowArrN 8 rfl) rfl (by omega) (by omega) ?_;refine fA aO rfl rfl rfl ?_
      refine⟨?_,?_⟩
      ·skip
       refine RunVC.aBI (i:=0) ‹_› 8 rfl aT rfl rfl rfl c1.2 (by decide) (by decide) one1 ?_;intro mB oB
       simp only[lsS,lsZ]at oB
       (refine RunVC.store oB 4 rfl cX rfl (by simp) (aI ⟨rfl,rfl⟩ ?_);intro m1140 o1140)
       refine⟨rfl,?_⟩
       have ef:=cA (cs:=[.int .i64 0,.string ⟨⟨[]⟩⟩,aK,aK,aK,.string ⟨⟨[]⟩⟩,.string ⟨⟨[]⟩⟩,.int .i64 0,.int .i64 0]) (c:=c1) rfl
       exact⟨a1,q2,w2,c1,I1,ua,uc,hm,hle2,hR2,hx1,ef▸Own.sel ‹_› [0,1,2,3,4,5,6,8] rfl⟩
      ·skip
       (refine RunVC.store oA 4 rfl cX rfl (by simp) (aI ⟨rfl,rfl⟩ ?_);intro m1150 o1150);refine RunVC.aBI (i:=0) ‹_› 8 rfl aT rfl rfl rfl c1.2 (by decide) (by decide) one1 ?_;intro mB oB
       simp only[lsS,lsZ]at oB
       refine⟨rfl,?_⟩
       have ef:=cA (cs:=[.int .i64 0,.string ⟨⟨[]⟩⟩,aK,aK,aK,.string ⟨⟨[]⟩⟩,.string ⟨⟨[]⟩⟩,.int .i64 0,.int .i64 0]) (c:=c1) rfl
       exact⟨a1,q2,w2,c1,I1,ua,uc,hm,hle2,hR2,hx1,ef▸Own.sel ‹_› [0,1,2,3,4,5,6,8] rfl⟩
     ·skip
      (refine RunVC.aBV o6 bY aT rfl rfl (by decide) ?_);refine aI rfl ?_;intro b1281 m1281 o1281;refine aI ((o1281.boxBlk 3 rfl).trans (o6.boxBlk 3 rfl).symm) ?_;refine cQ.callL (fun B' o'=>ih (level+1) (by omega) B' bp z tk _ _ _ o' hR1 (by omega)) ‹_› rfl (fun a1 q2 w2 v I1 h6 hm hv hle2 hR2 oq=>?_) (fun e w' h' hm o2=>⟨e,w',hE.trans (PM.aBy hm),rfl,o2⟩)
      obtain⟨c1,rfl,hx1⟩:=hv
      have o7:=oq
      simp only[PSt,pick,lcA,lnA,lgS,lgZ,lgN]at o7
      clear oq
      refine⟨Eq.trans (Own.satK o7 4 rfl) (Eq.symm (Own.satK (x:=box b13 _ _) ‹_› 3 rfl)),?_⟩
      have one1:=eN (Own.satK o7 2 rfl) hx1;have on:=Own.nilRow ‹_› 42 9
      simp only[lcA,lnA]at on
      refine RunVC.append on 8 rfl bY aT (by decide) (Own.boxArrN on 7 rfl (n:=1) rfl (by omega)) (by simp[Value.oneCell']) (by simp only[maxLen];omega) (by omega) ?_;intro vA mA oA
      obtain⟨ua,uc,rfl⟩:=oA.rowIs 8 rfl
      refine aBJ bY aT (oA.rowArrN 8 rfl) rfl (by omega) (by omega) ?_;refine fA aO rfl rfl rfl ?_
      refine⟨?_,?_⟩
      ·skip
       refine RunVC.aBI (i:=0) ‹_› 8 rfl aT rfl rfl rfl c1.2 (by decide) (by decide) one1 ?_;intro mB oB
       simp only[lsS,lsZ]at oB
       (refine RunVC.store oB 4 rfl cX rfl (by simp) (aI ⟨rfl,rfl⟩ ?_);intro m1340 o1340)
       refine⟨rfl,?_⟩
       have ef:=cA (cs:=[.int .i64 0,.string ⟨⟨[]⟩⟩,aK,aK,aK,.string ⟨⟨[]⟩⟩,.string ⟨⟨[]⟩⟩,.int .i64 0,.int .i64 0]) (c:=c1) rfl
       exact⟨a1,q2,w2,c1,I1,ua,uc,hm,hle2,hR2,hx1,ef▸Own.sel ‹_› [0,1,2,3,4,5,6,8] rfl⟩
      ·skip
       (refine RunVC.store oA 4 rfl cX rfl (by simp) (aI ⟨rfl,rfl⟩ ?_);intro m1350 o1350);refine RunVC.aBI (i:=0) ‹_› 8 rfl aT rfl rfl rfl c1.2 (by decide) (by decide) one1 ?_;intro mB oB
       simp only[lsS,lsZ]at oB
       refine⟨rfl,?_⟩
       have ef:=cA (cs:=[.int .i64 0,.string ⟨⟨[]⟩⟩,aK,aK,aK,.string ⟨⟨[]⟩⟩,.string ⟨⟨[]⟩⟩,.int .i64 0,.int .i64 0]) (c:=c1) rfl
       exact⟨a1,q2,w2,c1,I1,ua,uc,hm,hle2,hR2,hx1,ef▸Own.sel ‹_› [0,1,2,3,4,5,6,8] rfl⟩
    ·rintro _ junk2 h7 ⟨a1,q2,w2,c1,I1,ua,uc,hm,hle2,hR2,hx1,o8⟩
     rw[PM.aBz hm]at hE
     rw[qO (by rfl),PM.aBM]at hE
     refine run (fA cD rfl rfl rfl ?_);refine run (aBx o8 6 rfl ty4 rfl rfl ?_);refine Br.ff ?_;refine RegVC.plain ?_;refine run (fA cD rfl rfl rfl ?_);refine run (aBx o8 6 rfl xD rfl rfl ?_);refine kM.callL (fun B' o'=>rest0_spec (bD ts) (.slice ua 1 uc) [a1] B' bp z tk b13 pb w2 q2 h7 o' hR2 (by omega)) o8 [0,1,4,5] [2,3,7] rfl rfl (fun x q3 w3 c J h8 hm3 hJ hle3 hR3 oq=>?_) (fun e w' h' hm3 o2=>⟨e,w',hE.trans (PM.aBy hm3),rfl,o2⟩)
     rw[PM.aBz hm3]at hE
     obtain⟨vc,vn,cs,ns,at_,as_,ag,rfl,rfl,rc,rn⟩:=hJ
     unfold wB at oq;have o9:=oq
     simp only[PSt,pick,lcA,lnA,lgS,lgZ,lgN]at o9
     clear oq o8
     obtain⟨xa,xb,rfl⟩:=rc.isS (Own.satK o9 4 rfl)
     obtain⟨ya,yb,rfl⟩:=rn.isS (Own.satK o9 4 rfl)
     (refine RunVC.lit o9 aH aN rfl rfl (by decide) (aI rfl ?_);intro b1520 m1520 o1520);refine aS (ss:=[[41]]) ‹_› rfl (by first|exact⟨2,by decide,rfl⟩|exact⟨3,by decide,rfl⟩|exact⟨4,by decide,rfl⟩|exact⟨5,by decide,rfl⟩|exact⟨6,by decide,rfl⟩|exact⟨7,by decide,rfl⟩|exact⟨8,by decide,rfl⟩|exact⟨9,by decide,rfl⟩) hR3 (by omega) (by decide) (fun _ q4 w4 v h9 hm4 hv hle4 hR4 oq=>?_) (fun e w' h' hm o2=>⟨e,w',hE.trans (PM.aBy hm),rfl,o2⟩);subst hv
     rw[PM.aBz hm4]at hE
     have o10:=oq
     simp only[PSt,pick,lcA,lnA,lgS,lgZ,lgN]at o10
     clear oq o9;refine run (aBB o10 2 rfl aT rfl rfl rfl ?_);(refine RunVC.aBA o10 6 rfl aT rfl (by decide) (aI ⟨rfl,rfl⟩ ?_);intro m1541 o1541)
     first|refine RetVC.aBL rfl o1541 6 rfl aT rfl rfl ?_|refine RetVC.aBK rfl o1541 6 rfl aT rfl rfl ?_|refine RetVC.cellTT rfl o1541 6 rfl aT rfl rfl ?_
     have er:[c1].flatMap Subtype.val=c1.1:=by simp
     exact⟨_,q4,w4,dT (dT J I1) (row (.slice ua 1 uc) 42 9 1 c1.1),hE,⟨⟨wB 2 [] (.slice ua 1 uc) (.slice xa cs.length xb) (.slice ya ns.length yb) at_ as_ ag (bD ts),rfl⟩,rfl,by rw[lB];exact⟨_,_,_,rfl,rc.inl.inl,rn.inl.inl,[c1],by rw[er];exact dD.inr,lB.mono (fun _ (s:(dT (dT _ _) _).sat _)=>s.1.2) _ _ hx1,trivial⟩⟩,by omega,hR4,((Own.sel ‹_› [4,5,7,0,1] rfl).join.join).sel [1,2,0] rfl⟩
end Go.Proofs.YtohlogbnpfofpaaGreatDoor
