/- Part 6 of the proof of equality: FnEx0, FnEx1, FnEx2, FnEx3, FnEx4, FnEx5. -/
import Derived.Test.YtohlogbnpfofpaaGreatDoorPE05
set_option linter.all false
set_option maxHeartbeats 100000000
set_option maxRecDepth 100000
namespace Go.Proofs.YtohlogbnpfofpaaGreatDoor
open Go StillVC
theorem aBq:∀(vs cs:aVs)(off m:Nat),(lset cs off vs).take m=lset (cs.take m) off vs
 | [],_,_,_=>rfl
 | v::vs,cs,off,m=>by rw[lset,aBq vs,List.take_set,lset]
theorem StillVC.aCu {P:Program}{ty:TypeId}{s:aVs}{h:Heap}{K:KK}{Q:QQ}{h0:Base}{L:List Item}{t:TypeId}{a x:Operand}{zero vs:aVs}{by_:Nat}{agg:Bool}{v:Value}{e:TypeId}{sz n i:Nat}{xs:aVs}(o:Own h0 L h)(k:Nat)(hk:L[k]?=some (row v e sz n xs))(hT:TyI P t agg zero by_)
  (hz:zero.length=sz) (ha:ev s a=adr v (i*sz)) (hx:ev s x=.agg ⟨vs⟩) (hv:vs.length=sz) (hi:i<n) (hs0:0<sz) (h1:vs.all (fun u=>u.oneCell')=true)
  (hK:∀ h',Own h0 (L.set k (row v e sz n (lset xs (i*sz) vs))) h'→K undef false h'):RunVC P (.store t a x) ty s h K Q :=
 .of_skip fun w hw=>by
  subst hw;have hr:sO w.heap e sz v n xs:=o.sat _ (aDa hk)
  obtain⟨hl,hr⟩:=hr
  rcases hr with ⟨rfl,rfl⟩|⟨g,cap,cur,rfl,hg,hn,hm,hs,ht⟩
  ·omega
  ·have hb:w.heap[g]?=some (.cells cur.toList.toArray e (0,0)):=by simpa using hg
   have hroom:i*sz+sz≤cap*sz:=by
    have:(i+1)*sz≤cap*sz:=Nat.mul_le_mul_right _ (by omega)
    rw[Nat.add_mul]at this;omega
   have hrun:=qU (P:=P) (b:=g) (off:=i*sz) vs 0 w cur.toList e 0 0 hb (.inl rfl) (by simp;omega) (aDk.1 h1)
   refine⟨wsets w g (i*sz) vs,?_,(gH _ w g (i*sz)).2.2,?_⟩
   ·rw[adr]at ha
    have hva:(Value.agg ⟨vs⟩).cells=⟨vs⟩:=rfl
    simp[execOp,ha,hx,Instr.storeAt,Instr.sureAddr,storeVar,hT.sizeOf,hz,hv,hva,hrun]
   ·refine hK _ (o.set hk (Nat.le_of_eq (gH _ w g (i*sz)).1.symm) (fun x _ hx=>(gH _ w g (i*sz)).2.1 x (fun e=>hx (by subst e;rfl))) ?_ (fun x hx=>.inl hx) (fun x hx=>?_))
    ·refine⟨by rw[rF];exact hl,.inr ⟨g,cap,(lset cur.toList (i*sz) vs).toArray,rfl,sets_blk _ _ _ _ _ _ _ _ hb,hn,hm,by simp[rF,hs],?_⟩⟩
     rw[← ht]
     exact aBq _ _ _ _
    ·rw[(gH _ w g (i*sz)).1];exact o.hi _ (aDa hk) x hx
theorem opIdx_none {ts:List Tok}(h:∀ j,j<7→bC [cH.getD j [],[40]] ts=false):gQ ts=none:=by
 unfold gQ
 rw[List.find?_eq_none]
 intro j hj
 rw[h j (by simpa using hj)]
 decide
theorem exprP_none {z n:Nat}{ts:List Tok}(h:gQ ts=none):bT z (n+1) ts=(cV z >>= fun t=>(pure (mU (bF ts) t):PM Ex)) ts:=by
 rw[bT]
 simp only[h]
theorem jN {ts:List Tok}{i:Nat}(hi:i<7)(h:∀ j,j<i→bC [cH.getD j [],[40]] ts=false)(hb:bC [cH.getD i [],[40]] ts=true):gQ ts=some i:=by
 unfold gQ
 rw[List.find?_range_eq_some]
 exact⟨hb,by simpa using hi,fun j hj=>by rw[h j hj];rfl⟩
theorem jO {z n:Nat}{ts:List Tok}{i:Nat}(h:gQ ts=some i):bT z (n+1) ts=(aW z [cH.getD i [],[40]] >>= fun _=>bT z n >>= fun a=>ifP (sM i) (aW z [[44]] >>= fun _=>bT z n >>= fun b=>pure [a,b]) [a] >>= fun kids=>eB z i (bF ts) kids >>= fun x=>aW z [[41]] >>= fun _=>(pure x:PM Ex)) ts:=by
 rw[bT]
 simp only[h]
theorem exR_leaf (I:Item)(t:aBs)(off:Nat):mF I (xR 1 t aN aN aN [] [] 0 off) (mU off t):=by
 unfold mU
 rw[mF]
 exact⟨_,_,_,rfl,aP,aP,[],aP,trivial⟩
theorem eU {I:Item}{h:Heap}(hI:I.sat h):∀ {x:Ex}{c:aVs},mF I c x→c.all (fun u=>u.oneCell')=true
 | .mk kind table kids conds names attr as_ agg off,c,hx=>by
  rw[mF]at hx
  obtain⟨vk,vc,vn,rfl,h2,h3,xs,h4,_⟩:=hx
  obtain⟨a1,b1,rfl⟩:=h2.isS hI
  obtain⟨a2,b2,rfl⟩:=h3.isS hI
  obtain⟨a3,b3,rfl⟩:=h4.isS hI
  rfl
theorem cA {cs:aVs}{c:cX}(h:cs.length=9):lset ([]++cs) (0*9) c.1=c.1:=by
 rw[lnA,Nat.zero_mul,yF _ _ _ (by rw[c.2,h];omega)]
 simp[c.2,h]
theorem lJ.callL {g:FuncId}{args:aVs}{s:aVs}{h:Heap}{K:KK}{Q:QQ}{B:Base}{L X:List Item}{bp z:Nat}{tk:Item}{bx pb n:Nat}{res:Except (Int×Nat) (Ex×List Tok)}{kind:Int}{vk:Value}{kids:List Ex}{off:Nat}
  (sp:∀ B':Base,Own B' X h→Spec Tryz.prog g args h (lJ B' bp z tk bx pb n res kind vk kids off)) (o:Own B L h) (ks js:List Nat) (hd:dst (ks++js)=true) (e:pick L ks=X)
  (hret:∀ x r w' c I h',res=.ok (x,r)→restR I c kind vk kids off x→r.length≤n→cJ tk w' r→Own B ([box bp [w',.int .i64 z] 72,tk,box bx c 42,box pb [.pointer (some ⟨bp,0,none⟩)] 70,I]++pick L js) h'→K (.tuple ⟨[]⟩) false h')
  (hpan:∀ e w' h',res=.error e→Own B (PSt bp z w' tk) h'→Q (.panic (kQ e)) s h'):CallVC Tryz.prog g args s h K Q:=by
 have ol:=o.lend ks js hd
 rw[e]at ol
 exact aC0 (sp _ ol) (fun v h' ⟨x,r,w',c,I,h1,h2,h3,h4,h5,h6⟩=>by subst h2;exact hret x r w' c I h' h1 h3 h4 h5 h6.back) (fun c h' ⟨e,w',h1,h2,h3⟩=>by subst h2;exact hpan e w' h' h1 (h3.back.sel [0,1] rfl))
theorem eL {cs:aVs}{c d:cX}(h:cs.length=9):lset (c.1++cs) (1*9) d.1=c.1++d.1:=by
 rw[Nat.one_mul,yF _ _ _ (by rw[aDd,d.2,c.2,h];exact aDj _)]
 simp[c.2,d.2,h]
theorem vR (bx:Nat)(h:Heap):bZ Tryz.prog 160 [.pointer (some ⟨bx,0,none⟩)] h fun v h'=>v=.tuple ⟨[]⟩∧Own h [] h':=by
 refine aC1 Tryz.func160 rfl Tryz.ntmps160 (by kernel_rfl) ?_;have o0:=Own.refl h;refine aC4 rfl ?_
 exact⟨rfl,o0⟩
def exV (x:Ex)(v:Value)(I:Item):Prop:=∃ c:cX,v=.agg ⟨c.1⟩∧mF I c.1 x
def mJ (n:Nat):Prop:=∀(level:Int)(_:level=13 - n)(B:Base)(bp z:Nat)(tk:Item)(w:Value)(ts:List Tok)(h:Heap)(_:Own B (PSt bp z w tk) h)(_:cJ tk w ts)(_:ts.length≤5000),
 Spec Tryz.prog 118 [.pointer (some ⟨bp,0,none⟩),.int .i64 level] h (cW B bp z tk ts.length (bT z n ts) exV)
theorem expr_zero:mJ 0:=by
 intro level hlv B bp z tk w ts h o hR hl;refine aC1 Tryz.func118 rfl Tryz.ntmps118 (by kernel_rfl) ?_;(refine aCT o aT ?_;intro b10 m10 o10);refine aCV (fun c11=>?_) (fun hc=>absurd (by omega) hc);refine aC0 (kV 3 bp z w ts _ (Own.cellB ‹_› 0 rfl 0) (Own.cellB ‹_› 0 rfl 1) (Own.reads ‹_› 1 hR.1 rfl)) (fun _ _ h=>h.elim) (fun c h4 ⟨hc,ho⟩=>?_)
 exact⟨_,w,rfl,hc,(ho.thenE ‹_›).sel [0,1] rfl⟩
theorem expr_leaf (n:Nat)(hn:n≤11)(ih:mJ n):∀(level:Int)(_:level=13 - ((n+1:Nat):Int))(B:Base)(bp z:Nat)(tk:Item)(w:Value)(ts:List Tok)(h:Heap)(_:Own B (PSt bp z w tk) h)(_:cJ tk w ts)(_:ts.length≤5000)(_:∀ j,j<7→bC [cH.getD j [],[40]] ts=false),
  Spec Tryz.prog 118 [.pointer (some ⟨bp,0,none⟩),.int .i64 level] h (cW B bp z tk ts.length (bT z (n+1) ts) exV):=by
 intro level hlv B bp z tk w ts h o hR hl hno
 obtain⟨hRd,hK⟩:=hR
 have hR:cJ tk w ts:=⟨hRd,hK⟩;refine aC1 Tryz.func118 rfl Tryz.ntmps118 (by kernel_rfl) ?_;(refine aCT o aT ?_;intro b10 m10 o10);refine aCV (fun hc=>absurd hc (by omega)) (fun c11=>?_);refine rR (aCr aM ?_);refine aI rfl ?_;(refine aCT o10 aT ?_;intro b13 m13 o13);(refine aCl o13 3 rfl aT rfl (by decide) (aI ⟨rfl,rfl⟩ ?_);intro m14 o14);refine rR (nC rfl ?_);refine rR (fA fH rfl rfl rfl ?_);refine rR (aCi o14 0 rfl eM rfl rfl ?_);refine rR (aCJ (o14.reads 1 hRd rfl) fI ?_);refine Br.join [19,20,21,22,23,24,25,26] [] (fun _ hh=>Own B [box bp [w,.int .i64 z] 72,tk,box b10 [.int .i64 0,.string ⟨⟨[]⟩⟩,aN,aN,aN,.string ⟨⟨[]⟩⟩,.string ⟨⟨[]⟩⟩,.int .i64 0,.int .i64 0] 42,box b13 [.int .i64 1,.string ⟨⟨[]⟩⟩,aN,aN,aN,.string ⟨⟨[]⟩⟩,.string ⟨⟨[]⟩⟩,.int .i64 0,.int .i64 (bF ts)] 42] hh) rfl rfl ?_ ?_
 ·cases ts with
  | nil =>
   refine aCX ?_
   refine⟨rfl,?_⟩
   exact o14
  | cons t r =>
   have hx:(t::r)[0]?=some t:=rfl;have hln:(t::r).length=r.length+1:=rfl;refine aCV (fun c30=>?_) (fun hc=>absurd (by omega) hc);refine rR (nC rfl ?_);refine rR (fA fH rfl rfl rfl ?_);refine rR (aCi o14 0 rfl eM rfl rfl ?_);refine rR (aCt fI bB (o14.reads 1 hRd rfl) rfl (by omega) (by omega) ?_);refine rR (aCB (o14.reads 1 hRd rfl) (by omega) eP rfl rfl rfl ?_);refine rR (aCH (o14.reads 1 hRd rfl) aS (fun _=>rfl) rfl ‹_› rfl ?_);refine rR (fA aM rfl rfl rfl ?_);(refine aCl o14 3 rfl aS rfl (by decide) (aI ⟨rfl,rfl⟩ ?_);intro m38 o38)
   refine⟨rfl,?_⟩
   exact Own.sel ‹_› [0,1,2,3] rfl
 ·intro vs junk hh oh
  refine aCZ (eK bp _) ?_;rintro _ h2 ⟨bo,pb,rfl,oc⟩;have o2:=oh.call oc
  simp only[lcA,lnA]at o2
  clear oc;refine rR (aCq rfl dP ?_);refine aC5 [6,7,30,31,32,33,34,35,36,37,38,39,40,41,42,43,44,45,46,47,48,49,50,51,52,53,54,55,56,57,58,59,60,61,62,63,64,65,66,67,68,69,70,71,72,73,74,75,76,77,78,79,80,81,82,83] [30] (fun vs hh=>∃(i:Nat),i≤7∧vs=[.int .i64 i]∧Own B [box bp [w,.int .i64 z] 72,tk,box b10 [.int .i64 0,.string ⟨⟨[]⟩⟩,aN,aN,aN,.string ⟨⟨[]⟩⟩,.string ⟨⟨[]⟩⟩,.int .i64 0,.int .i64 0] 42,box b13 [.int .i64 1,.string ⟨⟨[]⟩⟩,aN,aN,aN,.string ⟨⟨[]⟩⟩,.string ⟨⟨[]⟩⟩,.int .i64 0,.int .i64 (bF ts)] 42,box pb [.pointer (some ⟨bp,0,none⟩)] 70,box bo (rD pb) 188] hh) (fun vs _=>match vs with|[.int _ i]=>7 - i.toNat|_=>0) ?_ ?_
  ·exact⟨0,by omega,rfl,o2⟩
  ·rintro vs' junk' h3 ⟨i,hi,rfl,o3⟩
   clear o14 oh o2;have hoL:(rD pb).length=7*3:=rfl
   rcases(by omega:i=0∨i=1∨i=2∨i=3∨i=4∨i=5∨i=6∨i=7) with rfl|rfl|rfl|rfl|rfl|rfl|rfl|rfl
   ·refine aCW ?_
    refine rR (aCt dP aV (o3.boxArrN 5 rfl ‹_› (by omega)) rfl (by omega) (by omega) ?_);refine rR (aCm o3 5 rfl aV rfl rfl rfl ?_);(refine aCT o3 aV ?_;intro b1002 m1002 o1002);(refine aCl o1002 6 rfl aV rfl (by decide) (aI ⟨rfl,rfl⟩ ?_);intro m1003 o1003);refine rR (fA cC rfl rfl rfl ?_);refine rR (aCi o1003 6 rfl aL rfl rfl ?_);(refine aCS o1003 aK aL rfl rfl (by decide) (aI rfl ?_);intro b1006 m1006 o1006);refine aCZ (bL [[115,101,108,101,99,116],[40]] _ bp w ts _ (Own.cellB ‹_› 0 rfl 0) (Own.reads ‹_› 1 hR.1 rfl) (Own.boxArr ‹_› 7 rfl rfl (by decide)) hl) ?_;rintro _ h4 ⟨rv,oc⟩;have o4:=oc.thenE ‹_›;clear oc;have hb:bC [[115,101,108,101,99,116],[40]] ts=false:=hno 0 (by decide)
    rw[hb]at rv
    subst rv;refine aCW ?_;refine aC2 (by omega) (by omega) ?_
    refine⟨rfl,?_⟩
    exact⟨⟨1,by omega,rfl,Own.sel ‹_› [0,1,2,3,4,5] rfl⟩,by simp⟩
   ·refine aCW ?_
    refine rR (aCt dP aV (o3.boxArrN 5 rfl ‹_› (by omega)) rfl (by omega) (by omega) ?_);refine rR (aCm o3 5 rfl aV rfl rfl rfl ?_);(refine aCT o3 aV ?_;intro b2002 m2002 o2002);(refine aCl o2002 6 rfl aV rfl (by decide) (aI ⟨rfl,rfl⟩ ?_);intro m2003 o2003);refine rR (fA cC rfl rfl rfl ?_);refine rR (aCi o2003 6 rfl aL rfl rfl ?_);(refine aCS o2003 aK aL rfl rfl (by decide) (aI rfl ?_);intro b2006 m2006 o2006);refine aCZ (bL [[112,114,111,106,101,99,116],[40]] _ bp w ts _ (Own.cellB ‹_› 0 rfl 0) (Own.reads ‹_› 1 hR.1 rfl) (Own.boxArr ‹_› 7 rfl rfl (by decide)) hl) ?_;rintro _ h4 ⟨rv,oc⟩;have o4:=oc.thenE ‹_›;clear oc;have hb:bC [[112,114,111,106,101,99,116],[40]] ts=false:=hno 1 (by decide)
    rw[hb]at rv
    subst rv;refine aCW ?_;refine aC2 (by omega) (by omega) ?_
    refine⟨rfl,?_⟩
    exact⟨⟨2,by omega,rfl,Own.sel ‹_› [0,1,2,3,4,5] rfl⟩,by simp⟩
   ·refine aCW ?_
    refine rR (aCt dP aV (o3.boxArrN 5 rfl ‹_› (by omega)) rfl (by omega) (by omega) ?_);refine rR (aCm o3 5 rfl aV rfl rfl rfl ?_);(refine aCT o3 aV ?_;intro b3002 m3002 o3002);(refine aCl o3002 6 rfl aV rfl (by decide) (aI ⟨rfl,rfl⟩ ?_);intro m3003 o3003);refine rR (fA cC rfl rfl rfl ?_);refine rR (aCi o3003 6 rfl aL rfl rfl ?_);(refine aCS o3003 aK aL rfl rfl (by decide) (aI rfl ?_);intro b3006 m3006 o3006);refine aCZ (bL [[106,111,105,110],[40]] _ bp w ts _ (Own.cellB ‹_› 0 rfl 0) (Own.reads ‹_› 1 hR.1 rfl) (Own.boxArr ‹_› 7 rfl rfl (by decide)) hl) ?_;rintro _ h4 ⟨rv,oc⟩;have o4:=oc.thenE ‹_›;clear oc;have hb:bC [[106,111,105,110],[40]] ts=false:=hno 2 (by decide)
    rw[hb]at rv
    subst rv;refine aCW ?_;refine aC2 (by omega) (by omega) ?_
    refine⟨rfl,?_⟩
    exact⟨⟨3,by omega,rfl,Own.sel ‹_› [0,1,2,3,4,5] rfl⟩,by simp⟩
   ·refine aCW ?_
    refine rR (aCt dP aV (o3.boxArrN 5 rfl ‹_› (by omega)) rfl (by omega) (by omega) ?_);refine rR (aCm o3 5 rfl aV rfl rfl rfl ?_);(refine aCT o3 aV ?_;intro b4002 m4002 o4002);(refine aCl o4002 6 rfl aV rfl (by decide) (aI ⟨rfl,rfl⟩ ?_);intro m4003 o4003);refine rR (fA cC rfl rfl rfl ?_);refine rR (aCi o4003 6 rfl aL rfl rfl ?_);(refine aCS o4003 aK aL rfl rfl (by decide) (aI rfl ?_);intro b4006 m4006 o4006);refine aCZ (bL [[117,110,105,111,110],[40]] _ bp w ts _ (Own.cellB ‹_› 0 rfl 0) (Own.reads ‹_› 1 hR.1 rfl) (Own.boxArr ‹_› 7 rfl rfl (by decide)) hl) ?_;rintro _ h4 ⟨rv,oc⟩;have o4:=oc.thenE ‹_›;clear oc;have hb:bC [[117,110,105,111,110],[40]] ts=false:=hno 3 (by decide)
    rw[hb]at rv
    subst rv;refine aCW ?_;refine aC2 (by omega) (by omega) ?_
    refine⟨rfl,?_⟩
    exact⟨⟨4,by omega,rfl,Own.sel ‹_› [0,1,2,3,4,5] rfl⟩,by simp⟩
   ·refine aCW ?_
    refine rR (aCt dP aV (o3.boxArrN 5 rfl ‹_› (by omega)) rfl (by omega) (by omega) ?_);refine rR (aCm o3 5 rfl aV rfl rfl rfl ?_);(refine aCT o3 aV ?_;intro b5002 m5002 o5002);(refine aCl o5002 6 rfl aV rfl (by decide) (aI ⟨rfl,rfl⟩ ?_);intro m5003 o5003);refine rR (fA cC rfl rfl rfl ?_);refine rR (aCi o5003 6 rfl aL rfl rfl ?_);(refine aCS o5003 aK aL rfl rfl (by decide) (aI rfl ?_);intro b5006 m5006 o5006);refine aCZ (bL [[109,105,110,117,115],[40]] _ bp w ts _ (Own.cellB ‹_› 0 rfl 0) (Own.reads ‹_› 1 hR.1 rfl) (Own.boxArr ‹_› 7 rfl rfl (by decide)) hl) ?_;rintro _ h4 ⟨rv,oc⟩;have o4:=oc.thenE ‹_›;clear oc;have hb:bC [[109,105,110,117,115],[40]] ts=false:=hno 4 (by decide)
    rw[hb]at rv
    subst rv;refine aCW ?_;refine aC2 (by omega) (by omega) ?_
    refine⟨rfl,?_⟩
    exact⟨⟨5,by omega,rfl,Own.sel ‹_› [0,1,2,3,4,5] rfl⟩,by simp⟩
   ·refine aCW ?_
    refine rR (aCt dP aV (o3.boxArrN 5 rfl ‹_› (by omega)) rfl (by omega) (by omega) ?_);refine rR (aCm o3 5 rfl aV rfl rfl rfl ?_);(refine aCT o3 aV ?_;intro b6002 m6002 o6002);(refine aCl o6002 6 rfl aV rfl (by decide) (aI ⟨rfl,rfl⟩ ?_);intro m6003 o6003);refine rR (fA cC rfl rfl rfl ?_);refine rR (aCi o6003 6 rfl aL rfl rfl ?_);(refine aCS o6003 aK aL rfl rfl (by decide) (aI rfl ?_);intro b6006 m6006 o6006);refine aCZ (bL [[114,101,110,97,109,101],[40]] _ bp w ts _ (Own.cellB ‹_› 0 rfl 0) (Own.reads ‹_› 1 hR.1 rfl) (Own.boxArr ‹_› 7 rfl rfl (by decide)) hl) ?_;rintro _ h4 ⟨rv,oc⟩;have o4:=oc.thenE ‹_›;clear oc;have hb:bC [[114,101,110,97,109,101],[40]] ts=false:=hno 5 (by decide)
    rw[hb]at rv
    subst rv;refine aCW ?_;refine aC2 (by omega) (by omega) ?_
    refine⟨rfl,?_⟩
    exact⟨⟨6,by omega,rfl,Own.sel ‹_› [0,1,2,3,4,5] rfl⟩,by simp⟩
   ·refine aCW ?_
    refine rR (aCt dP aV (o3.boxArrN 5 rfl ‹_› (by omega)) rfl (by omega) (by omega) ?_);refine rR (aCm o3 5 rfl aV rfl rfl rfl ?_);(refine aCT o3 aV ?_;intro b7002 m7002 o7002);(refine aCl o7002 6 rfl aV rfl (by decide) (aI ⟨rfl,rfl⟩ ?_);intro m7003 o7003);refine rR (fA cC rfl rfl rfl ?_);refine rR (aCi o7003 6 rfl aL rfl rfl ?_);(refine aCS o7003 aK aL rfl rfl (by decide) (aI rfl ?_);intro b7006 m7006 o7006);refine aCZ (bL [[103,114,111,117,112],[40]] _ bp w ts _ (Own.cellB ‹_› 0 rfl 0) (Own.reads ‹_› 1 hR.1 rfl) (Own.boxArr ‹_› 7 rfl rfl (by decide)) hl) ?_;rintro _ h4 ⟨rv,oc⟩;have o4:=oc.thenE ‹_›;clear oc;have hb:bC [[103,114,111,117,112],[40]] ts=false:=hno 6 (by decide)
    rw[hb]at rv
    subst rv;refine aCW ?_;refine aC2 (by omega) (by omega) ?_
    refine⟨rfl,?_⟩
    exact⟨⟨7,by omega,rfl,Own.sel ‹_› [0,1,2,3,4,5] rfl⟩,by simp⟩
   ·have hE:bT z (n+1) ts=(cV z >>= fun t=>(pure (mU (bF ts) t):PM Ex)) ts:=exprP_none (opIdx_none hno)
    refine aCX ?_;refine cE.callL ‹_› rfl hR (by omega) (fun a q w2 v h4 hm hv hle hR2 oq=>?_) (fun e w2 h4 hm o2=>⟨e,w2,hE.trans (aCk hm),rfl,o2⟩);subst hv
    rw[aCj hm]at hE
    have o9:=oq
    simp only[PSt,pick,lcA,lnA,lgS,lgZ,lgN]at o9
    clear oq hm;refine rR (fA aM rfl rfl rfl ?_);(refine aCR o9 3 rfl aL rfl (by simp) (aI ⟨rfl,rfl⟩ ?_);intro m71 o71);refine rR (aCm o71 3 rfl aT rfl rfl rfl ?_);(refine aCl o71 2 rfl aT rfl (by decide) (aI ⟨rfl,rfl⟩ ?_);intro m73 o73)
    first|refine aCy rfl o73 2 rfl aT rfl rfl ?_|refine aCx rfl o73 2 rfl aT rfl rfl ?_|refine RetVC.cellTT rfl o73 2 rfl aT rfl rfl ?_
    exact⟨mU (bF ts) a,q,w2,gL,hE,⟨⟨xR 1 a aN aN aN [] [] 0 (bF ts),rfl⟩,rfl,exR_leaf _ _ _⟩,by omega,hR2,(Own.sel ‹_› [0,1] rfl).emptyI'.sel [1,2,0] rfl⟩
theorem expr_select (n:Nat)(hn:n≤11)(ih:mJ n):∀(level:Int)(_:level=13 - ((n+1:Nat):Int))(B:Base)(bp z:Nat)(tk:Item)(w:Value)(ts:List Tok)(h:Heap)(_:Own B (PSt bp z w tk) h)(_:cJ tk w ts)(_:ts.length≤5000)(_:∀ j,j<0→bC [cH.getD j [],[40]] ts=false)(_:bC [[115,101,108,101,99,116],[40]] ts=true),
  Spec Tryz.prog 118 [.pointer (some ⟨bp,0,none⟩),.int .i64 level] h (cW B bp z tk ts.length (bT z (n+1) ts) exV):=by
 intro level hlv B bp z tk w ts h o hR hl hno hb
 obtain⟨hRd,hK⟩:=hR
 have hR:cJ tk w ts:=⟨hRd,hK⟩;refine aC1 Tryz.func118 rfl Tryz.ntmps118 (by kernel_rfl) ?_;(refine aCT o aT ?_;intro b10 m10 o10);refine aCV (fun hc=>absurd hc (by omega)) (fun c11=>?_);refine rR (aCr aM ?_);refine aI rfl ?_;(refine aCT o10 aT ?_;intro b13 m13 o13);(refine aCl o13 3 rfl aT rfl (by decide) (aI ⟨rfl,rfl⟩ ?_);intro m14 o14);refine rR (nC rfl ?_);refine rR (fA fH rfl rfl rfl ?_);refine rR (aCi o14 0 rfl eM rfl rfl ?_);refine rR (aCJ (o14.reads 1 hRd rfl) fI ?_);refine Br.join [19,20,21,22,23,24,25,26] [] (fun _ hh=>Own B [box bp [w,.int .i64 z] 72,tk,box b10 [.int .i64 0,.string ⟨⟨[]⟩⟩,aN,aN,aN,.string ⟨⟨[]⟩⟩,.string ⟨⟨[]⟩⟩,.int .i64 0,.int .i64 0] 42,box b13 [.int .i64 1,.string ⟨⟨[]⟩⟩,aN,aN,aN,.string ⟨⟨[]⟩⟩,.string ⟨⟨[]⟩⟩,.int .i64 0,.int .i64 (bF ts)] 42] hh) rfl rfl ?_ ?_
 ·cases ts with
  | nil =>
   refine aCX ?_
   refine⟨rfl,?_⟩
   exact o14
  | cons t r =>
   have hx:(t::r)[0]?=some t:=rfl;have hln:(t::r).length=r.length+1:=rfl;refine aCV (fun c30=>?_) (fun hc=>absurd (by omega) hc);refine rR (nC rfl ?_);refine rR (fA fH rfl rfl rfl ?_);refine rR (aCi o14 0 rfl eM rfl rfl ?_);refine rR (aCt fI bB (o14.reads 1 hRd rfl) rfl (by omega) (by omega) ?_);refine rR (aCB (o14.reads 1 hRd rfl) (by omega) eP rfl rfl rfl ?_);refine rR (aCH (o14.reads 1 hRd rfl) aS (fun _=>rfl) rfl ‹_› rfl ?_);refine rR (fA aM rfl rfl rfl ?_);(refine aCl o14 3 rfl aS rfl (by decide) (aI ⟨rfl,rfl⟩ ?_);intro m38 o38)
   refine⟨rfl,?_⟩
   exact Own.sel ‹_› [0,1,2,3] rfl
 ·intro vs junk hh oh
  refine aCZ (eK bp _) ?_;rintro _ h2 ⟨bo,pb,rfl,oc⟩;have o2:=oh.call oc
  simp only[lcA,lnA]at o2
  clear oc;refine rR (aCq rfl dP ?_);refine aC5 [6,7,30,31,32,33,34,35,36,37,38,39,40,41,42,43,44,45,46,47,48,49,50,51,52,53,54,55,56,57,58,59,60,61,62,63,64,65,66,67,68,69,70,71,72,73,74,75,76,77,78,79,80,81,82,83] [30] (fun vs hh=>∃(i:Nat),i≤0∧vs=[.int .i64 i]∧Own B [box bp [w,.int .i64 z] 72,tk,box b10 [.int .i64 0,.string ⟨⟨[]⟩⟩,aN,aN,aN,.string ⟨⟨[]⟩⟩,.string ⟨⟨[]⟩⟩,.int .i64 0,.int .i64 0] 42,box b13 [.int .i64 1,.string ⟨⟨[]⟩⟩,aN,aN,aN,.string ⟨⟨[]⟩⟩,.string ⟨⟨[]⟩⟩,.int .i64 0,.int .i64 (bF ts)] 42,box pb [.pointer (some ⟨bp,0,none⟩)] 70,box bo (rD pb) 188] hh) (fun vs _=>match vs with|[.int _ i]=>7 - i.toNat|_=>0) ?_ ?_
  ·exact⟨0,by omega,rfl,o2⟩
  ·rintro vs' junk' h3 ⟨i,hi,rfl,o3⟩
   clear o14 oh o2;have hoL:(rD pb).length=7*3:=rfl
   rcases(by omega:i=0) with rfl
   ·refine aCW ?_
    refine rR (aCt dP aV (o3.boxArrN 5 rfl ‹_› (by omega)) rfl (by omega) (by omega) ?_);refine rR (aCm o3 5 rfl aV rfl rfl rfl ?_);(refine aCT o3 aV ?_;intro b1002 m1002 o1002);(refine aCl o1002 6 rfl aV rfl (by decide) (aI ⟨rfl,rfl⟩ ?_);intro m1003 o1003);refine rR (fA cC rfl rfl rfl ?_);refine rR (aCi o1003 6 rfl aL rfl rfl ?_);(refine aCS o1003 aK aL rfl rfl (by decide) (aI rfl ?_);intro b1006 m1006 o1006);refine aCZ (bL [[115,101,108,101,99,116],[40]] _ bp w ts _ (Own.cellB ‹_› 0 rfl 0) (Own.reads ‹_› 1 hR.1 rfl) (Own.boxArr ‹_› 7 rfl rfl (by decide)) hl) ?_;rintro _ h4 ⟨rv,oc⟩;have o4:=oc.thenE ‹_›;clear oc
    rw[hb]at rv
    subst rv;have hE:bT z (n+1) ts=(aW z [[115,101,108,101,99,116],[40]] >>= fun _=>bT z n >>= fun a=>ifP (sM 0) (aW z [[44]] >>= fun _=>bT z n >>= fun b=>pure [a,b]) [a] >>= fun kids=>eB z 0 (bF ts) kids >>= fun x=>aW z [[41]] >>= fun _=>(pure x:PM Ex)) ts:=jO (jN (by decide) hno hb);have o5:=o4.sel [0,1,2,3,4,6] rfl
    simp only[PSt,pick,lcA,lnA,lgS,lgZ,lgN]at o5
    clear o3 o4;refine aCX ?_;refine aC2 (by omega) (by omega) ?_;refine rR (fA aM rfl rfl rfl ?_);(refine aCR o5 3 rfl aS rfl (by simp) (aI ⟨rfl,rfl⟩ ?_);intro m1041 o1041);refine rR (fA cC rfl rfl rfl ?_);refine rR (aCi o1041 5 rfl aL rfl rfl ?_);(refine aCS o1041 aK aL rfl rfl (by decide) (aI rfl ?_);intro b1044 m1044 o1044);refine aU (ss:=[[115,101,108,101,99,116],[40]]) ‹_› rfl ⟨6,by decide,rfl⟩ hR (by omega) (by decide) (fun _ q1 w1 v h5 hm hv hle1 hR1 oq=>?_) (fun e w' h' hm o2=>⟨e,w',hE.trans (aCk hm),rfl,o2⟩);subst hv
    rw[aCj hm]at hE
    have o6:=oq.sel [0,1,2,3,4,5] rfl
    simp only[PSt,pick,lcA,lnA,lgS,lgZ,lgN]at o6
    clear oq hm;refine DrawVC.join [49,50,51,52,53,54,55,56,57,58,59] [] (fun _ hh=>∃(a1:Ex) (q2:List Tok) (w2:Value) (c1:cX) (I1:Item) (ua:Option Addr) (uc:Nat),bT z n q1=.ok (a1,q2)∧q2.length≤q1.length∧cJ tk w2 q2∧mF I1 c1.1 a1∧Own B [box bp [w2,.int .i64 z] 72,tk,I1,box b10 [.int .i64 0,.string ⟨⟨[]⟩⟩,aN,aN,aN,.string ⟨⟨[]⟩⟩,.string ⟨⟨[]⟩⟩,.int .i64 0,.int .i64 0] 42,box b13 [.int .i64 2,.string ⟨⟨[]⟩⟩,.slice ua 1 uc,aN,aN,.string ⟨⟨[]⟩⟩,.string ⟨⟨[]⟩⟩,.int .i64 0,.int .i64 (bF ts)] 42,box pb [.pointer (some ⟨bp,0,none⟩)] 70,box b1002 [.string ⟨⟨[115,101,108,101,99,116]⟩⟩,.bool false,.func (.func 161) ⟨[]⟩ ⟨[.pointer (some ⟨pb,0,none⟩)]⟩] 188,row (.slice ua 1 uc) 42 9 1 c1.1] hh) ?_ ?_
    ·refine aCG b13 [0,2,3,4,6,9,11] [1] [8,10,12] (.one 0 (.one 1 (.one 2 (.one 3 (.one 4 (.one 6 (.fork 5 7 (.one 7 (.one 8 (.one 9 (.one 11 (.fork 10 12 (.one 12 .done) (.one 10 .done)))))) (.one 5 (.one 8 (.one 9 (.one 11 (.fork 10 12 (.one 12 .done) (.one 10 .done))))))))))))) mixed (by kernel_rfl) rfl (fun _ _ _ _ h=>h) ?_
     refine fA aM rfl rfl rfl ?_;refine StillVCA.load1 cQ rfl rfl ((o6.cellB 3 rfl _).trans rfl) ?_;refine aC2 (by omega) (by omega) ?_;refine aCq rfl bV ?_
     refine⟨?_,?_⟩
     ·skip
      refine cW.callL (fun B' o'=>ih (level+1) (by omega) B' bp z tk _ _ _ o' hR1 (by omega)) ‹_› rfl (fun a1 q2 w2 v I1 h6 hm hv hle2 hR2 oq=>?_) (fun e w' h' hm o2=>⟨e,w',hE.trans (aCk hm),rfl,o2⟩)
      obtain⟨c1,rfl,hx1⟩:=hv
      have o7:=oq
      simp only[PSt,pick,lcA,lnA,lgS,lgZ,lgN]at o7
      clear oq
      refine⟨Eq.trans (Own.satK o7 4 rfl) (Eq.symm (Own.satK (x:=box b13 _ _) ‹_› 3 rfl)),?_⟩
      have one1:=eU (Own.satK o7 2 rfl) hx1;(refine aCF o7 bV aT rfl rfl (by decide) ?_);refine aI rfl ?_;intro b1101 m1101 o1101;refine aI ((o1101.boxBlk 4 rfl).trans (o7.boxBlk 4 rfl).symm) ?_;have on:=Own.nilRow ‹_› 42 9
      simp only[lcA,lnA]at on
      refine aCU on 8 rfl bV aT (by decide) (Own.boxArrN on 7 rfl (n:=1) rfl (by omega)) (by simp[Value.oneCell']) (by simp only[maxLen];omega) (by omega) ?_;intro vA mA oA
      obtain⟨ua,uc,rfl⟩:=oA.rowIs 8 rfl
      refine aCt bV aT (oA.rowArrN 8 rfl) rfl (by omega) (by omega) ?_;refine fA aM rfl rfl rfl ?_
      refine⟨?_,?_⟩
      ·skip
       refine aCu (i:=0) ‹_› 8 rfl aT rfl rfl rfl c1.2 (by decide) (by decide) one1 ?_;intro mB oB
       simp only[lsS,lsZ]at oB
       (refine aCR oB 4 rfl cQ rfl (by simp) (aI ⟨rfl,rfl⟩ ?_);intro m1140 o1140)
       refine⟨rfl,?_⟩
       have ef:=cA (cs:=[.int .i64 0,.string ⟨⟨[]⟩⟩,aN,aN,aN,.string ⟨⟨[]⟩⟩,.string ⟨⟨[]⟩⟩,.int .i64 0,.int .i64 0]) (c:=c1) rfl
       exact⟨a1,q2,w2,c1,I1,ua,uc,hm,hle2,hR2,hx1,ef▸Own.sel ‹_› [0,1,2,3,4,5,6,8] rfl⟩
      ·skip
       (refine aCR oA 4 rfl cQ rfl (by simp) (aI ⟨rfl,rfl⟩ ?_);intro m1150 o1150);refine aCu (i:=0) ‹_› 8 rfl aT rfl rfl rfl c1.2 (by decide) (by decide) one1 ?_;intro mB oB
       simp only[lsS,lsZ]at oB
       refine⟨rfl,?_⟩
       have ef:=cA (cs:=[.int .i64 0,.string ⟨⟨[]⟩⟩,aN,aN,aN,.string ⟨⟨[]⟩⟩,.string ⟨⟨[]⟩⟩,.int .i64 0,.int .i64 0]) (c:=c1) rfl
       exact⟨a1,q2,w2,c1,I1,ua,uc,hm,hle2,hR2,hx1,ef▸Own.sel ‹_› [0,1,2,3,4,5,6,8] rfl⟩
     ·skip
      (refine aCF o6 bV aT rfl rfl (by decide) ?_);refine aI rfl ?_;intro b1281 m1281 o1281;refine aI ((o1281.boxBlk 3 rfl).trans (o6.boxBlk 3 rfl).symm) ?_;refine cW.callL (fun B' o'=>ih (level+1) (by omega) B' bp z tk _ _ _ o' hR1 (by omega)) ‹_› rfl (fun a1 q2 w2 v I1 h6 hm hv hle2 hR2 oq=>?_) (fun e w' h' hm o2=>⟨e,w',hE.trans (aCk hm),rfl,o2⟩)
      obtain⟨c1,rfl,hx1⟩:=hv
      have o7:=oq
      simp only[PSt,pick,lcA,lnA,lgS,lgZ,lgN]at o7
      clear oq
      refine⟨Eq.trans (Own.satK o7 4 rfl) (Eq.symm (Own.satK (x:=box b13 _ _) ‹_› 3 rfl)),?_⟩
      have one1:=eU (Own.satK o7 2 rfl) hx1;have on:=Own.nilRow ‹_› 42 9
      simp only[lcA,lnA]at on
      refine aCU on 8 rfl bV aT (by decide) (Own.boxArrN on 7 rfl (n:=1) rfl (by omega)) (by simp[Value.oneCell']) (by simp only[maxLen];omega) (by omega) ?_;intro vA mA oA
      obtain⟨ua,uc,rfl⟩:=oA.rowIs 8 rfl
      refine aCt bV aT (oA.rowArrN 8 rfl) rfl (by omega) (by omega) ?_;refine fA aM rfl rfl rfl ?_
      refine⟨?_,?_⟩
      ·skip
       refine aCu (i:=0) ‹_› 8 rfl aT rfl rfl rfl c1.2 (by decide) (by decide) one1 ?_;intro mB oB
       simp only[lsS,lsZ]at oB
       (refine aCR oB 4 rfl cQ rfl (by simp) (aI ⟨rfl,rfl⟩ ?_);intro m1340 o1340)
       refine⟨rfl,?_⟩
       have ef:=cA (cs:=[.int .i64 0,.string ⟨⟨[]⟩⟩,aN,aN,aN,.string ⟨⟨[]⟩⟩,.string ⟨⟨[]⟩⟩,.int .i64 0,.int .i64 0]) (c:=c1) rfl
       exact⟨a1,q2,w2,c1,I1,ua,uc,hm,hle2,hR2,hx1,ef▸Own.sel ‹_› [0,1,2,3,4,5,6,8] rfl⟩
      ·skip
       (refine aCR oA 4 rfl cQ rfl (by simp) (aI ⟨rfl,rfl⟩ ?_);intro m1350 o1350);refine aCu (i:=0) ‹_› 8 rfl aT rfl rfl rfl c1.2 (by decide) (by decide) one1 ?_;intro mB oB
       simp only[lsS,lsZ]at oB
       refine⟨rfl,?_⟩
       have ef:=cA (cs:=[.int .i64 0,.string ⟨⟨[]⟩⟩,aN,aN,aN,.string ⟨⟨[]⟩⟩,.string ⟨⟨[]⟩⟩,.int .i64 0,.int .i64 0]) (c:=c1) rfl
       exact⟨a1,q2,w2,c1,I1,ua,uc,hm,hle2,hR2,hx1,ef▸Own.sel ‹_› [0,1,2,3,4,5,6,8] rfl⟩
    ·rintro _ junk2 h7 ⟨a1,q2,w2,c1,I1,ua,uc,hm,hle2,hR2,hx1,o8⟩
     rw[aCj hm]at hE
     rw[mD (by rfl),aCz]at hE
     refine rR (fA cC rfl rfl rfl ?_);refine rR (aCi o8 6 rfl ty4 rfl rfl ?_);refine aCX ?_;refine aC6 ?_;refine rR (fA cC rfl rfl rfl ?_);refine rR (aCi o8 6 rfl yR rfl rfl ?_);refine lJ.callL (fun B' o'=>rest0_spec (bF ts) (.slice ua 1 uc) [a1] B' bp z tk b13 pb w2 q2 h7 o' hR2 (by omega)) o8 [0,1,4,5] [2,3,7] rfl rfl (fun x q3 w3 c J h8 hm3 hJ hle3 hR3 oq=>?_) (fun e w' h' hm3 o2=>⟨e,w',hE.trans (aCk hm3),rfl,o2⟩)
     rw[aCj hm3]at hE
     obtain⟨vc,vn,cs,ns,at_,as_,ag,rfl,rfl,rc,rn⟩:=hJ
     unfold xR at oq;have o9:=oq
     simp only[PSt,pick,lcA,lnA,lgS,lgZ,lgN]at o9
     clear oq o8
     obtain⟨xa,xb,rfl⟩:=rc.isS (Own.satK o9 4 rfl)
     obtain⟨ya,yb,rfl⟩:=rn.isS (Own.satK o9 4 rfl)
     (refine aCS o9 aK aL rfl rfl (by decide) (aI rfl ?_);intro b1520 m1520 o1520);refine aU (ss:=[[41]]) ‹_› rfl ⟨8,by decide,rfl⟩ hR3 (by omega) (by decide) (fun _ q4 w4 v h9 hm4 hv hle4 hR4 oq=>?_) (fun e w' h' hm o2=>⟨e,w',hE.trans (aCk hm),rfl,o2⟩);subst hv
     rw[aCj hm4]at hE
     have o10:=oq
     simp only[PSt,pick,lcA,lnA,lgS,lgZ,lgN]at o10
     clear oq o9;refine rR (aCm o10 2 rfl aT rfl rfl rfl ?_);(refine aCl o10 6 rfl aT rfl (by decide) (aI ⟨rfl,rfl⟩ ?_);intro m1541 o1541)
     first|refine aCy rfl o1541 6 rfl aT rfl rfl ?_|refine aCx rfl o1541 6 rfl aT rfl rfl ?_|refine RetVC.cellTT rfl o1541 6 rfl aT rfl rfl ?_
     have er:[c1].flatMap Subtype.val=c1.1:=by simp
     exact⟨_,q4,w4,dW (dW J I1) (row (.slice ua 1 uc) 42 9 1 c1.1),hE,⟨⟨xR 2 [] (.slice ua 1 uc) (.slice xa cs.length xb) (.slice ya ns.length yb) at_ as_ ag (bF ts),rfl⟩,rfl,by rw[mF];exact⟨_,_,_,rfl,rc.inl.inl,rn.inl.inl,[c1],by rw[er];exact dK.inr,mF.mono (fun _ (s:(dW (dW _ _) _).sat _)=>s.1.2) _ _ hx1,trivial⟩⟩,by omega,hR4,((Own.sel ‹_› [4,5,7,0,1] rfl).join.join).sel [1,2,0] rfl⟩
theorem aCd (n:Nat)(hn:n≤11)(ih:mJ n):∀(level:Int)(_:level=13 - ((n+1:Nat):Int))(B:Base)(bp z:Nat)(tk:Item)(w:Value)(ts:List Tok)(h:Heap)(_:Own B (PSt bp z w tk) h)(_:cJ tk w ts)(_:ts.length≤5000)(_:∀ j,j<1→bC [cH.getD j [],[40]] ts=false)(_:bC [[112,114,111,106,101,99,116],[40]] ts=true),
  Spec Tryz.prog 118 [.pointer (some ⟨bp,0,none⟩),.int .i64 level] h (cW B bp z tk ts.length (bT z (n+1) ts) exV):=by
 intro level hlv B bp z tk w ts h o hR hl hno hb
 obtain⟨hRd,hK⟩:=hR
 have hR:cJ tk w ts:=⟨hRd,hK⟩;refine aC1 Tryz.func118 rfl Tryz.ntmps118 (by kernel_rfl) ?_;(refine aCT o aT ?_;intro b10 m10 o10);refine aCV (fun hc=>absurd hc (by omega)) (fun c11=>?_);refine rR (aCr aM ?_);refine aI rfl ?_;(refine aCT o10 aT ?_;intro b13 m13 o13);(refine aCl o13 3 rfl aT rfl (by decide) (aI ⟨rfl,rfl⟩ ?_);intro m14 o14);refine rR (nC rfl ?_);refine rR (fA fH rfl rfl rfl ?_);refine rR (aCi o14 0 rfl eM rfl rfl ?_);refine rR (aCJ (o14.reads 1 hRd rfl) fI ?_);refine Br.join [19,20,21,22,23,24,25,26] [] (fun _ hh=>Own B [box bp [w,.int .i64 z] 72,tk,box b10 [.int .i64 0,.string ⟨⟨[]⟩⟩,aN,aN,aN,.string ⟨⟨[]⟩⟩,.string ⟨⟨[]⟩⟩,.int .i64 0,.int .i64 0] 42,box b13 [.int .i64 1,.string ⟨⟨[]⟩⟩,aN,aN,aN,.string ⟨⟨[]⟩⟩,.string ⟨⟨[]⟩⟩,.int .i64 0,.int .i64 (bF ts)] 42] hh) rfl rfl ?_ ?_
 ·cases ts with
  | nil =>
   refine aCX ?_
   refine⟨rfl,?_⟩
   exact o14
  | cons t r =>
   have hx:(t::r)[0]?=some t:=rfl;have hln:(t::r).length=r.length+1:=rfl;refine aCV (fun c30=>?_) (fun hc=>absurd (by omega) hc);refine rR (nC rfl ?_);refine rR (fA fH rfl rfl rfl ?_);refine rR (aCi o14 0 rfl eM rfl rfl ?_);refine rR (aCt fI bB (o14.reads 1 hRd rfl) rfl (by omega) (by omega) ?_);refine rR (aCB (o14.reads 1 hRd rfl) (by omega) eP rfl rfl rfl ?_);refine rR (aCH (o14.reads 1 hRd rfl) aS (fun _=>rfl) rfl ‹_› rfl ?_);refine rR (fA aM rfl rfl rfl ?_);(refine aCl o14 3 rfl aS rfl (by decide) (aI ⟨rfl,rfl⟩ ?_);intro m38 o38)
   refine⟨rfl,?_⟩
   exact Own.sel ‹_› [0,1,2,3] rfl
 ·intro vs junk hh oh
  refine aCZ (eK bp _) ?_;rintro _ h2 ⟨bo,pb,rfl,oc⟩;have o2:=oh.call oc
  simp only[lcA,lnA]at o2
  clear oc;refine rR (aCq rfl dP ?_);refine aC5 [6,7,30,31,32,33,34,35,36,37,38,39,40,41,42,43,44,45,46,47,48,49,50,51,52,53,54,55,56,57,58,59,60,61,62,63,64,65,66,67,68,69,70,71,72,73,74,75,76,77,78,79,80,81,82,83] [30] (fun vs hh=>∃(i:Nat),i≤1∧vs=[.int .i64 i]∧Own B [box bp [w,.int .i64 z] 72,tk,box b10 [.int .i64 0,.string ⟨⟨[]⟩⟩,aN,aN,aN,.string ⟨⟨[]⟩⟩,.string ⟨⟨[]⟩⟩,.int .i64 0,.int .i64 0] 42,box b13 [.int .i64 1,.string ⟨⟨[]⟩⟩,aN,aN,aN,.string ⟨⟨[]⟩⟩,.string ⟨⟨[]⟩⟩,.int .i64 0,.int .i64 (bF ts)] 42,box pb [.pointer (some ⟨bp,0,none⟩)] 70,box bo (rD pb) 188] hh) (fun vs _=>match vs with|[.int _ i]=>7 - i.toNat|_=>0) ?_ ?_
  ·exact⟨0,by omega,rfl,o2⟩
  ·rintro vs' junk' h3 ⟨i,hi,rfl,o3⟩
   clear o14 oh o2;have hoL:(rD pb).length=7*3:=rfl
   rcases(by omega:i=0∨i=1) with rfl|rfl
   ·refine aCW ?_
    refine rR (aCt dP aV (o3.boxArrN 5 rfl ‹_› (by omega)) rfl (by omega) (by omega) ?_);refine rR (aCm o3 5 rfl aV rfl rfl rfl ?_);(refine aCT o3 aV ?_;intro b1002 m1002 o1002);(refine aCl o1002 6 rfl aV rfl (by decide) (aI ⟨rfl,rfl⟩ ?_);intro m1003 o1003);refine rR (fA cC rfl rfl rfl ?_);refine rR (aCi o1003 6 rfl aL rfl rfl ?_);(refine aCS o1003 aK aL rfl rfl (by decide) (aI rfl ?_);intro b1006 m1006 o1006);refine aCZ (bL [[115,101,108,101,99,116],[40]] _ bp w ts _ (Own.cellB ‹_› 0 rfl 0) (Own.reads ‹_› 1 hR.1 rfl) (Own.boxArr ‹_› 7 rfl rfl (by decide)) hl) ?_;rintro _ h4 ⟨rv,oc⟩;have o4:=oc.thenE ‹_›;clear oc;have hb:bC [[115,101,108,101,99,116],[40]] ts=false:=hno 0 (by decide)
    rw[hb]at rv
    subst rv;refine aCW ?_;refine aC2 (by omega) (by omega) ?_
    refine⟨rfl,?_⟩
    exact⟨⟨1,by omega,rfl,Own.sel ‹_› [0,1,2,3,4,5] rfl⟩,by simp⟩
   ·refine aCW ?_
    refine rR (aCt dP aV (o3.boxArrN 5 rfl ‹_› (by omega)) rfl (by omega) (by omega) ?_);refine rR (aCm o3 5 rfl aV rfl rfl rfl ?_);(refine aCT o3 aV ?_;intro b2002 m2002 o2002);(refine aCl o2002 6 rfl aV rfl (by decide) (aI ⟨rfl,rfl⟩ ?_);intro m2003 o2003);refine rR (fA cC rfl rfl rfl ?_);refine rR (aCi o2003 6 rfl aL rfl rfl ?_);(refine aCS o2003 aK aL rfl rfl (by decide) (aI rfl ?_);intro b2006 m2006 o2006);refine aCZ (bL [[112,114,111,106,101,99,116],[40]] _ bp w ts _ (Own.cellB ‹_› 0 rfl 0) (Own.reads ‹_› 1 hR.1 rfl) (Own.boxArr ‹_› 7 rfl rfl (by decide)) hl) ?_;rintro _ h4 ⟨rv,oc⟩;have o4:=oc.thenE ‹_›;clear oc
    rw[hb]at rv
    subst rv;have hE:bT z (n+1) ts=(aW z [[112,114,111,106,101,99,116],[40]] >>= fun _=>bT z n >>= fun a=>ifP (sM 1) (aW z [[44]] >>= fun _=>bT z n >>= fun b=>pure [a,b]) [a] >>= fun kids=>eB z 1 (bF ts) kids >>= fun x=>aW z [[41]] >>= fun _=>(pure x:PM Ex)) ts:=jO (jN (by decide) hno hb);have o5:=o4.sel [0,1,2,3,4,6] rfl
    simp only[PSt,pick,lcA,lnA,lgS,lgZ,lgN]at o5
    clear o3 o4;refine aCX ?_;refine aC2 (by omega) (by omega) ?_;refine rR (fA aM rfl rfl rfl ?_);(refine aCR o5 3 rfl aS rfl (by simp) (aI ⟨rfl,rfl⟩ ?_);intro m2041 o2041);refine rR (fA cC rfl rfl rfl ?_);refine rR (aCi o2041 5 rfl aL rfl rfl ?_);(refine aCS o2041 aK aL rfl rfl (by decide) (aI rfl ?_);intro b2044 m2044 o2044);refine aU (ss:=[[112,114,111,106,101,99,116],[40]]) ‹_› rfl ⟨6,by decide,rfl⟩ hR (by omega) (by decide) (fun _ q1 w1 v h5 hm hv hle1 hR1 oq=>?_) (fun e w' h' hm o2=>⟨e,w',hE.trans (aCk hm),rfl,o2⟩);subst hv
    rw[aCj hm]at hE
    have o6:=oq.sel [0,1,2,3,4,5] rfl
    simp only[PSt,pick,lcA,lnA,lgS,lgZ,lgN]at o6
    clear oq hm;refine DrawVC.join [49,50,51,52,53,54,55,56,57,58,59] [] (fun _ hh=>∃(a1:Ex) (q2:List Tok) (w2:Value) (c1:cX) (I1:Item) (ua:Option Addr) (uc:Nat),bT z n q1=.ok (a1,q2)∧q2.length≤q1.length∧cJ tk w2 q2∧mF I1 c1.1 a1∧Own B [box bp [w2,.int .i64 z] 72,tk,I1,box b10 [.int .i64 0,.string ⟨⟨[]⟩⟩,aN,aN,aN,.string ⟨⟨[]⟩⟩,.string ⟨⟨[]⟩⟩,.int .i64 0,.int .i64 0] 42,box b13 [.int .i64 3,.string ⟨⟨[]⟩⟩,.slice ua 1 uc,aN,aN,.string ⟨⟨[]⟩⟩,.string ⟨⟨[]⟩⟩,.int .i64 0,.int .i64 (bF ts)] 42,box pb [.pointer (some ⟨bp,0,none⟩)] 70,box b2002 [.string ⟨⟨[112,114,111,106,101,99,116]⟩⟩,.bool false,.func (.func 162) ⟨[]⟩ ⟨[.pointer (some ⟨pb,0,none⟩)]⟩] 188,row (.slice ua 1 uc) 42 9 1 c1.1] hh) ?_ ?_
    ·refine aCG b13 [0,2,3,4,6,9,11] [1] [8,10,12] (.one 0 (.one 1 (.one 2 (.one 3 (.one 4 (.one 6 (.fork 5 7 (.one 7 (.one 8 (.one 9 (.one 11 (.fork 10 12 (.one 12 .done) (.one 10 .done)))))) (.one 5 (.one 8 (.one 9 (.one 11 (.fork 10 12 (.one 12 .done) (.one 10 .done))))))))))))) mixed (by kernel_rfl) rfl (fun _ _ _ _ h=>h) ?_
     refine fA aM rfl rfl rfl ?_;refine StillVCA.load1 cQ rfl rfl ((o6.cellB 3 rfl _).trans rfl) ?_;refine aC2 (by omega) (by omega) ?_;refine aCq rfl bV ?_
     refine⟨?_,?_⟩
     ·skip
      refine cW.callL (fun B' o'=>ih (level+1) (by omega) B' bp z tk _ _ _ o' hR1 (by omega)) ‹_› rfl (fun a1 q2 w2 v I1 h6 hm hv hle2 hR2 oq=>?_) (fun e w' h' hm o2=>⟨e,w',hE.trans (aCk hm),rfl,o2⟩)
      obtain⟨c1,rfl,hx1⟩:=hv
      have o7:=oq
      simp only[PSt,pick,lcA,lnA,lgS,lgZ,lgN]at o7
      clear oq
      refine⟨Eq.trans (Own.satK o7 4 rfl) (Eq.symm (Own.satK (x:=box b13 _ _) ‹_› 3 rfl)),?_⟩
      have one1:=eU (Own.satK o7 2 rfl) hx1;(refine aCF o7 bV aT rfl rfl (by decide) ?_);refine aI rfl ?_;intro b2101 m2101 o2101;refine aI ((o2101.boxBlk 4 rfl).trans (o7.boxBlk 4 rfl).symm) ?_;have on:=Own.nilRow ‹_› 42 9
      simp only[lcA,lnA]at on
      refine aCU on 8 rfl bV aT (by decide) (Own.boxArrN on 7 rfl (n:=1) rfl (by omega)) (by simp[Value.oneCell']) (by simp only[maxLen];omega) (by omega) ?_;intro vA mA oA
      obtain⟨ua,uc,rfl⟩:=oA.rowIs 8 rfl
      refine aCt bV aT (oA.rowArrN 8 rfl) rfl (by omega) (by omega) ?_;refine fA aM rfl rfl rfl ?_
      refine⟨?_,?_⟩
      ·skip
       refine aCu (i:=0) ‹_› 8 rfl aT rfl rfl rfl c1.2 (by decide) (by decide) one1 ?_;intro mB oB
       simp only[lsS,lsZ]at oB
       (refine aCR oB 4 rfl cQ rfl (by simp) (aI ⟨rfl,rfl⟩ ?_);intro m2140 o2140)
       refine⟨rfl,?_⟩
       have ef:=cA (cs:=[.int .i64 0,.string ⟨⟨[]⟩⟩,aN,aN,aN,.string ⟨⟨[]⟩⟩,.string ⟨⟨[]⟩⟩,.int .i64 0,.int .i64 0]) (c:=c1) rfl
       exact⟨a1,q2,w2,c1,I1,ua,uc,hm,hle2,hR2,hx1,ef▸Own.sel ‹_› [0,1,2,3,4,5,6,8] rfl⟩
      ·skip
       (refine aCR oA 4 rfl cQ rfl (by simp) (aI ⟨rfl,rfl⟩ ?_);intro m2150 o2150);refine aCu (i:=0) ‹_› 8 rfl aT rfl rfl rfl c1.2 (by decide) (by decide) one1 ?_;intro mB oB
       simp only[lsS,lsZ]at oB
       refine⟨rfl,?_⟩
       have ef:=cA (cs:=[.int .i64 0,.string ⟨⟨[]⟩⟩,aN,aN,aN,.string ⟨⟨[]⟩⟩,.string ⟨⟨[]⟩⟩,.int .i64 0,.int .i64 0]) (c:=c1) rfl
       exact⟨a1,q2,w2,c1,I1,ua,uc,hm,hle2,hR2,hx1,ef▸Own.sel ‹_› [0,1,2,3,4,5,6,8] rfl⟩
     ·skip
      (refine aCF o6 bV aT rfl rfl (by decide) ?_);refine aI rfl ?_;intro b2281 m2281 o2281;refine aI ((o2281.boxBlk 3 rfl).trans (o6.boxBlk 3 rfl).symm) ?_;refine cW.callL (fun B' o'=>ih (level+1) (by omega) B' bp z tk _ _ _ o' hR1 (by omega)) ‹_› rfl (fun a1 q2 w2 v I1 h6 hm hv hle2 hR2 oq=>?_) (fun e w' h' hm o2=>⟨e,w',hE.trans (aCk hm),rfl,o2⟩)
      obtain⟨c1,rfl,hx1⟩:=hv
      have o7:=oq
      simp only[PSt,pick,lcA,lnA,lgS,lgZ,lgN]at o7
      clear oq
      refine⟨Eq.trans (Own.satK o7 4 rfl) (Eq.symm (Own.satK (x:=box b13 _ _) ‹_› 3 rfl)),?_⟩
      have one1:=eU (Own.satK o7 2 rfl) hx1;have on:=Own.nilRow ‹_› 42 9
      simp only[lcA,lnA]at on
      refine aCU on 8 rfl bV aT (by decide) (Own.boxArrN on 7 rfl (n:=1) rfl (by omega)) (by simp[Value.oneCell']) (by simp only[maxLen];omega) (by omega) ?_;intro vA mA oA
      obtain⟨ua,uc,rfl⟩:=oA.rowIs 8 rfl
      refine aCt bV aT (oA.rowArrN 8 rfl) rfl (by omega) (by omega) ?_;refine fA aM rfl rfl rfl ?_
      refine⟨?_,?_⟩
      ·skip
       refine aCu (i:=0) ‹_› 8 rfl aT rfl rfl rfl c1.2 (by decide) (by decide) one1 ?_;intro mB oB
       simp only[lsS,lsZ]at oB
       (refine aCR oB 4 rfl cQ rfl (by simp) (aI ⟨rfl,rfl⟩ ?_);intro m2340 o2340)
       refine⟨rfl,?_⟩
       have ef:=cA (cs:=[.int .i64 0,.string ⟨⟨[]⟩⟩,aN,aN,aN,.string ⟨⟨[]⟩⟩,.string ⟨⟨[]⟩⟩,.int .i64 0,.int .i64 0]) (c:=c1) rfl
       exact⟨a1,q2,w2,c1,I1,ua,uc,hm,hle2,hR2,hx1,ef▸Own.sel ‹_› [0,1,2,3,4,5,6,8] rfl⟩
      ·skip
       (refine aCR oA 4 rfl cQ rfl (by simp) (aI ⟨rfl,rfl⟩ ?_);intro m2350 o2350);refine aCu (i:=0) ‹_› 8 rfl aT rfl rfl rfl c1.2 (by decide) (by decide) one1 ?_;intro mB oB
       simp only[lsS,lsZ]at oB
       refine⟨rfl,?_⟩
       have ef:=cA (cs:=[.int .i64 0,.string ⟨⟨[]⟩⟩,aN,aN,aN,.string ⟨⟨[]⟩⟩,.string ⟨⟨[]⟩⟩,.int .i64 0,.int .i64 0]) (c:=c1) rfl
       exact⟨a1,q2,w2,c1,I1,ua,uc,hm,hle2,hR2,hx1,ef▸Own.sel ‹_› [0,1,2,3,4,5,6,8] rfl⟩
    ·rintro _ junk2 h7 ⟨a1,q2,w2,c1,I1,ua,uc,hm,hle2,hR2,hx1,o8⟩
     rw[aCj hm]at hE
     rw[mD (by rfl),aCz]at hE
     refine rR (fA cC rfl rfl rfl ?_);refine rR (aCi o8 6 rfl ty4 rfl rfl ?_);refine aCX ?_;refine aC6 ?_;refine rR (fA cC rfl rfl rfl ?_);refine rR (aCi o8 6 rfl yR rfl rfl ?_);refine lJ.callL (fun B' o'=>rest1_spec (bF ts) (.slice ua 1 uc) [a1] B' bp z tk b13 pb w2 q2 h7 o' hR2 (by omega)) o8 [0,1,4,5] [2,3,7] rfl rfl (fun x q3 w3 c J h8 hm3 hJ hle3 hR3 oq=>?_) (fun e w' h' hm3 o2=>⟨e,w',hE.trans (aCk hm3),rfl,o2⟩)
     rw[aCj hm3]at hE
     obtain⟨vc,vn,cs,ns,at_,as_,ag,rfl,rfl,rc,rn⟩:=hJ
     unfold xR at oq;have o9:=oq
     simp only[PSt,pick,lcA,lnA,lgS,lgZ,lgN]at o9
     clear oq o8
     obtain⟨xa,xb,rfl⟩:=rc.isS (Own.satK o9 4 rfl)
     obtain⟨ya,yb,rfl⟩:=rn.isS (Own.satK o9 4 rfl)
     (refine aCS o9 aK aL rfl rfl (by decide) (aI rfl ?_);intro b2520 m2520 o2520);refine aU (ss:=[[41]]) ‹_› rfl ⟨8,by decide,rfl⟩ hR3 (by omega) (by decide) (fun _ q4 w4 v h9 hm4 hv hle4 hR4 oq=>?_) (fun e w' h' hm o2=>⟨e,w',hE.trans (aCk hm),rfl,o2⟩);subst hv
     rw[aCj hm4]at hE
     have o10:=oq
     simp only[PSt,pick,lcA,lnA,lgS,lgZ,lgN]at o10
     clear oq o9;refine rR (aCm o10 2 rfl aT rfl rfl rfl ?_);(refine aCl o10 6 rfl aT rfl (by decide) (aI ⟨rfl,rfl⟩ ?_);intro m2541 o2541)
     first|refine aCy rfl o2541 6 rfl aT rfl rfl ?_|refine aCx rfl o2541 6 rfl aT rfl rfl ?_|refine RetVC.cellTT rfl o2541 6 rfl aT rfl rfl ?_
     have er:[c1].flatMap Subtype.val=c1.1:=by simp
     exact⟨_,q4,w4,dW (dW J I1) (row (.slice ua 1 uc) 42 9 1 c1.1),hE,⟨⟨xR 3 [] (.slice ua 1 uc) (.slice xa cs.length xb) (.slice ya ns.length yb) at_ as_ ag (bF ts),rfl⟩,rfl,by rw[mF];exact⟨_,_,_,rfl,rc.inl.inl,rn.inl.inl,[c1],by rw[er];exact dK.inr,mF.mono (fun _ (s:(dW (dW _ _) _).sat _)=>s.1.2) _ _ hx1,trivial⟩⟩,by omega,hR4,((Own.sel ‹_› [4,5,7,0,1] rfl).join.join).sel [1,2,0] rfl⟩
theorem expr_join (n:Nat)(hn:n≤11)(ih:mJ n):∀(level:Int)(_:level=13 - ((n+1:Nat):Int))(B:Base)(bp z:Nat)(tk:Item)(w:Value)(ts:List Tok)(h:Heap)(_:Own B (PSt bp z w tk) h)(_:cJ tk w ts)(_:ts.length≤5000)(_:∀ j,j<2→bC [cH.getD j [],[40]] ts=false)(_:bC [[106,111,105,110],[40]] ts=true),
  Spec Tryz.prog 118 [.pointer (some ⟨bp,0,none⟩),.int .i64 level] h (cW B bp z tk ts.length (bT z (n+1) ts) exV):=by
 intro level hlv B bp z tk w ts h o hR hl hno hb
 obtain⟨hRd,hK⟩:=hR
 have hR:cJ tk w ts:=⟨hRd,hK⟩;refine aC1 Tryz.func118 rfl Tryz.ntmps118 (by kernel_rfl) ?_;(refine aCT o aT ?_;intro b10 m10 o10);refine aCV (fun hc=>absurd hc (by omega)) (fun c11=>?_);refine rR (aCr aM ?_);refine aI rfl ?_;(refine aCT o10 aT ?_;intro b13 m13 o13);(refine aCl o13 3 rfl aT rfl (by decide) (aI ⟨rfl,rfl⟩ ?_);intro m14 o14);refine rR (nC rfl ?_);refine rR (fA fH rfl rfl rfl ?_);refine rR (aCi o14 0 rfl eM rfl rfl ?_);refine rR (aCJ (o14.reads 1 hRd rfl) fI ?_);refine Br.join [19,20,21,22,23,24,25,26] [] (fun _ hh=>Own B [box bp [w,.int .i64 z] 72,tk,box b10 [.int .i64 0,.string ⟨⟨[]⟩⟩,aN,aN,aN,.string ⟨⟨[]⟩⟩,.string ⟨⟨[]⟩⟩,.int .i64 0,.int .i64 0] 42,box b13 [.int .i64 1,.string ⟨⟨[]⟩⟩,aN,aN,aN,.string ⟨⟨[]⟩⟩,.string ⟨⟨[]⟩⟩,.int .i64 0,.int .i64 (bF ts)] 42] hh) rfl rfl ?_ ?_
 ·cases ts with
  | nil =>
   refine aCX ?_
   refine⟨rfl,?_⟩
   exact o14
  | cons t r =>
   have hx:(t::r)[0]?=some t:=rfl;have hln:(t::r).length=r.length+1:=rfl;refine aCV (fun c30=>?_) (fun hc=>absurd (by omega) hc);refine rR (nC rfl ?_);refine rR (fA fH rfl rfl rfl ?_);refine rR (aCi o14 0 rfl eM rfl rfl ?_);refine rR (aCt fI bB (o14.reads 1 hRd rfl) rfl (by omega) (by omega) ?_);refine rR (aCB (o14.reads 1 hRd rfl) (by omega) eP rfl rfl rfl ?_);refine rR (aCH (o14.reads 1 hRd rfl) aS (fun _=>rfl) rfl ‹_› rfl ?_);refine rR (fA aM rfl rfl rfl ?_);(refine aCl o14 3 rfl aS rfl (by decide) (aI ⟨rfl,rfl⟩ ?_);intro m38 o38)
   refine⟨rfl,?_⟩
   exact Own.sel ‹_› [0,1,2,3] rfl
 ·intro vs junk hh oh
  refine aCZ (eK bp _) ?_;rintro _ h2 ⟨bo,pb,rfl,oc⟩;have o2:=oh.call oc
  simp only[lcA,lnA]at o2
  clear oc;refine rR (aCq rfl dP ?_);refine aC5 [6,7,30,31,32,33,34,35,36,37,38,39,40,41,42,43,44,45,46,47,48,49,50,51,52,53,54,55,56,57,58,59,60,61,62,63,64,65,66,67,68,69,70,71,72,73,74,75,76,77,78,79,80,81,82,83] [30] (fun vs hh=>∃(i:Nat),i≤2∧vs=[.int .i64 i]∧Own B [box bp [w,.int .i64 z] 72,tk,box b10 [.int .i64 0,.string ⟨⟨[]⟩⟩,aN,aN,aN,.string ⟨⟨[]⟩⟩,.string ⟨⟨[]⟩⟩,.int .i64 0,.int .i64 0] 42,box b13 [.int .i64 1,.string ⟨⟨[]⟩⟩,aN,aN,aN,.string ⟨⟨[]⟩⟩,.string ⟨⟨[]⟩⟩,.int .i64 0,.int .i64 (bF ts)] 42,box pb [.pointer (some ⟨bp,0,none⟩)] 70,box bo (rD pb) 188] hh) (fun vs _=>match vs with|[.int _ i]=>7 - i.toNat|_=>0) ?_ ?_
  ·exact⟨0,by omega,rfl,o2⟩
  ·rintro vs' junk' h3 ⟨i,hi,rfl,o3⟩
   clear o14 oh o2;have hoL:(rD pb).length=7*3:=rfl
   rcases(by omega:i=0∨i=1∨i=2) with rfl|rfl|rfl
   ·refine aCW ?_
    refine rR (aCt dP aV (o3.boxArrN 5 rfl ‹_› (by omega)) rfl (by omega) (by omega) ?_);refine rR (aCm o3 5 rfl aV rfl rfl rfl ?_);(refine aCT o3 aV ?_;intro b1002 m1002 o1002);(refine aCl o1002 6 rfl aV rfl (by decide) (aI ⟨rfl,rfl⟩ ?_);intro m1003 o1003);refine rR (fA cC rfl rfl rfl ?_);refine rR (aCi o1003 6 rfl aL rfl rfl ?_);(refine aCS o1003 aK aL rfl rfl (by decide) (aI rfl ?_);intro b1006 m1006 o1006);refine aCZ (bL [[115,101,108,101,99,116],[40]] _ bp w ts _ (Own.cellB ‹_› 0 rfl 0) (Own.reads ‹_› 1 hR.1 rfl) (Own.boxArr ‹_› 7 rfl rfl (by decide)) hl) ?_;rintro _ h4 ⟨rv,oc⟩;have o4:=oc.thenE ‹_›;clear oc;have hb:bC [[115,101,108,101,99,116],[40]] ts=false:=hno 0 (by decide)
    rw[hb]at rv
    subst rv;refine aCW ?_;refine aC2 (by omega) (by omega) ?_
    refine⟨rfl,?_⟩
    exact⟨⟨1,by omega,rfl,Own.sel ‹_› [0,1,2,3,4,5] rfl⟩,by simp⟩
   ·refine aCW ?_
    refine rR (aCt dP aV (o3.boxArrN 5 rfl ‹_› (by omega)) rfl (by omega) (by omega) ?_);refine rR (aCm o3 5 rfl aV rfl rfl rfl ?_);(refine aCT o3 aV ?_;intro b2002 m2002 o2002);(refine aCl o2002 6 rfl aV rfl (by decide) (aI ⟨rfl,rfl⟩ ?_);intro m2003 o2003);refine rR (fA cC rfl rfl rfl ?_);refine rR (aCi o2003 6 rfl aL rfl rfl ?_);(refine aCS o2003 aK aL rfl rfl (by decide) (aI rfl ?_);intro b2006 m2006 o2006);refine aCZ (bL [[112,114,111,106,101,99,116],[40]] _ bp w ts _ (Own.cellB ‹_› 0 rfl 0) (Own.reads ‹_› 1 hR.1 rfl) (Own.boxArr ‹_› 7 rfl rfl (by decide)) hl) ?_;rintro _ h4 ⟨rv,oc⟩;have o4:=oc.thenE ‹_›;clear oc;have hb:bC [[112,114,111,106,101,99,116],[40]] ts=false:=hno 1 (by decide)
    rw[hb]at rv
    subst rv;refine aCW ?_;refine aC2 (by omega) (by omega) ?_
    refine⟨rfl,?_⟩
    exact⟨⟨2,by omega,rfl,Own.sel ‹_› [0,1,2,3,4,5] rfl⟩,by simp⟩
   ·refine aCW ?_
    refine rR (aCt dP aV (o3.boxArrN 5 rfl ‹_› (by omega)) rfl (by omega) (by omega) ?_);refine rR (aCm o3 5 rfl aV rfl rfl rfl ?_);(refine aCT o3 aV ?_;intro b3002 m3002 o3002);(refine aCl o3002 6 rfl aV rfl (by decide) (aI ⟨rfl,rfl⟩ ?_);intro m3003 o3003);refine rR (fA cC rfl rfl rfl ?_);refine rR (aCi o3003 6 rfl aL rfl rfl ?_);(refine aCS o3003 aK aL rfl rfl (by decide) (aI rfl ?_);intro b3006 m3006 o3006);refine aCZ (bL [[106,111,105,110],[40]] _ bp w ts _ (Own.cellB ‹_› 0 rfl 0) (Own.reads ‹_› 1 hR.1 rfl) (Own.boxArr ‹_› 7 rfl rfl (by decide)) hl) ?_;rintro _ h4 ⟨rv,oc⟩;have o4:=oc.thenE ‹_›;clear oc
    rw[hb]at rv
    subst rv;have hE:bT z (n+1) ts=(aW z [[106,111,105,110],[40]] >>= fun _=>bT z n >>= fun a=>ifP (sM 2) (aW z [[44]] >>= fun _=>bT z n >>= fun b=>pure [a,b]) [a] >>= fun kids=>eB z 2 (bF ts) kids >>= fun x=>aW z [[41]] >>= fun _=>(pure x:PM Ex)) ts:=jO (jN (by decide) hno hb);have o5:=o4.sel [0,1,2,3,4,6] rfl
    simp only[PSt,pick,lcA,lnA,lgS,lgZ,lgN]at o5
    clear o3 o4;refine aCX ?_;refine aC2 (by omega) (by omega) ?_;refine rR (fA aM rfl rfl rfl ?_);(refine aCR o5 3 rfl aS rfl (by simp) (aI ⟨rfl,rfl⟩ ?_);intro m3041 o3041);refine rR (fA cC rfl rfl rfl ?_);refine rR (aCi o3041 5 rfl aL rfl rfl ?_);(refine aCS o3041 aK aL rfl rfl (by decide) (aI rfl ?_);intro b3044 m3044 o3044);refine aU (ss:=[[106,111,105,110],[40]]) ‹_› rfl ⟨6,by decide,rfl⟩ hR (by omega) (by decide) (fun _ q1 w1 v h5 hm hv hle1 hR1 oq=>?_) (fun e w' h' hm o2=>⟨e,w',hE.trans (aCk hm),rfl,o2⟩);subst hv
    rw[aCj hm]at hE
    have o6:=oq.sel [0,1,2,3,4,5] rfl
    simp only[PSt,pick,lcA,lnA,lgS,lgZ,lgN]at o6
    clear oq hm;refine DrawVC.join [49,50,51,52,53,54,55,56,57,58,59] [] (fun _ hh=>∃(a1:Ex) (q2:List Tok) (w2:Value) (c1:cX) (I1:Item) (ua:Option Addr) (uc:Nat),bT z n q1=.ok (a1,q2)∧q2.length≤q1.length∧cJ tk w2 q2∧mF I1 c1.1 a1∧Own B [box bp [w2,.int .i64 z] 72,tk,I1,box b10 [.int .i64 0,.string ⟨⟨[]⟩⟩,aN,aN,aN,.string ⟨⟨[]⟩⟩,.string ⟨⟨[]⟩⟩,.int .i64 0,.int .i64 0] 42,box b13 [.int .i64 4,.string ⟨⟨[]⟩⟩,.slice ua 1 uc,aN,aN,.string ⟨⟨[]⟩⟩,.string ⟨⟨[]⟩⟩,.int .i64 0,.int .i64 (bF ts)] 42,box pb [.pointer (some ⟨bp,0,none⟩)] 70,box b3002 [.string ⟨⟨[106,111,105,110]⟩⟩,.bool true,.func (.func 160) ⟨[]⟩ ⟨[]⟩] 188,row (.slice ua 1 uc) 42 9 1 c1.1] hh) ?_ ?_
    ·refine aCG b13 [0,2,3,4,6,9,11] [1] [8,10,12] (.one 0 (.one 1 (.one 2 (.one 3 (.one 4 (.one 6 (.fork 5 7 (.one 7 (.one 8 (.one 9 (.one 11 (.fork 10 12 (.one 12 .done) (.one 10 .done)))))) (.one 5 (.one 8 (.one 9 (.one 11 (.fork 10 12 (.one 12 .done) (.one 10 .done))))))))))))) mixed (by kernel_rfl) rfl (fun _ _ _ _ h=>h) ?_
     refine fA aM rfl rfl rfl ?_;refine StillVCA.load1 cQ rfl rfl ((o6.cellB 3 rfl _).trans rfl) ?_;refine aC2 (by omega) (by omega) ?_;refine aCq rfl bV ?_
     refine⟨?_,?_⟩
     ·skip
      refine cW.callL (fun B' o'=>ih (level+1) (by omega) B' bp z tk _ _ _ o' hR1 (by omega)) ‹_› rfl (fun a1 q2 w2 v I1 h6 hm hv hle2 hR2 oq=>?_) (fun e w' h' hm o2=>⟨e,w',hE.trans (aCk hm),rfl,o2⟩)
      obtain⟨c1,rfl,hx1⟩:=hv
      have o7:=oq
      simp only[PSt,pick,lcA,lnA,lgS,lgZ,lgN]at o7
      clear oq
      refine⟨Eq.trans (Own.satK o7 4 rfl) (Eq.symm (Own.satK (x:=box b13 _ _) ‹_› 3 rfl)),?_⟩
      have one1:=eU (Own.satK o7 2 rfl) hx1;(refine aCF o7 bV aT rfl rfl (by decide) ?_);refine aI rfl ?_;intro b3101 m3101 o3101;refine aI ((o3101.boxBlk 4 rfl).trans (o7.boxBlk 4 rfl).symm) ?_;have on:=Own.nilRow ‹_› 42 9
      simp only[lcA,lnA]at on
      refine aCU on 8 rfl bV aT (by decide) (Own.boxArrN on 7 rfl (n:=1) rfl (by omega)) (by simp[Value.oneCell']) (by simp only[maxLen];omega) (by omega) ?_;intro vA mA oA
      obtain⟨ua,uc,rfl⟩:=oA.rowIs 8 rfl
      refine aCt bV aT (oA.rowArrN 8 rfl) rfl (by omega) (by omega) ?_;refine fA aM rfl rfl rfl ?_
      refine⟨?_,?_⟩
      ·skip
       refine aCu (i:=0) ‹_› 8 rfl aT rfl rfl rfl c1.2 (by decide) (by decide) one1 ?_;intro mB oB
       simp only[lsS,lsZ]at oB
       (refine aCR oB 4 rfl cQ rfl (by simp) (aI ⟨rfl,rfl⟩ ?_);intro m3140 o3140)
       refine⟨rfl,?_⟩
       have ef:=cA (cs:=[.int .i64 0,.string ⟨⟨[]⟩⟩,aN,aN,aN,.string ⟨⟨[]⟩⟩,.string ⟨⟨[]⟩⟩,.int .i64 0,.int .i64 0]) (c:=c1) rfl
       exact⟨a1,q2,w2,c1,I1,ua,uc,hm,hle2,hR2,hx1,ef▸Own.sel ‹_› [0,1,2,3,4,5,6,8] rfl⟩
      ·skip
       (refine aCR oA 4 rfl cQ rfl (by simp) (aI ⟨rfl,rfl⟩ ?_);intro m3150 o3150);refine aCu (i:=0) ‹_› 8 rfl aT rfl rfl rfl c1.2 (by decide) (by decide) one1 ?_;intro mB oB
       simp only[lsS,lsZ]at oB
       refine⟨rfl,?_⟩
       have ef:=cA (cs:=[.int .i64 0,.string ⟨⟨[]⟩⟩,aN,aN,aN,.string ⟨⟨[]⟩⟩,.string ⟨⟨[]⟩⟩,.int .i64 0,.int .i64 0]) (c:=c1) rfl
       exact⟨a1,q2,w2,c1,I1,ua,uc,hm,hle2,hR2,hx1,ef▸Own.sel ‹_› [0,1,2,3,4,5,6,8] rfl⟩
     ·skip
      (refine aCF o6 bV aT rfl rfl (by decide) ?_);refine aI rfl ?_;intro b3281 m3281 o3281;refine aI ((o3281.boxBlk 3 rfl).trans (o6.boxBlk 3 rfl).symm) ?_;refine cW.callL (fun B' o'=>ih (level+1) (by omega) B' bp z tk _ _ _ o' hR1 (by omega)) ‹_› rfl (fun a1 q2 w2 v I1 h6 hm hv hle2 hR2 oq=>?_) (fun e w' h' hm o2=>⟨e,w',hE.trans (aCk hm),rfl,o2⟩)
      obtain⟨c1,rfl,hx1⟩:=hv
      have o7:=oq
      simp only[PSt,pick,lcA,lnA,lgS,lgZ,lgN]at o7
      clear oq
      refine⟨Eq.trans (Own.satK o7 4 rfl) (Eq.symm (Own.satK (x:=box b13 _ _) ‹_› 3 rfl)),?_⟩
      have one1:=eU (Own.satK o7 2 rfl) hx1;have on:=Own.nilRow ‹_› 42 9
      simp only[lcA,lnA]at on
      refine aCU on 8 rfl bV aT (by decide) (Own.boxArrN on 7 rfl (n:=1) rfl (by omega)) (by simp[Value.oneCell']) (by simp only[maxLen];omega) (by omega) ?_;intro vA mA oA
      obtain⟨ua,uc,rfl⟩:=oA.rowIs 8 rfl
      refine aCt bV aT (oA.rowArrN 8 rfl) rfl (by omega) (by omega) ?_;refine fA aM rfl rfl rfl ?_
      refine⟨?_,?_⟩
      ·skip
       refine aCu (i:=0) ‹_› 8 rfl aT rfl rfl rfl c1.2 (by decide) (by decide) one1 ?_;intro mB oB
       simp only[lsS,lsZ]at oB
       (refine aCR oB 4 rfl cQ rfl (by simp) (aI ⟨rfl,rfl⟩ ?_);intro m3340 o3340)
       refine⟨rfl,?_⟩
       have ef:=cA (cs:=[.int .i64 0,.string ⟨⟨[]⟩⟩,aN,aN,aN,.string ⟨⟨[]⟩⟩,.string ⟨⟨[]⟩⟩,.int .i64 0,.int .i64 0]) (c:=c1) rfl
       exact⟨a1,q2,w2,c1,I1,ua,uc,hm,hle2,hR2,hx1,ef▸Own.sel ‹_› [0,1,2,3,4,5,6,8] rfl⟩
      ·skip
       (refine aCR oA 4 rfl cQ rfl (by simp) (aI ⟨rfl,rfl⟩ ?_);intro m3350 o3350);refine aCu (i:=0) ‹_› 8 rfl aT rfl rfl rfl c1.2 (by decide) (by decide) one1 ?_;intro mB oB
       simp only[lsS,lsZ]at oB
       refine⟨rfl,?_⟩
       have ef:=cA (cs:=[.int .i64 0,.string ⟨⟨[]⟩⟩,aN,aN,aN,.string ⟨⟨[]⟩⟩,.string ⟨⟨[]⟩⟩,.int .i64 0,.int .i64 0]) (c:=c1) rfl
       exact⟨a1,q2,w2,c1,I1,ua,uc,hm,hle2,hR2,hx1,ef▸Own.sel ‹_› [0,1,2,3,4,5,6,8] rfl⟩
    ·rintro _ junk2 h7 ⟨a1,q2,w2,c1,I1,ua,uc,hm,hle2,hR2,hx1,o8⟩
     rw[aCj hm]at hE
     rw[jK (by rfl),aCN]at hE
     refine rR (fA cC rfl rfl rfl ?_);refine rR (aCi o8 6 rfl ty4 rfl rfl ?_);refine aCW ?_;(refine aCS o8 aK aL rfl rfl (by decide) (aI rfl ?_);intro b3502 m3502 o3502);refine aU (ss:=[[44]]) ‹_› rfl ⟨8,by decide,rfl⟩ hR2 (by omega) (by decide) (fun _ q3 w3 v h8 hm3 hv hle3 hR3 oq=>?_) (fun e w' h' hm o2=>⟨e,w',hE.trans (aCk hm),rfl,o2⟩);subst hv
     rw[aCj hm3,aCN]at hE
     have o9:=oq.sel [0,1,2,3,4,5,6,7] rfl
     simp only[PSt,pick,lcA,lnA,lgS,lgZ,lgN]at o9
     clear oq o8 hm;refine DrawVC.join [65,66,67,68,69,70,71,72,73,74,75] [] (fun _ hh=>∃(a2:Ex) (q4:List Tok) (w4:Value) (c2:cX) (I2:Item) (ua:Option Addr) (uc:Nat),bT z n q3=.ok (a2,q4)∧q4.length≤q3.length∧cJ tk w4 q4∧mF I2 c2.1 a2∧Own B [box bp [w4,.int .i64 z] 72,tk,I2,I1,box b10 [.int .i64 0,.string ⟨⟨[]⟩⟩,aN,aN,aN,.string ⟨⟨[]⟩⟩,.string ⟨⟨[]⟩⟩,.int .i64 0,.int .i64 0] 42,box b13 [.int .i64 4,.string ⟨⟨[]⟩⟩,.slice ua 2 uc,aN,aN,.string ⟨⟨[]⟩⟩,.string ⟨⟨[]⟩⟩,.int .i64 0,.int .i64 (bF ts)] 42,box pb [.pointer (some ⟨bp,0,none⟩)] 70,box b3002 [.string ⟨⟨[106,111,105,110]⟩⟩,.bool true,.func (.func 160) ⟨[]⟩ ⟨[]⟩] 188,row (.slice ua 2 uc) 42 9 2 (c1.1++c2.1)] hh) ?_ ?_
     ·refine aCG b13 [0,2,3,4,6,9,11] [1] [8,10,12] (.one 0 (.one 1 (.one 2 (.one 3 (.one 4 (.one 6 (.fork 5 7 (.one 7 (.one 8 (.one 9 (.one 11 (.fork 10 12 (.one 12 .done) (.one 10 .done)))))) (.one 5 (.one 8 (.one 9 (.one 11 (.fork 10 12 (.one 12 .done) (.one 10 .done))))))))))))) mixed (by kernel_rfl) rfl (fun _ _ _ _ h=>h) ?_
      refine fA aM rfl rfl rfl ?_;refine StillVCA.load1 cQ rfl rfl ((o9.cellB 4 rfl _).trans rfl) ?_;refine aC2 (by omega) (by omega) ?_;refine aCq rfl bV ?_
      refine⟨?_,?_⟩
      ·skip
       refine cW.callL (fun B' o'=>ih (level+1) (by omega) B' bp z tk _ _ _ o' hR3 (by omega)) ‹_› rfl (fun a2 q4 w4 v I2 h9 hm4 hv hle4 hR4 oq=>?_) (fun e w' h' hm o2=>⟨e,w',hE.trans (aCk hm),rfl,o2⟩)
       obtain⟨c2,rfl,hx2⟩:=hv
       have o7:=oq
       simp only[PSt,pick,lcA,lnA,lgS,lgZ,lgN]at o7
       clear oq
       refine⟨Eq.trans (Own.satK o7 5 rfl) (Eq.symm (Own.satK (x:=box b13 _ _) ‹_› 4 rfl)),?_⟩
       have one2:=eU (Own.satK o7 2 rfl) hx2;(refine aCF o7 bV aT rfl rfl (by decide) ?_);refine aI rfl ?_;intro b3571 m3571 o3571;refine aI ((o3571.boxBlk 5 rfl).trans (o7.boxBlk 5 rfl).symm) ?_;refine aCU ‹_› 8 rfl bV aT (by decide) (Own.boxArrN ‹_› 9 rfl (n:=1) rfl (by omega)) (by simp[Value.oneCell']) (by simp only[maxLen];omega) (by omega) ?_;intro vA mA oA
       obtain⟨ua,uc,rfl⟩:=oA.rowIs 8 rfl
       refine aCt bV aT (oA.rowArrN 8 rfl) rfl (by omega) (by omega) ?_;refine fA aM rfl rfl rfl ?_
       refine⟨?_,?_⟩
       ·skip
        refine aCu (i:=1) ‹_› 8 rfl aT rfl rfl rfl c2.2 (by decide) (by decide) one2 ?_;intro mB oB
        simp only[lsS,lsZ]at oB
        (refine aCR oB 5 rfl cQ rfl (by simp) (aI ⟨rfl,rfl⟩ ?_);intro m3610 o3610)
        refine⟨rfl,?_⟩
        have ef:=eL (cs:=[.int .i64 0,.string ⟨⟨[]⟩⟩,aN,aN,aN,.string ⟨⟨[]⟩⟩,.string ⟨⟨[]⟩⟩,.int .i64 0,.int .i64 0]) (c:=c1) (d:=c2) rfl
        exact⟨a2,q4,w4,c2,I2,ua,uc,hm4,hle4,hR4,hx2,ef▸Own.sel ‹_› [0,1,2,3,4,5,6,7,8] rfl⟩
       ·skip
        (refine aCR oA 5 rfl cQ rfl (by simp) (aI ⟨rfl,rfl⟩ ?_);intro m3620 o3620);refine aCu (i:=1) ‹_› 8 rfl aT rfl rfl rfl c2.2 (by decide) (by decide) one2 ?_;intro mB oB
        simp only[lsS,lsZ]at oB
        refine⟨rfl,?_⟩
        have ef:=eL (cs:=[.int .i64 0,.string ⟨⟨[]⟩⟩,aN,aN,aN,.string ⟨⟨[]⟩⟩,.string ⟨⟨[]⟩⟩,.int .i64 0,.int .i64 0]) (c:=c1) (d:=c2) rfl
        exact⟨a2,q4,w4,c2,I2,ua,uc,hm4,hle4,hR4,hx2,ef▸Own.sel ‹_› [0,1,2,3,4,5,6,7,8] rfl⟩
      ·skip
       (refine aCF o9 bV aT rfl rfl (by decide) ?_);refine aI rfl ?_;intro b3691 m3691 o3691;refine aI ((o3691.boxBlk 4 rfl).trans (o9.boxBlk 4 rfl).symm) ?_;refine cW.callL (fun B' o'=>ih (level+1) (by omega) B' bp z tk _ _ _ o' hR3 (by omega)) ‹_› rfl (fun a2 q4 w4 v I2 h9 hm4 hv hle4 hR4 oq=>?_) (fun e w' h' hm o2=>⟨e,w',hE.trans (aCk hm),rfl,o2⟩)
       obtain⟨c2,rfl,hx2⟩:=hv
       have o7:=oq
       simp only[PSt,pick,lcA,lnA,lgS,lgZ,lgN]at o7
       clear oq
       refine⟨Eq.trans (Own.satK o7 5 rfl) (Eq.symm (Own.satK (x:=box b13 _ _) ‹_› 4 rfl)),?_⟩
       have one2:=eU (Own.satK o7 2 rfl) hx2;refine aCU ‹_› 8 rfl bV aT (by decide) (Own.boxArrN ‹_› 9 rfl (n:=1) rfl (by omega)) (by simp[Value.oneCell']) (by simp only[maxLen];omega) (by omega) ?_;intro vA mA oA
       obtain⟨ua,uc,rfl⟩:=oA.rowIs 8 rfl
       refine aCt bV aT (oA.rowArrN 8 rfl) rfl (by omega) (by omega) ?_;refine fA aM rfl rfl rfl ?_
       refine⟨?_,?_⟩
       ·skip
        refine aCu (i:=1) ‹_› 8 rfl aT rfl rfl rfl c2.2 (by decide) (by decide) one2 ?_;intro mB oB
        simp only[lsS,lsZ]at oB
        (refine aCR oB 5 rfl cQ rfl (by simp) (aI ⟨rfl,rfl⟩ ?_);intro m3750 o3750)
        refine⟨rfl,?_⟩
        have ef:=eL (cs:=[.int .i64 0,.string ⟨⟨[]⟩⟩,aN,aN,aN,.string ⟨⟨[]⟩⟩,.string ⟨⟨[]⟩⟩,.int .i64 0,.int .i64 0]) (c:=c1) (d:=c2) rfl
        exact⟨a2,q4,w4,c2,I2,ua,uc,hm4,hle4,hR4,hx2,ef▸Own.sel ‹_› [0,1,2,3,4,5,6,7,8] rfl⟩
       ·skip
        (refine aCR oA 5 rfl cQ rfl (by simp) (aI ⟨rfl,rfl⟩ ?_);intro m3760 o3760);refine aCu (i:=1) ‹_› 8 rfl aT rfl rfl rfl c2.2 (by decide) (by decide) one2 ?_;intro mB oB
        simp only[lsS,lsZ]at oB
        refine⟨rfl,?_⟩
        have ef:=eL (cs:=[.int .i64 0,.string ⟨⟨[]⟩⟩,aN,aN,aN,.string ⟨⟨[]⟩⟩,.string ⟨⟨[]⟩⟩,.int .i64 0,.int .i64 0]) (c:=c1) (d:=c2) rfl
        exact⟨a2,q4,w4,c2,I2,ua,uc,hm4,hle4,hR4,hx2,ef▸Own.sel ‹_› [0,1,2,3,4,5,6,7,8] rfl⟩
     ·rintro _ junk3 h9 ⟨a2,q4,w4,c2,I2,ua,uc,hm,hle4,hR4,hx2,o8⟩
      rw[aCj hm,aCz]at hE
      refine aC6 ?_;refine rR (fA cC rfl rfl rfl ?_);refine rR (aCi o8 7 rfl yR rfl rfl ?_);refine aCZ (vR b13 _) ?_;rintro _ h10 ⟨rfl,oc⟩;have o9:=oc.thenE o8;clear oc o8;have e2:eB z 2 (bF ts) [a1,a2] q4=.ok (Ex.mk 4 [] [a1,a2] [] [] [] [] 0 (bF ts),q4):=rfl
      rw[aCj e2]at hE
      (refine aCS o9 aK aL rfl rfl (by decide) (aI rfl ?_);intro b3840 m3840 o3840);refine aU (ss:=[[41]]) ‹_› rfl ⟨9,by decide,rfl⟩ hR4 (by omega) (by decide) (fun _ q5 w5 v h11 hm5 hv hle5 hR5 oq=>?_) (fun e w' h' hm o2=>⟨e,w',hE.trans (aCk hm),rfl,o2⟩);subst hv
      rw[aCj hm5]at hE
      have o10:=oq
      simp only[PSt,pick,lcA,lnA,lgS,lgZ,lgN]at o10
      clear oq o9;refine rR (aCm o10 5 rfl aT rfl rfl rfl ?_);(refine aCl o10 4 rfl aT rfl (by decide) (aI ⟨rfl,rfl⟩ ?_);intro m3861 o3861)
      first|refine aCy rfl o3861 4 rfl aT rfl rfl ?_|refine aCx rfl o3861 4 rfl aT rfl rfl ?_|refine RetVC.cellTT rfl o3861 4 rfl aT rfl rfl ?_
      have er:[c1,c2].flatMap Subtype.val=c1.1++c2.1:=by simp
      exact⟨_,q5,w5,dW (dW I2 I1) (row (.slice ua 2 uc) 42 9 2 (c1.1++c2.1)),hE,⟨⟨xR 4 [] (.slice ua 2 uc) aN aN [] [] 0 (bF ts),rfl⟩,rfl,by rw[mF];exact⟨_,_,_,rfl,aP,aP,[c1,c2],by rw[er];exact dK.inr,mF.mono (fun _ (s:(dW (dW _ _) _).sat _)=>s.1.2) _ _ hx1,mF.mono (fun _ (s:(dW (dW _ _) _).sat _)=>s.1.1) _ _ hx2,trivial⟩⟩,by omega,hR5,((Own.sel ‹_› [2,3,8,0,1] rfl).join.join).sel [1,2,0] rfl⟩
theorem expr_union (n:Nat)(hn:n≤11)(ih:mJ n):∀(level:Int)(_:level=13 - ((n+1:Nat):Int))(B:Base)(bp z:Nat)(tk:Item)(w:Value)(ts:List Tok)(h:Heap)(_:Own B (PSt bp z w tk) h)(_:cJ tk w ts)(_:ts.length≤5000)(_:∀ j,j<3→bC [cH.getD j [],[40]] ts=false)(_:bC [[117,110,105,111,110],[40]] ts=true),
  Spec Tryz.prog 118 [.pointer (some ⟨bp,0,none⟩),.int .i64 level] h (cW B bp z tk ts.length (bT z (n+1) ts) exV):=by
 intro level hlv B bp z tk w ts h o hR hl hno hb
 obtain⟨hRd,hK⟩:=hR
 have hR:cJ tk w ts:=⟨hRd,hK⟩;refine aC1 Tryz.func118 rfl Tryz.ntmps118 (by kernel_rfl) ?_;(refine aCT o aT ?_;intro b10 m10 o10);refine aCV (fun hc=>absurd hc (by omega)) (fun c11=>?_);refine rR (aCr aM ?_);refine aI rfl ?_;(refine aCT o10 aT ?_;intro b13 m13 o13);(refine aCl o13 3 rfl aT rfl (by decide) (aI ⟨rfl,rfl⟩ ?_);intro m14 o14);refine rR (nC rfl ?_);refine rR (fA fH rfl rfl rfl ?_);refine rR (aCi o14 0 rfl eM rfl rfl ?_);refine rR (aCJ (o14.reads 1 hRd rfl) fI ?_);refine Br.join [19,20,21,22,23,24,25,26] [] (fun _ hh=>Own B [box bp [w,.int .i64 z] 72,tk,box b10 [.int .i64 0,.string ⟨⟨[]⟩⟩,aN,aN,aN,.string ⟨⟨[]⟩⟩,.string ⟨⟨[]⟩⟩,.int .i64 0,.int .i64 0] 42,box b13 [.int .i64 1,.string ⟨⟨[]⟩⟩,aN,aN,aN,.string ⟨⟨[]⟩⟩,.string ⟨⟨[]⟩⟩,.int .i64 0,.int .i64 (bF ts)] 42] hh) rfl rfl ?_ ?_
 ·cases ts with
  | nil =>
   refine aCX ?_
   refine⟨rfl,?_⟩
   exact o14
  | cons t r =>
   have hx:(t::r)[0]?=some t:=rfl;have hln:(t::r).length=r.length+1:=rfl;refine aCV (fun c30=>?_) (fun hc=>absurd (by omega) hc);refine rR (nC rfl ?_);refine rR (fA fH rfl rfl rfl ?_);refine rR (aCi o14 0 rfl eM rfl rfl ?_);refine rR (aCt fI bB (o14.reads 1 hRd rfl) rfl (by omega) (by omega) ?_);refine rR (aCB (o14.reads 1 hRd rfl) (by omega) eP rfl rfl rfl ?_);refine rR (aCH (o14.reads 1 hRd rfl) aS (fun _=>rfl) rfl ‹_› rfl ?_);refine rR (fA aM rfl rfl rfl ?_);(refine aCl o14 3 rfl aS rfl (by decide) (aI ⟨rfl,rfl⟩ ?_);intro m38 o38)
   refine⟨rfl,?_⟩
   exact Own.sel ‹_› [0,1,2,3] rfl
 ·intro vs junk hh oh
  refine aCZ (eK bp _) ?_;rintro _ h2 ⟨bo,pb,rfl,oc⟩;have o2:=oh.call oc
  simp only[lcA,lnA]at o2
  clear oc;refine rR (aCq rfl dP ?_);refine aC5 [6,7,30,31,32,33,34,35,36,37,38,39,40,41,42,43,44,45,46,47,48,49,50,51,52,53,54,55,56,57,58,59,60,61,62,63,64,65,66,67,68,69,70,71,72,73,74,75,76,77,78,79,80,81,82,83] [30] (fun vs hh=>∃(i:Nat),i≤3∧vs=[.int .i64 i]∧Own B [box bp [w,.int .i64 z] 72,tk,box b10 [.int .i64 0,.string ⟨⟨[]⟩⟩,aN,aN,aN,.string ⟨⟨[]⟩⟩,.string ⟨⟨[]⟩⟩,.int .i64 0,.int .i64 0] 42,box b13 [.int .i64 1,.string ⟨⟨[]⟩⟩,aN,aN,aN,.string ⟨⟨[]⟩⟩,.string ⟨⟨[]⟩⟩,.int .i64 0,.int .i64 (bF ts)] 42,box pb [.pointer (some ⟨bp,0,none⟩)] 70,box bo (rD pb) 188] hh) (fun vs _=>match vs with|[.int _ i]=>7 - i.toNat|_=>0) ?_ ?_
  ·exact⟨0,by omega,rfl,o2⟩
  ·rintro vs' junk' h3 ⟨i,hi,rfl,o3⟩
   clear o14 oh o2;have hoL:(rD pb).length=7*3:=rfl
   rcases(by omega:i=0∨i=1∨i=2∨i=3) with rfl|rfl|rfl|rfl
   ·refine aCW ?_
    refine rR (aCt dP aV (o3.boxArrN 5 rfl ‹_› (by omega)) rfl (by omega) (by omega) ?_);refine rR (aCm o3 5 rfl aV rfl rfl rfl ?_);(refine aCT o3 aV ?_;intro b1002 m1002 o1002);(refine aCl o1002 6 rfl aV rfl (by decide) (aI ⟨rfl,rfl⟩ ?_);intro m1003 o1003);refine rR (fA cC rfl rfl rfl ?_);refine rR (aCi o1003 6 rfl aL rfl rfl ?_);(refine aCS o1003 aK aL rfl rfl (by decide) (aI rfl ?_);intro b1006 m1006 o1006);refine aCZ (bL [[115,101,108,101,99,116],[40]] _ bp w ts _ (Own.cellB ‹_› 0 rfl 0) (Own.reads ‹_› 1 hR.1 rfl) (Own.boxArr ‹_› 7 rfl rfl (by decide)) hl) ?_;rintro _ h4 ⟨rv,oc⟩;have o4:=oc.thenE ‹_›;clear oc;have hb:bC [[115,101,108,101,99,116],[40]] ts=false:=hno 0 (by decide)
    rw[hb]at rv
    subst rv;refine aCW ?_;refine aC2 (by omega) (by omega) ?_
    refine⟨rfl,?_⟩
    exact⟨⟨1,by omega,rfl,Own.sel ‹_› [0,1,2,3,4,5] rfl⟩,by simp⟩
   ·refine aCW ?_
    refine rR (aCt dP aV (o3.boxArrN 5 rfl ‹_› (by omega)) rfl (by omega) (by omega) ?_);refine rR (aCm o3 5 rfl aV rfl rfl rfl ?_);(refine aCT o3 aV ?_;intro b2002 m2002 o2002);(refine aCl o2002 6 rfl aV rfl (by decide) (aI ⟨rfl,rfl⟩ ?_);intro m2003 o2003);refine rR (fA cC rfl rfl rfl ?_);refine rR (aCi o2003 6 rfl aL rfl rfl ?_);(refine aCS o2003 aK aL rfl rfl (by decide) (aI rfl ?_);intro b2006 m2006 o2006);refine aCZ (bL [[112,114,111,106,101,99,116],[40]] _ bp w ts _ (Own.cellB ‹_› 0 rfl 0) (Own.reads ‹_› 1 hR.1 rfl) (Own.boxArr ‹_› 7 rfl rfl (by decide)) hl) ?_;rintro _ h4 ⟨rv,oc⟩;have o4:=oc.thenE ‹_›;clear oc;have hb:bC [[112,114,111,106,101,99,116],[40]] ts=false:=hno 1 (by decide)
    rw[hb]at rv
    subst rv;refine aCW ?_;refine aC2 (by omega) (by omega) ?_
    refine⟨rfl,?_⟩
    exact⟨⟨2,by omega,rfl,Own.sel ‹_› [0,1,2,3,4,5] rfl⟩,by simp⟩
   ·refine aCW ?_
    refine rR (aCt dP aV (o3.boxArrN 5 rfl ‹_› (by omega)) rfl (by omega) (by omega) ?_);refine rR (aCm o3 5 rfl aV rfl rfl rfl ?_);(refine aCT o3 aV ?_;intro b3002 m3002 o3002);(refine aCl o3002 6 rfl aV rfl (by decide) (aI ⟨rfl,rfl⟩ ?_);intro m3003 o3003);refine rR (fA cC rfl rfl rfl ?_);refine rR (aCi o3003 6 rfl aL rfl rfl ?_);(refine aCS o3003 aK aL rfl rfl (by decide) (aI rfl ?_);intro b3006 m3006 o3006);refine aCZ (bL [[106,111,105,110],[40]] _ bp w ts _ (Own.cellB ‹_› 0 rfl 0) (Own.reads ‹_› 1 hR.1 rfl) (Own.boxArr ‹_› 7 rfl rfl (by decide)) hl) ?_;rintro _ h4 ⟨rv,oc⟩;have o4:=oc.thenE ‹_›;clear oc;have hb:bC [[106,111,105,110],[40]] ts=false:=hno 2 (by decide)
    rw[hb]at rv
    subst rv;refine aCW ?_;refine aC2 (by omega) (by omega) ?_
    refine⟨rfl,?_⟩
    exact⟨⟨3,by omega,rfl,Own.sel ‹_› [0,1,2,3,4,5] rfl⟩,by simp⟩
   ·refine aCW ?_
    refine rR (aCt dP aV (o3.boxArrN 5 rfl ‹_› (by omega)) rfl (by omega) (by omega) ?_);refine rR (aCm o3 5 rfl aV rfl rfl rfl ?_);(refine aCT o3 aV ?_;intro b4002 m4002 o4002);(refine aCl o4002 6 rfl aV rfl (by decide) (aI ⟨rfl,rfl⟩ ?_);intro m4003 o4003);refine rR (fA cC rfl rfl rfl ?_);refine rR (aCi o4003 6 rfl aL rfl rfl ?_);(refine aCS o4003 aK aL rfl rfl (by decide) (aI rfl ?_);intro b4006 m4006 o4006);refine aCZ (bL [[117,110,105,111,110],[40]] _ bp w ts _ (Own.cellB ‹_› 0 rfl 0) (Own.reads ‹_› 1 hR.1 rfl) (Own.boxArr ‹_› 7 rfl rfl (by decide)) hl) ?_;rintro _ h4 ⟨rv,oc⟩;have o4:=oc.thenE ‹_›;clear oc
    rw[hb]at rv
    subst rv;have hE:bT z (n+1) ts=(aW z [[117,110,105,111,110],[40]] >>= fun _=>bT z n >>= fun a=>ifP (sM 3) (aW z [[44]] >>= fun _=>bT z n >>= fun b=>pure [a,b]) [a] >>= fun kids=>eB z 3 (bF ts) kids >>= fun x=>aW z [[41]] >>= fun _=>(pure x:PM Ex)) ts:=jO (jN (by decide) hno hb);have o5:=o4.sel [0,1,2,3,4,6] rfl
    simp only[PSt,pick,lcA,lnA,lgS,lgZ,lgN]at o5
    clear o3 o4;refine aCX ?_;refine aC2 (by omega) (by omega) ?_;refine rR (fA aM rfl rfl rfl ?_);(refine aCR o5 3 rfl aS rfl (by simp) (aI ⟨rfl,rfl⟩ ?_);intro m4041 o4041);refine rR (fA cC rfl rfl rfl ?_);refine rR (aCi o4041 5 rfl aL rfl rfl ?_);(refine aCS o4041 aK aL rfl rfl (by decide) (aI rfl ?_);intro b4044 m4044 o4044);refine aU (ss:=[[117,110,105,111,110],[40]]) ‹_› rfl ⟨6,by decide,rfl⟩ hR (by omega) (by decide) (fun _ q1 w1 v h5 hm hv hle1 hR1 oq=>?_) (fun e w' h' hm o2=>⟨e,w',hE.trans (aCk hm),rfl,o2⟩);subst hv
    rw[aCj hm]at hE
    have o6:=oq.sel [0,1,2,3,4,5] rfl
    simp only[PSt,pick,lcA,lnA,lgS,lgZ,lgN]at o6
    clear oq hm;refine DrawVC.join [49,50,51,52,53,54,55,56,57,58,59] [] (fun _ hh=>∃(a1:Ex) (q2:List Tok) (w2:Value) (c1:cX) (I1:Item) (ua:Option Addr) (uc:Nat),bT z n q1=.ok (a1,q2)∧q2.length≤q1.length∧cJ tk w2 q2∧mF I1 c1.1 a1∧Own B [box bp [w2,.int .i64 z] 72,tk,I1,box b10 [.int .i64 0,.string ⟨⟨[]⟩⟩,aN,aN,aN,.string ⟨⟨[]⟩⟩,.string ⟨⟨[]⟩⟩,.int .i64 0,.int .i64 0] 42,box b13 [.int .i64 5,.string ⟨⟨[]⟩⟩,.slice ua 1 uc,aN,aN,.string ⟨⟨[]⟩⟩,.string ⟨⟨[]⟩⟩,.int .i64 0,.int .i64 (bF ts)] 42,box pb [.pointer (some ⟨bp,0,none⟩)] 70,box b4002 [.string ⟨⟨[117,110,105,111,110]⟩⟩,.bool true,.func (.func 160) ⟨[]⟩ ⟨[]⟩] 188,row (.slice ua 1 uc) 42 9 1 c1.1] hh) ?_ ?_
    ·refine aCG b13 [0,2,3,4,6,9,11] [1] [8,10,12] (.one 0 (.one 1 (.one 2 (.one 3 (.one 4 (.one 6 (.fork 5 7 (.one 7 (.one 8 (.one 9 (.one 11 (.fork 10 12 (.one 12 .done) (.one 10 .done)))))) (.one 5 (.one 8 (.one 9 (.one 11 (.fork 10 12 (.one 12 .done) (.one 10 .done))))))))))))) mixed (by kernel_rfl) rfl (fun _ _ _ _ h=>h) ?_
     refine fA aM rfl rfl rfl ?_;refine StillVCA.load1 cQ rfl rfl ((o6.cellB 3 rfl _).trans rfl) ?_;refine aC2 (by omega) (by omega) ?_;refine aCq rfl bV ?_
     refine⟨?_,?_⟩
     ·skip
      refine cW.callL (fun B' o'=>ih (level+1) (by omega) B' bp z tk _ _ _ o' hR1 (by omega)) ‹_› rfl (fun a1 q2 w2 v I1 h6 hm hv hle2 hR2 oq=>?_) (fun e w' h' hm o2=>⟨e,w',hE.trans (aCk hm),rfl,o2⟩)
      obtain⟨c1,rfl,hx1⟩:=hv
      have o7:=oq
      simp only[PSt,pick,lcA,lnA,lgS,lgZ,lgN]at o7
      clear oq
      refine⟨Eq.trans (Own.satK o7 4 rfl) (Eq.symm (Own.satK (x:=box b13 _ _) ‹_› 3 rfl)),?_⟩
      have one1:=eU (Own.satK o7 2 rfl) hx1;(refine aCF o7 bV aT rfl rfl (by decide) ?_);refine aI rfl ?_;intro b4101 m4101 o4101;refine aI ((o4101.boxBlk 4 rfl).trans (o7.boxBlk 4 rfl).symm) ?_;have on:=Own.nilRow ‹_› 42 9
      simp only[lcA,lnA]at on
      refine aCU on 8 rfl bV aT (by decide) (Own.boxArrN on 7 rfl (n:=1) rfl (by omega)) (by simp[Value.oneCell']) (by simp only[maxLen];omega) (by omega) ?_;intro vA mA oA
      obtain⟨ua,uc,rfl⟩:=oA.rowIs 8 rfl
      refine aCt bV aT (oA.rowArrN 8 rfl) rfl (by omega) (by omega) ?_;refine fA aM rfl rfl rfl ?_
      refine⟨?_,?_⟩
      ·skip
       refine aCu (i:=0) ‹_› 8 rfl aT rfl rfl rfl c1.2 (by decide) (by decide) one1 ?_;intro mB oB
       simp only[lsS,lsZ]at oB
       (refine aCR oB 4 rfl cQ rfl (by simp) (aI ⟨rfl,rfl⟩ ?_);intro m4140 o4140)
       refine⟨rfl,?_⟩
       have ef:=cA (cs:=[.int .i64 0,.string ⟨⟨[]⟩⟩,aN,aN,aN,.string ⟨⟨[]⟩⟩,.string ⟨⟨[]⟩⟩,.int .i64 0,.int .i64 0]) (c:=c1) rfl
       exact⟨a1,q2,w2,c1,I1,ua,uc,hm,hle2,hR2,hx1,ef▸Own.sel ‹_› [0,1,2,3,4,5,6,8] rfl⟩
      ·skip
       (refine aCR oA 4 rfl cQ rfl (by simp) (aI ⟨rfl,rfl⟩ ?_);intro m4150 o4150);refine aCu (i:=0) ‹_› 8 rfl aT rfl rfl rfl c1.2 (by decide) (by decide) one1 ?_;intro mB oB
       simp only[lsS,lsZ]at oB
       refine⟨rfl,?_⟩
       have ef:=cA (cs:=[.int .i64 0,.string ⟨⟨[]⟩⟩,aN,aN,aN,.string ⟨⟨[]⟩⟩,.string ⟨⟨[]⟩⟩,.int .i64 0,.int .i64 0]) (c:=c1) rfl
       exact⟨a1,q2,w2,c1,I1,ua,uc,hm,hle2,hR2,hx1,ef▸Own.sel ‹_› [0,1,2,3,4,5,6,8] rfl⟩
     ·skip
      (refine aCF o6 bV aT rfl rfl (by decide) ?_);refine aI rfl ?_;intro b4281 m4281 o4281;refine aI ((o4281.boxBlk 3 rfl).trans (o6.boxBlk 3 rfl).symm) ?_;refine cW.callL (fun B' o'=>ih (level+1) (by omega) B' bp z tk _ _ _ o' hR1 (by omega)) ‹_› rfl (fun a1 q2 w2 v I1 h6 hm hv hle2 hR2 oq=>?_) (fun e w' h' hm o2=>⟨e,w',hE.trans (aCk hm),rfl,o2⟩)
      obtain⟨c1,rfl,hx1⟩:=hv
      have o7:=oq
      simp only[PSt,pick,lcA,lnA,lgS,lgZ,lgN]at o7
      clear oq
      refine⟨Eq.trans (Own.satK o7 4 rfl) (Eq.symm (Own.satK (x:=box b13 _ _) ‹_› 3 rfl)),?_⟩
      have one1:=eU (Own.satK o7 2 rfl) hx1;have on:=Own.nilRow ‹_› 42 9
      simp only[lcA,lnA]at on
      refine aCU on 8 rfl bV aT (by decide) (Own.boxArrN on 7 rfl (n:=1) rfl (by omega)) (by simp[Value.oneCell']) (by simp only[maxLen];omega) (by omega) ?_;intro vA mA oA
      obtain⟨ua,uc,rfl⟩:=oA.rowIs 8 rfl
      refine aCt bV aT (oA.rowArrN 8 rfl) rfl (by omega) (by omega) ?_;refine fA aM rfl rfl rfl ?_
      refine⟨?_,?_⟩
      ·skip
       refine aCu (i:=0) ‹_› 8 rfl aT rfl rfl rfl c1.2 (by decide) (by decide) one1 ?_;intro mB oB
       simp only[lsS,lsZ]at oB
       (refine aCR oB 4 rfl cQ rfl (by simp) (aI ⟨rfl,rfl⟩ ?_);intro m4340 o4340)
       refine⟨rfl,?_⟩
       have ef:=cA (cs:=[.int .i64 0,.string ⟨⟨[]⟩⟩,aN,aN,aN,.string ⟨⟨[]⟩⟩,.string ⟨⟨[]⟩⟩,.int .i64 0,.int .i64 0]) (c:=c1) rfl
       exact⟨a1,q2,w2,c1,I1,ua,uc,hm,hle2,hR2,hx1,ef▸Own.sel ‹_› [0,1,2,3,4,5,6,8] rfl⟩
      ·skip
       (refine aCR oA 4 rfl cQ rfl (by simp) (aI ⟨rfl,rfl⟩ ?_);intro m4350 o4350);refine aCu (i:=0) ‹_› 8 rfl aT rfl rfl rfl c1.2 (by decide) (by decide) one1 ?_;intro mB oB
       simp only[lsS,lsZ]at oB
       refine⟨rfl,?_⟩
       have ef:=cA (cs:=[.int .i64 0,.string ⟨⟨[]⟩⟩,aN,aN,aN,.string ⟨⟨[]⟩⟩,.string ⟨⟨[]⟩⟩,.int .i64 0,.int .i64 0]) (c:=c1) rfl
       exact⟨a1,q2,w2,c1,I1,ua,uc,hm,hle2,hR2,hx1,ef▸Own.sel ‹_› [0,1,2,3,4,5,6,8] rfl⟩
    ·rintro _ junk2 h7 ⟨a1,q2,w2,c1,I1,ua,uc,hm,hle2,hR2,hx1,o8⟩
     rw[aCj hm]at hE
     rw[jK (by rfl),aCN]at hE
     refine rR (fA cC rfl rfl rfl ?_);refine rR (aCi o8 6 rfl ty4 rfl rfl ?_);refine aCW ?_;(refine aCS o8 aK aL rfl rfl (by decide) (aI rfl ?_);intro b4502 m4502 o4502);refine aU (ss:=[[44]]) ‹_› rfl ⟨8,by decide,rfl⟩ hR2 (by omega) (by decide) (fun _ q3 w3 v h8 hm3 hv hle3 hR3 oq=>?_) (fun e w' h' hm o2=>⟨e,w',hE.trans (aCk hm),rfl,o2⟩);subst hv
     rw[aCj hm3,aCN]at hE
     have o9:=oq.sel [0,1,2,3,4,5,6,7] rfl
     simp only[PSt,pick,lcA,lnA,lgS,lgZ,lgN]at o9
     clear oq o8 hm;refine DrawVC.join [65,66,67,68,69,70,71,72,73,74,75] [] (fun _ hh=>∃(a2:Ex) (q4:List Tok) (w4:Value) (c2:cX) (I2:Item) (ua:Option Addr) (uc:Nat),bT z n q3=.ok (a2,q4)∧q4.length≤q3.length∧cJ tk w4 q4∧mF I2 c2.1 a2∧Own B [box bp [w4,.int .i64 z] 72,tk,I2,I1,box b10 [.int .i64 0,.string ⟨⟨[]⟩⟩,aN,aN,aN,.string ⟨⟨[]⟩⟩,.string ⟨⟨[]⟩⟩,.int .i64 0,.int .i64 0] 42,box b13 [.int .i64 5,.string ⟨⟨[]⟩⟩,.slice ua 2 uc,aN,aN,.string ⟨⟨[]⟩⟩,.string ⟨⟨[]⟩⟩,.int .i64 0,.int .i64 (bF ts)] 42,box pb [.pointer (some ⟨bp,0,none⟩)] 70,box b4002 [.string ⟨⟨[117,110,105,111,110]⟩⟩,.bool true,.func (.func 160) ⟨[]⟩ ⟨[]⟩] 188,row (.slice ua 2 uc) 42 9 2 (c1.1++c2.1)] hh) ?_ ?_
     ·refine aCG b13 [0,2,3,4,6,9,11] [1] [8,10,12] (.one 0 (.one 1 (.one 2 (.one 3 (.one 4 (.one 6 (.fork 5 7 (.one 7 (.one 8 (.one 9 (.one 11 (.fork 10 12 (.one 12 .done) (.one 10 .done)))))) (.one 5 (.one 8 (.one 9 (.one 11 (.fork 10 12 (.one 12 .done) (.one 10 .done))))))))))))) mixed (by kernel_rfl) rfl (fun _ _ _ _ h=>h) ?_
      refine fA aM rfl rfl rfl ?_;refine StillVCA.load1 cQ rfl rfl ((o9.cellB 4 rfl _).trans rfl) ?_;refine aC2 (by omega) (by omega) ?_;refine aCq rfl bV ?_
      refine⟨?_,?_⟩
      ·skip
       refine cW.callL (fun B' o'=>ih (level+1) (by omega) B' bp z tk _ _ _ o' hR3 (by omega)) ‹_› rfl (fun a2 q4 w4 v I2 h9 hm4 hv hle4 hR4 oq=>?_) (fun e w' h' hm o2=>⟨e,w',hE.trans (aCk hm),rfl,o2⟩)
       obtain⟨c2,rfl,hx2⟩:=hv
       have o7:=oq
       simp only[PSt,pick,lcA,lnA,lgS,lgZ,lgN]at o7
       clear oq
       refine⟨Eq.trans (Own.satK o7 5 rfl) (Eq.symm (Own.satK (x:=box b13 _ _) ‹_› 4 rfl)),?_⟩
       have one2:=eU (Own.satK o7 2 rfl) hx2;(refine aCF o7 bV aT rfl rfl (by decide) ?_);refine aI rfl ?_;intro b4571 m4571 o4571;refine aI ((o4571.boxBlk 5 rfl).trans (o7.boxBlk 5 rfl).symm) ?_;refine aCU ‹_› 8 rfl bV aT (by decide) (Own.boxArrN ‹_› 9 rfl (n:=1) rfl (by omega)) (by simp[Value.oneCell']) (by simp only[maxLen];omega) (by omega) ?_;intro vA mA oA
       obtain⟨ua,uc,rfl⟩:=oA.rowIs 8 rfl
       refine aCt bV aT (oA.rowArrN 8 rfl) rfl (by omega) (by omega) ?_;refine fA aM rfl rfl rfl ?_
       refine⟨?_,?_⟩
       ·skip
        refine aCu (i:=1) ‹_› 8 rfl aT rfl rfl rfl c2.2 (by decide) (by decide) one2 ?_;intro mB oB
        simp only[lsS,lsZ]at oB
        (refine aCR oB 5 rfl cQ rfl (by simp) (aI ⟨rfl,rfl⟩ ?_);intro m4610 o4610)
        refine⟨rfl,?_⟩
        have ef:=eL (cs:=[.int .i64 0,.string ⟨⟨[]⟩⟩,aN,aN,aN,.string ⟨⟨[]⟩⟩,.string ⟨⟨[]⟩⟩,.int .i64 0,.int .i64 0]) (c:=c1) (d:=c2) rfl
        exact⟨a2,q4,w4,c2,I2,ua,uc,hm4,hle4,hR4,hx2,ef▸Own.sel ‹_› [0,1,2,3,4,5,6,7,8] rfl⟩
       ·skip
        (refine aCR oA 5 rfl cQ rfl (by simp) (aI ⟨rfl,rfl⟩ ?_);intro m4620 o4620);refine aCu (i:=1) ‹_› 8 rfl aT rfl rfl rfl c2.2 (by decide) (by decide) one2 ?_;intro mB oB
        simp only[lsS,lsZ]at oB
        refine⟨rfl,?_⟩
        have ef:=eL (cs:=[.int .i64 0,.string ⟨⟨[]⟩⟩,aN,aN,aN,.string ⟨⟨[]⟩⟩,.string ⟨⟨[]⟩⟩,.int .i64 0,.int .i64 0]) (c:=c1) (d:=c2) rfl
        exact⟨a2,q4,w4,c2,I2,ua,uc,hm4,hle4,hR4,hx2,ef▸Own.sel ‹_› [0,1,2,3,4,5,6,7,8] rfl⟩
      ·skip
       (refine aCF o9 bV aT rfl rfl (by decide) ?_);refine aI rfl ?_;intro b4691 m4691 o4691;refine aI ((o4691.boxBlk 4 rfl).trans (o9.boxBlk 4 rfl).symm) ?_;refine cW.callL (fun B' o'=>ih (level+1) (by omega) B' bp z tk _ _ _ o' hR3 (by omega)) ‹_› rfl (fun a2 q4 w4 v I2 h9 hm4 hv hle4 hR4 oq=>?_) (fun e w' h' hm o2=>⟨e,w',hE.trans (aCk hm),rfl,o2⟩)
       obtain⟨c2,rfl,hx2⟩:=hv
       have o7:=oq
       simp only[PSt,pick,lcA,lnA,lgS,lgZ,lgN]at o7
       clear oq
       refine⟨Eq.trans (Own.satK o7 5 rfl) (Eq.symm (Own.satK (x:=box b13 _ _) ‹_› 4 rfl)),?_⟩
       have one2:=eU (Own.satK o7 2 rfl) hx2;refine aCU ‹_› 8 rfl bV aT (by decide) (Own.boxArrN ‹_› 9 rfl (n:=1) rfl (by omega)) (by simp[Value.oneCell']) (by simp only[maxLen];omega) (by omega) ?_;intro vA mA oA
       obtain⟨ua,uc,rfl⟩:=oA.rowIs 8 rfl
       refine aCt bV aT (oA.rowArrN 8 rfl) rfl (by omega) (by omega) ?_;refine fA aM rfl rfl rfl ?_
       refine⟨?_,?_⟩
       ·skip
        refine aCu (i:=1) ‹_› 8 rfl aT rfl rfl rfl c2.2 (by decide) (by decide) one2 ?_;intro mB oB
        simp only[lsS,lsZ]at oB
        (refine aCR oB 5 rfl cQ rfl (by simp) (aI ⟨rfl,rfl⟩ ?_);intro m4750 o4750)
        refine⟨rfl,?_⟩
        have ef:=eL (cs:=[.int .i64 0,.string ⟨⟨[]⟩⟩,aN,aN,aN,.string ⟨⟨[]⟩⟩,.string ⟨⟨[]⟩⟩,.int .i64 0,.int .i64 0]) (c:=c1) (d:=c2) rfl
        exact⟨a2,q4,w4,c2,I2,ua,uc,hm4,hle4,hR4,hx2,ef▸Own.sel ‹_› [0,1,2,3,4,5,6,7,8] rfl⟩
       ·skip
        (refine aCR oA 5 rfl cQ rfl (by simp) (aI ⟨rfl,rfl⟩ ?_);intro m4760 o4760);refine aCu (i:=1) ‹_› 8 rfl aT rfl rfl rfl c2.2 (by decide) (by decide) one2 ?_;intro mB oB
        simp only[lsS,lsZ]at oB
        refine⟨rfl,?_⟩
        have ef:=eL (cs:=[.int .i64 0,.string ⟨⟨[]⟩⟩,aN,aN,aN,.string ⟨⟨[]⟩⟩,.string ⟨⟨[]⟩⟩,.int .i64 0,.int .i64 0]) (c:=c1) (d:=c2) rfl
        exact⟨a2,q4,w4,c2,I2,ua,uc,hm4,hle4,hR4,hx2,ef▸Own.sel ‹_› [0,1,2,3,4,5,6,7,8] rfl⟩
     ·rintro _ junk3 h9 ⟨a2,q4,w4,c2,I2,ua,uc,hm,hle4,hR4,hx2,o8⟩
      rw[aCj hm,aCz]at hE
      refine aC6 ?_;refine rR (fA cC rfl rfl rfl ?_);refine rR (aCi o8 7 rfl yR rfl rfl ?_);refine aCZ (vR b13 _) ?_;rintro _ h10 ⟨rfl,oc⟩;have o9:=oc.thenE o8;clear oc o8;have e2:eB z 3 (bF ts) [a1,a2] q4=.ok (Ex.mk 5 [] [a1,a2] [] [] [] [] 0 (bF ts),q4):=rfl
      rw[aCj e2]at hE
      (refine aCS o9 aK aL rfl rfl (by decide) (aI rfl ?_);intro b4840 m4840 o4840);refine aU (ss:=[[41]]) ‹_› rfl ⟨9,by decide,rfl⟩ hR4 (by omega) (by decide) (fun _ q5 w5 v h11 hm5 hv hle5 hR5 oq=>?_) (fun e w' h' hm o2=>⟨e,w',hE.trans (aCk hm),rfl,o2⟩);subst hv
      rw[aCj hm5]at hE
      have o10:=oq
      simp only[PSt,pick,lcA,lnA,lgS,lgZ,lgN]at o10
      clear oq o9;refine rR (aCm o10 5 rfl aT rfl rfl rfl ?_);(refine aCl o10 4 rfl aT rfl (by decide) (aI ⟨rfl,rfl⟩ ?_);intro m4861 o4861)
      first|refine aCy rfl o4861 4 rfl aT rfl rfl ?_|refine aCx rfl o4861 4 rfl aT rfl rfl ?_|refine RetVC.cellTT rfl o4861 4 rfl aT rfl rfl ?_
      have er:[c1,c2].flatMap Subtype.val=c1.1++c2.1:=by simp
      exact⟨_,q5,w5,dW (dW I2 I1) (row (.slice ua 2 uc) 42 9 2 (c1.1++c2.1)),hE,⟨⟨xR 5 [] (.slice ua 2 uc) aN aN [] [] 0 (bF ts),rfl⟩,rfl,by rw[mF];exact⟨_,_,_,rfl,aP,aP,[c1,c2],by rw[er];exact dK.inr,mF.mono (fun _ (s:(dW (dW _ _) _).sat _)=>s.1.2) _ _ hx1,mF.mono (fun _ (s:(dW (dW _ _) _).sat _)=>s.1.1) _ _ hx2,trivial⟩⟩,by omega,hR5,((Own.sel ‹_› [2,3,8,0,1] rfl).join.join).sel [1,2,0] rfl⟩
theorem expr_minus (n:Nat)(hn:n≤11)(ih:mJ n):∀(level:Int)(_:level=13 - ((n+1:Nat):Int))(B:Base)(bp z:Nat)(tk:Item)(w:Value)(ts:List Tok)(h:Heap)(_:Own B (PSt bp z w tk) h)(_:cJ tk w ts)(_:ts.length≤5000)(_:∀ j,j<4→bC [cH.getD j [],[40]] ts=false)(_:bC [[109,105,110,117,115],[40]] ts=true),
  Spec Tryz.prog 118 [.pointer (some ⟨bp,0,none⟩),.int .i64 level] h (cW B bp z tk ts.length (bT z (n+1) ts) exV):=by
 intro level hlv B bp z tk w ts h o hR hl hno hb
 obtain⟨hRd,hK⟩:=hR
 have hR:cJ tk w ts:=⟨hRd,hK⟩;refine aC1 Tryz.func118 rfl Tryz.ntmps118 (by kernel_rfl) ?_;(refine aCT o aT ?_;intro b10 m10 o10);refine aCV (fun hc=>absurd hc (by omega)) (fun c11=>?_);refine rR (aCr aM ?_);refine aI rfl ?_;(refine aCT o10 aT ?_;intro b13 m13 o13);(refine aCl o13 3 rfl aT rfl (by decide) (aI ⟨rfl,rfl⟩ ?_);intro m14 o14);refine rR (nC rfl ?_);refine rR (fA fH rfl rfl rfl ?_);refine rR (aCi o14 0 rfl eM rfl rfl ?_);refine rR (aCJ (o14.reads 1 hRd rfl) fI ?_);refine Br.join [19,20,21,22,23,24,25,26] [] (fun _ hh=>Own B [box bp [w,.int .i64 z] 72,tk,box b10 [.int .i64 0,.string ⟨⟨[]⟩⟩,aN,aN,aN,.string ⟨⟨[]⟩⟩,.string ⟨⟨[]⟩⟩,.int .i64 0,.int .i64 0] 42,box b13 [.int .i64 1,.string ⟨⟨[]⟩⟩,aN,aN,aN,.string ⟨⟨[]⟩⟩,.string ⟨⟨[]⟩⟩,.int .i64 0,.int .i64 (bF ts)] 42] hh) rfl rfl ?_ ?_
 ·cases ts with
  | nil =>
   refine aCX ?_
   refine⟨rfl,?_⟩
   exact o14
  | cons t r =>
   have hx:(t::r)[0]?=some t:=rfl;have hln:(t::r).length=r.length+1:=rfl;refine aCV (fun c30=>?_) (fun hc=>absurd (by omega) hc);refine rR (nC rfl ?_);refine rR (fA fH rfl rfl rfl ?_);refine rR (aCi o14 0 rfl eM rfl rfl ?_);refine rR (aCt fI bB (o14.reads 1 hRd rfl) rfl (by omega) (by omega) ?_);refine rR (aCB (o14.reads 1 hRd rfl) (by omega) eP rfl rfl rfl ?_);refine rR (aCH (o14.reads 1 hRd rfl) aS (fun _=>rfl) rfl ‹_› rfl ?_);refine rR (fA aM rfl rfl rfl ?_);(refine aCl o14 3 rfl aS rfl (by decide) (aI ⟨rfl,rfl⟩ ?_);intro m38 o38)
   refine⟨rfl,?_⟩
   exact Own.sel ‹_› [0,1,2,3] rfl
 ·intro vs junk hh oh
  refine aCZ (eK bp _) ?_;rintro _ h2 ⟨bo,pb,rfl,oc⟩;have o2:=oh.call oc
  simp only[lcA,lnA]at o2
  clear oc;refine rR (aCq rfl dP ?_);refine aC5 [6,7,30,31,32,33,34,35,36,37,38,39,40,41,42,43,44,45,46,47,48,49,50,51,52,53,54,55,56,57,58,59,60,61,62,63,64,65,66,67,68,69,70,71,72,73,74,75,76,77,78,79,80,81,82,83] [30] (fun vs hh=>∃(i:Nat),i≤4∧vs=[.int .i64 i]∧Own B [box bp [w,.int .i64 z] 72,tk,box b10 [.int .i64 0,.string ⟨⟨[]⟩⟩,aN,aN,aN,.string ⟨⟨[]⟩⟩,.string ⟨⟨[]⟩⟩,.int .i64 0,.int .i64 0] 42,box b13 [.int .i64 1,.string ⟨⟨[]⟩⟩,aN,aN,aN,.string ⟨⟨[]⟩⟩,.string ⟨⟨[]⟩⟩,.int .i64 0,.int .i64 (bF ts)] 42,box pb [.pointer (some ⟨bp,0,none⟩)] 70,box bo (rD pb) 188] hh) (fun vs _=>match vs with|[.int _ i]=>7 - i.toNat|_=>0) ?_ ?_
  ·exact⟨0,by omega,rfl,o2⟩
  ·rintro vs' junk' h3 ⟨i,hi,rfl,o3⟩
   clear o14 oh o2;have hoL:(rD pb).length=7*3:=rfl
   rcases(by omega:i=0∨i=1∨i=2∨i=3∨i=4) with rfl|rfl|rfl|rfl|rfl
   ·refine aCW ?_
    refine rR (aCt dP aV (o3.boxArrN 5 rfl ‹_› (by omega)) rfl (by omega) (by omega) ?_);refine rR (aCm o3 5 rfl aV rfl rfl rfl ?_);(refine aCT o3 aV ?_;intro b1002 m1002 o1002);(refine aCl o1002 6 rfl aV rfl (by decide) (aI ⟨rfl,rfl⟩ ?_);intro m1003 o1003);refine rR (fA cC rfl rfl rfl ?_);refine rR (aCi o1003 6 rfl aL rfl rfl ?_);(refine aCS o1003 aK aL rfl rfl (by decide) (aI rfl ?_);intro b1006 m1006 o1006);refine aCZ (bL [[115,101,108,101,99,116],[40]] _ bp w ts _ (Own.cellB ‹_› 0 rfl 0) (Own.reads ‹_› 1 hR.1 rfl) (Own.boxArr ‹_› 7 rfl rfl (by decide)) hl) ?_;rintro _ h4 ⟨rv,oc⟩;have o4:=oc.thenE ‹_›;clear oc;have hb:bC [[115,101,108,101,99,116],[40]] ts=false:=hno 0 (by decide)
    rw[hb]at rv
    subst rv;refine aCW ?_;refine aC2 (by omega) (by omega) ?_
    refine⟨rfl,?_⟩
    exact⟨⟨1,by omega,rfl,Own.sel ‹_› [0,1,2,3,4,5] rfl⟩,by simp⟩
   ·refine aCW ?_
    refine rR (aCt dP aV (o3.boxArrN 5 rfl ‹_› (by omega)) rfl (by omega) (by omega) ?_);refine rR (aCm o3 5 rfl aV rfl rfl rfl ?_);(refine aCT o3 aV ?_;intro b2002 m2002 o2002);(refine aCl o2002 6 rfl aV rfl (by decide) (aI ⟨rfl,rfl⟩ ?_);intro m2003 o2003);refine rR (fA cC rfl rfl rfl ?_);refine rR (aCi o2003 6 rfl aL rfl rfl ?_);(refine aCS o2003 aK aL rfl rfl (by decide) (aI rfl ?_);intro b2006 m2006 o2006);refine aCZ (bL [[112,114,111,106,101,99,116],[40]] _ bp w ts _ (Own.cellB ‹_› 0 rfl 0) (Own.reads ‹_› 1 hR.1 rfl) (Own.boxArr ‹_› 7 rfl rfl (by decide)) hl) ?_;rintro _ h4 ⟨rv,oc⟩;have o4:=oc.thenE ‹_›;clear oc;have hb:bC [[112,114,111,106,101,99,116],[40]] ts=false:=hno 1 (by decide)
    rw[hb]at rv
    subst rv;refine aCW ?_;refine aC2 (by omega) (by omega) ?_
    refine⟨rfl,?_⟩
    exact⟨⟨2,by omega,rfl,Own.sel ‹_› [0,1,2,3,4,5] rfl⟩,by simp⟩
   ·refine aCW ?_
    refine rR (aCt dP aV (o3.boxArrN 5 rfl ‹_› (by omega)) rfl (by omega) (by omega) ?_);refine rR (aCm o3 5 rfl aV rfl rfl rfl ?_);(refine aCT o3 aV ?_;intro b3002 m3002 o3002);(refine aCl o3002 6 rfl aV rfl (by decide) (aI ⟨rfl,rfl⟩ ?_);intro m3003 o3003);refine rR (fA cC rfl rfl rfl ?_);refine rR (aCi o3003 6 rfl aL rfl rfl ?_);(refine aCS o3003 aK aL rfl rfl (by decide) (aI rfl ?_);intro b3006 m3006 o3006);refine aCZ (bL [[106,111,105,110],[40]] _ bp w ts _ (Own.cellB ‹_› 0 rfl 0) (Own.reads ‹_› 1 hR.1 rfl) (Own.boxArr ‹_› 7 rfl rfl (by decide)) hl) ?_;rintro _ h4 ⟨rv,oc⟩;have o4:=oc.thenE ‹_›;clear oc;have hb:bC [[106,111,105,110],[40]] ts=false:=hno 2 (by decide)
    rw[hb]at rv
    subst rv;refine aCW ?_;refine aC2 (by omega) (by omega) ?_
    refine⟨rfl,?_⟩
    exact⟨⟨3,by omega,rfl,Own.sel ‹_› [0,1,2,3,4,5] rfl⟩,by simp⟩
   ·refine aCW ?_
    refine rR (aCt dP aV (o3.boxArrN 5 rfl ‹_› (by omega)) rfl (by omega) (by omega) ?_);refine rR (aCm o3 5 rfl aV rfl rfl rfl ?_);(refine aCT o3 aV ?_;intro b4002 m4002 o4002);(refine aCl o4002 6 rfl aV rfl (by decide) (aI ⟨rfl,rfl⟩ ?_);intro m4003 o4003);refine rR (fA cC rfl rfl rfl ?_);refine rR (aCi o4003 6 rfl aL rfl rfl ?_);(refine aCS o4003 aK aL rfl rfl (by decide) (aI rfl ?_);intro b4006 m4006 o4006);refine aCZ (bL [[117,110,105,111,110],[40]] _ bp w ts _ (Own.cellB ‹_› 0 rfl 0) (Own.reads ‹_› 1 hR.1 rfl) (Own.boxArr ‹_› 7 rfl rfl (by decide)) hl) ?_;rintro _ h4 ⟨rv,oc⟩;have o4:=oc.thenE ‹_›;clear oc;have hb:bC [[117,110,105,111,110],[40]] ts=false:=hno 3 (by decide)
    rw[hb]at rv
    subst rv;refine aCW ?_;refine aC2 (by omega) (by omega) ?_
    refine⟨rfl,?_⟩
    exact⟨⟨4,by omega,rfl,Own.sel ‹_› [0,1,2,3,4,5] rfl⟩,by simp⟩
   ·refine aCW ?_
    refine rR (aCt dP aV (o3.boxArrN 5 rfl ‹_› (by omega)) rfl (by omega) (by omega) ?_);refine rR (aCm o3 5 rfl aV rfl rfl rfl ?_);(refine aCT o3 aV ?_;intro b5002 m5002 o5002);(refine aCl o5002 6 rfl aV rfl (by decide) (aI ⟨rfl,rfl⟩ ?_);intro m5003 o5003);refine rR (fA cC rfl rfl rfl ?_);refine rR (aCi o5003 6 rfl aL rfl rfl ?_);(refine aCS o5003 aK aL rfl rfl (by decide) (aI rfl ?_);intro b5006 m5006 o5006);refine aCZ (bL [[109,105,110,117,115],[40]] _ bp w ts _ (Own.cellB ‹_› 0 rfl 0) (Own.reads ‹_› 1 hR.1 rfl) (Own.boxArr ‹_› 7 rfl rfl (by decide)) hl) ?_;rintro _ h4 ⟨rv,oc⟩;have o4:=oc.thenE ‹_›;clear oc
    rw[hb]at rv
    subst rv;have hE:bT z (n+1) ts=(aW z [[109,105,110,117,115],[40]] >>= fun _=>bT z n >>= fun a=>ifP (sM 4) (aW z [[44]] >>= fun _=>bT z n >>= fun b=>pure [a,b]) [a] >>= fun kids=>eB z 4 (bF ts) kids >>= fun x=>aW z [[41]] >>= fun _=>(pure x:PM Ex)) ts:=jO (jN (by decide) hno hb);have o5:=o4.sel [0,1,2,3,4,6] rfl
    simp only[PSt,pick,lcA,lnA,lgS,lgZ,lgN]at o5
    clear o3 o4;refine aCX ?_;refine aC2 (by omega) (by omega) ?_;refine rR (fA aM rfl rfl rfl ?_);(refine aCR o5 3 rfl aS rfl (by simp) (aI ⟨rfl,rfl⟩ ?_);intro m5041 o5041);refine rR (fA cC rfl rfl rfl ?_);refine rR (aCi o5041 5 rfl aL rfl rfl ?_);(refine aCS o5041 aK aL rfl rfl (by decide) (aI rfl ?_);intro b5044 m5044 o5044);refine aU (ss:=[[109,105,110,117,115],[40]]) ‹_› rfl ⟨6,by decide,rfl⟩ hR (by omega) (by decide) (fun _ q1 w1 v h5 hm hv hle1 hR1 oq=>?_) (fun e w' h' hm o2=>⟨e,w',hE.trans (aCk hm),rfl,o2⟩);subst hv
    rw[aCj hm]at hE
    have o6:=oq.sel [0,1,2,3,4,5] rfl
    simp only[PSt,pick,lcA,lnA,lgS,lgZ,lgN]at o6
    clear oq hm;refine DrawVC.join [49,50,51,52,53,54,55,56,57,58,59] [] (fun _ hh=>∃(a1:Ex) (q2:List Tok) (w2:Value) (c1:cX) (I1:Item) (ua:Option Addr) (uc:Nat),bT z n q1=.ok (a1,q2)∧q2.length≤q1.length∧cJ tk w2 q2∧mF I1 c1.1 a1∧Own B [box bp [w2,.int .i64 z] 72,tk,I1,box b10 [.int .i64 0,.string ⟨⟨[]⟩⟩,aN,aN,aN,.string ⟨⟨[]⟩⟩,.string ⟨⟨[]⟩⟩,.int .i64 0,.int .i64 0] 42,box b13 [.int .i64 6,.string ⟨⟨[]⟩⟩,.slice ua 1 uc,aN,aN,.string ⟨⟨[]⟩⟩,.string ⟨⟨[]⟩⟩,.int .i64 0,.int .i64 (bF ts)] 42,box pb [.pointer (some ⟨bp,0,none⟩)] 70,box b5002 [.string ⟨⟨[109,105,110,117,115]⟩⟩,.bool true,.func (.func 160) ⟨[]⟩ ⟨[]⟩] 188,row (.slice ua 1 uc) 42 9 1 c1.1] hh) ?_ ?_
    ·refine aCG b13 [0,2,3,4,6,9,11] [1] [8,10,12] (.one 0 (.one 1 (.one 2 (.one 3 (.one 4 (.one 6 (.fork 5 7 (.one 7 (.one 8 (.one 9 (.one 11 (.fork 10 12 (.one 12 .done) (.one 10 .done)))))) (.one 5 (.one 8 (.one 9 (.one 11 (.fork 10 12 (.one 12 .done) (.one 10 .done))))))))))))) mixed (by kernel_rfl) rfl (fun _ _ _ _ h=>h) ?_
     refine fA aM rfl rfl rfl ?_;refine StillVCA.load1 cQ rfl rfl ((o6.cellB 3 rfl _).trans rfl) ?_;refine aC2 (by omega) (by omega) ?_;refine aCq rfl bV ?_
     refine⟨?_,?_⟩
     ·skip
      refine cW.callL (fun B' o'=>ih (level+1) (by omega) B' bp z tk _ _ _ o' hR1 (by omega)) ‹_› rfl (fun a1 q2 w2 v I1 h6 hm hv hle2 hR2 oq=>?_) (fun e w' h' hm o2=>⟨e,w',hE.trans (aCk hm),rfl,o2⟩)
      obtain⟨c1,rfl,hx1⟩:=hv
      have o7:=oq
      simp only[PSt,pick,lcA,lnA,lgS,lgZ,lgN]at o7
      clear oq
      refine⟨Eq.trans (Own.satK o7 4 rfl) (Eq.symm (Own.satK (x:=box b13 _ _) ‹_› 3 rfl)),?_⟩
      have one1:=eU (Own.satK o7 2 rfl) hx1;(refine aCF o7 bV aT rfl rfl (by decide) ?_);refine aI rfl ?_;intro b5101 m5101 o5101;refine aI ((o5101.boxBlk 4 rfl).trans (o7.boxBlk 4 rfl).symm) ?_;have on:=Own.nilRow ‹_› 42 9
      simp only[lcA,lnA]at on
      refine aCU on 8 rfl bV aT (by decide) (Own.boxArrN on 7 rfl (n:=1) rfl (by omega)) (by simp[Value.oneCell']) (by simp only[maxLen];omega) (by omega) ?_;intro vA mA oA
      obtain⟨ua,uc,rfl⟩:=oA.rowIs 8 rfl
      refine aCt bV aT (oA.rowArrN 8 rfl) rfl (by omega) (by omega) ?_;refine fA aM rfl rfl rfl ?_
      refine⟨?_,?_⟩
      ·skip
       refine aCu (i:=0) ‹_› 8 rfl aT rfl rfl rfl c1.2 (by decide) (by decide) one1 ?_;intro mB oB
       simp only[lsS,lsZ]at oB
       (refine aCR oB 4 rfl cQ rfl (by simp) (aI ⟨rfl,rfl⟩ ?_);intro m5140 o5140)
       refine⟨rfl,?_⟩
       have ef:=cA (cs:=[.int .i64 0,.string ⟨⟨[]⟩⟩,aN,aN,aN,.string ⟨⟨[]⟩⟩,.string ⟨⟨[]⟩⟩,.int .i64 0,.int .i64 0]) (c:=c1) rfl
       exact⟨a1,q2,w2,c1,I1,ua,uc,hm,hle2,hR2,hx1,ef▸Own.sel ‹_› [0,1,2,3,4,5,6,8] rfl⟩
      ·skip
       (refine aCR oA 4 rfl cQ rfl (by simp) (aI ⟨rfl,rfl⟩ ?_);intro m5150 o5150);refine aCu (i:=0) ‹_› 8 rfl aT rfl rfl rfl c1.2 (by decide) (by decide) one1 ?_;intro mB oB
       simp only[lsS,lsZ]at oB
       refine⟨rfl,?_⟩
       have ef:=cA (cs:=[.int .i64 0,.string ⟨⟨[]⟩⟩,aN,aN,aN,.string ⟨⟨[]⟩⟩,.string ⟨⟨[]⟩⟩,.int .i64 0,.int .i64 0]) (c:=c1) rfl
       exact⟨a1,q2,w2,c1,I1,ua,uc,hm,hle2,hR2,hx1,ef▸Own.sel ‹_› [0,1,2,3,4,5,6,8] rfl⟩
     ·skip
      (refine aCF o6 bV aT rfl rfl (by decide) ?_);refine aI rfl ?_;intro b5281 m5281 o5281;refine aI ((o5281.boxBlk 3 rfl).trans (o6.boxBlk 3 rfl).symm) ?_;refine cW.callL (fun B' o'=>ih (level+1) (by omega) B' bp z tk _ _ _ o' hR1 (by omega)) ‹_› rfl (fun a1 q2 w2 v I1 h6 hm hv hle2 hR2 oq=>?_) (fun e w' h' hm o2=>⟨e,w',hE.trans (aCk hm),rfl,o2⟩)
      obtain⟨c1,rfl,hx1⟩:=hv
      have o7:=oq
      simp only[PSt,pick,lcA,lnA,lgS,lgZ,lgN]at o7
      clear oq
      refine⟨Eq.trans (Own.satK o7 4 rfl) (Eq.symm (Own.satK (x:=box b13 _ _) ‹_› 3 rfl)),?_⟩
      have one1:=eU (Own.satK o7 2 rfl) hx1;have on:=Own.nilRow ‹_› 42 9
      simp only[lcA,lnA]at on
      refine aCU on 8 rfl bV aT (by decide) (Own.boxArrN on 7 rfl (n:=1) rfl (by omega)) (by simp[Value.oneCell']) (by simp only[maxLen];omega) (by omega) ?_;intro vA mA oA
      obtain⟨ua,uc,rfl⟩:=oA.rowIs 8 rfl
      refine aCt bV aT (oA.rowArrN 8 rfl) rfl (by omega) (by omega) ?_;refine fA aM rfl rfl rfl ?_
      refine⟨?_,?_⟩
      ·skip
       refine aCu (i:=0) ‹_› 8 rfl aT rfl rfl rfl c1.2 (by decide) (by decide) one1 ?_;intro mB oB
       simp only[lsS,lsZ]at oB
       (refine aCR oB 4 rfl cQ rfl (by simp) (aI ⟨rfl,rfl⟩ ?_);intro m5340 o5340)
       refine⟨rfl,?_⟩
       have ef:=cA (cs:=[.int .i64 0,.string ⟨⟨[]⟩⟩,aN,aN,aN,.string ⟨⟨[]⟩⟩,.string ⟨⟨[]⟩⟩,.int .i64 0,.int .i64 0]) (c:=c1) rfl
       exact⟨a1,q2,w2,c1,I1,ua,uc,hm,hle2,hR2,hx1,ef▸Own.sel ‹_› [0,1,2,3,4,5,6,8] rfl⟩
      ·skip
       (refine aCR oA 4 rfl cQ rfl (by simp) (aI ⟨rfl,rfl⟩ ?_);intro m5350 o5350);refine aCu (i:=0) ‹_› 8 rfl aT rfl rfl rfl c1.2 (by decide) (by decide) one1 ?_;intro mB oB
       simp only[lsS,lsZ]at oB
       refine⟨rfl,?_⟩
       have ef:=cA (cs:=[.int .i64 0,.string ⟨⟨[]⟩⟩,aN,aN,aN,.string ⟨⟨[]⟩⟩,.string ⟨⟨[]⟩⟩,.int .i64 0,.int .i64 0]) (c:=c1) rfl
       exact⟨a1,q2,w2,c1,I1,ua,uc,hm,hle2,hR2,hx1,ef▸Own.sel ‹_› [0,1,2,3,4,5,6,8] rfl⟩
    ·rintro _ junk2 h7 ⟨a1,q2,w2,c1,I1,ua,uc,hm,hle2,hR2,hx1,o8⟩
     rw[aCj hm]at hE
     rw[jK (by rfl),aCN]at hE
     refine rR (fA cC rfl rfl rfl ?_);refine rR (aCi o8 6 rfl ty4 rfl rfl ?_);refine aCW ?_;(refine aCS o8 aK aL rfl rfl (by decide) (aI rfl ?_);intro b5502 m5502 o5502);refine aU (ss:=[[44]]) ‹_› rfl ⟨8,by decide,rfl⟩ hR2 (by omega) (by decide) (fun _ q3 w3 v h8 hm3 hv hle3 hR3 oq=>?_) (fun e w' h' hm o2=>⟨e,w',hE.trans (aCk hm),rfl,o2⟩);subst hv
     rw[aCj hm3,aCN]at hE
     have o9:=oq.sel [0,1,2,3,4,5,6,7] rfl
     simp only[PSt,pick,lcA,lnA,lgS,lgZ,lgN]at o9
     clear oq o8 hm;refine DrawVC.join [65,66,67,68,69,70,71,72,73,74,75] [] (fun _ hh=>∃(a2:Ex) (q4:List Tok) (w4:Value) (c2:cX) (I2:Item) (ua:Option Addr) (uc:Nat),bT z n q3=.ok (a2,q4)∧q4.length≤q3.length∧cJ tk w4 q4∧mF I2 c2.1 a2∧Own B [box bp [w4,.int .i64 z] 72,tk,I2,I1,box b10 [.int .i64 0,.string ⟨⟨[]⟩⟩,aN,aN,aN,.string ⟨⟨[]⟩⟩,.string ⟨⟨[]⟩⟩,.int .i64 0,.int .i64 0] 42,box b13 [.int .i64 6,.string ⟨⟨[]⟩⟩,.slice ua 2 uc,aN,aN,.string ⟨⟨[]⟩⟩,.string ⟨⟨[]⟩⟩,.int .i64 0,.int .i64 (bF ts)] 42,box pb [.pointer (some ⟨bp,0,none⟩)] 70,box b5002 [.string ⟨⟨[109,105,110,117,115]⟩⟩,.bool true,.func (.func 160) ⟨[]⟩ ⟨[]⟩] 188,row (.slice ua 2 uc) 42 9 2 (c1.1++c2.1)] hh) ?_ ?_
     ·refine aCG b13 [0,2,3,4,6,9,11] [1] [8,10,12] (.one 0 (.one 1 (.one 2 (.one 3 (.one 4 (.one 6 (.fork 5 7 (.one 7 (.one 8 (.one 9 (.one 11 (.fork 10 12 (.one 12 .done) (.one 10 .done)))))) (.one 5 (.one 8 (.one 9 (.one 11 (.fork 10 12 (.one 12 .done) (.one 10 .done))))))))))))) mixed (by kernel_rfl) rfl (fun _ _ _ _ h=>h) ?_
      refine fA aM rfl rfl rfl ?_;refine StillVCA.load1 cQ rfl rfl ((o9.cellB 4 rfl _).trans rfl) ?_;refine aC2 (by omega) (by omega) ?_;refine aCq rfl bV ?_
      refine⟨?_,?_⟩
      ·skip
       refine cW.callL (fun B' o'=>ih (level+1) (by omega) B' bp z tk _ _ _ o' hR3 (by omega)) ‹_› rfl (fun a2 q4 w4 v I2 h9 hm4 hv hle4 hR4 oq=>?_) (fun e w' h' hm o2=>⟨e,w',hE.trans (aCk hm),rfl,o2⟩)
       obtain⟨c2,rfl,hx2⟩:=hv
       have o7:=oq
       simp only[PSt,pick,lcA,lnA,lgS,lgZ,lgN]at o7
       clear oq
       refine⟨Eq.trans (Own.satK o7 5 rfl) (Eq.symm (Own.satK (x:=box b13 _ _) ‹_› 4 rfl)),?_⟩
       have one2:=eU (Own.satK o7 2 rfl) hx2;(refine aCF o7 bV aT rfl rfl (by decide) ?_);refine aI rfl ?_;intro b5571 m5571 o5571;refine aI ((o5571.boxBlk 5 rfl).trans (o7.boxBlk 5 rfl).symm) ?_;refine aCU ‹_› 8 rfl bV aT (by decide) (Own.boxArrN ‹_› 9 rfl (n:=1) rfl (by omega)) (by simp[Value.oneCell']) (by simp only[maxLen];omega) (by omega) ?_;intro vA mA oA
       obtain⟨ua,uc,rfl⟩:=oA.rowIs 8 rfl
       refine aCt bV aT (oA.rowArrN 8 rfl) rfl (by omega) (by omega) ?_;refine fA aM rfl rfl rfl ?_
       refine⟨?_,?_⟩
       ·skip
        refine aCu (i:=1) ‹_› 8 rfl aT rfl rfl rfl c2.2 (by decide) (by decide) one2 ?_;intro mB oB
        simp only[lsS,lsZ]at oB
        (refine aCR oB 5 rfl cQ rfl (by simp) (aI ⟨rfl,rfl⟩ ?_);intro m5610 o5610)
        refine⟨rfl,?_⟩
        have ef:=eL (cs:=[.int .i64 0,.string ⟨⟨[]⟩⟩,aN,aN,aN,.string ⟨⟨[]⟩⟩,.string ⟨⟨[]⟩⟩,.int .i64 0,.int .i64 0]) (c:=c1) (d:=c2) rfl
        exact⟨a2,q4,w4,c2,I2,ua,uc,hm4,hle4,hR4,hx2,ef▸Own.sel ‹_› [0,1,2,3,4,5,6,7,8] rfl⟩
       ·skip
        (refine aCR oA 5 rfl cQ rfl (by simp) (aI ⟨rfl,rfl⟩ ?_);intro m5620 o5620);refine aCu (i:=1) ‹_› 8 rfl aT rfl rfl rfl c2.2 (by decide) (by decide) one2 ?_;intro mB oB
        simp only[lsS,lsZ]at oB
        refine⟨rfl,?_⟩
        have ef:=eL (cs:=[.int .i64 0,.string ⟨⟨[]⟩⟩,aN,aN,aN,.string ⟨⟨[]⟩⟩,.string ⟨⟨[]⟩⟩,.int .i64 0,.int .i64 0]) (c:=c1) (d:=c2) rfl
        exact⟨a2,q4,w4,c2,I2,ua,uc,hm4,hle4,hR4,hx2,ef▸Own.sel ‹_› [0,1,2,3,4,5,6,7,8] rfl⟩
      ·skip
       (refine aCF o9 bV aT rfl rfl (by decide) ?_);refine aI rfl ?_;intro b5691 m5691 o5691;refine aI ((o5691.boxBlk 4 rfl).trans (o9.boxBlk 4 rfl).symm) ?_;refine cW.callL (fun B' o'=>ih (level+1) (by omega) B' bp z tk _ _ _ o' hR3 (by omega)) ‹_› rfl (fun a2 q4 w4 v I2 h9 hm4 hv hle4 hR4 oq=>?_) (fun e w' h' hm o2=>⟨e,w',hE.trans (aCk hm),rfl,o2⟩)
       obtain⟨c2,rfl,hx2⟩:=hv
       have o7:=oq
       simp only[PSt,pick,lcA,lnA,lgS,lgZ,lgN]at o7
       clear oq
       refine⟨Eq.trans (Own.satK o7 5 rfl) (Eq.symm (Own.satK (x:=box b13 _ _) ‹_› 4 rfl)),?_⟩
       have one2:=eU (Own.satK o7 2 rfl) hx2;refine aCU ‹_› 8 rfl bV aT (by decide) (Own.boxArrN ‹_› 9 rfl (n:=1) rfl (by omega)) (by simp[Value.oneCell']) (by simp only[maxLen];omega) (by omega) ?_;intro vA mA oA
       obtain⟨ua,uc,rfl⟩:=oA.rowIs 8 rfl
       refine aCt bV aT (oA.rowArrN 8 rfl) rfl (by omega) (by omega) ?_;refine fA aM rfl rfl rfl ?_
       refine⟨?_,?_⟩
       ·skip
        refine aCu (i:=1) ‹_› 8 rfl aT rfl rfl rfl c2.2 (by decide) (by decide) one2 ?_;intro mB oB
        simp only[lsS,lsZ]at oB
        (refine aCR oB 5 rfl cQ rfl (by simp) (aI ⟨rfl,rfl⟩ ?_);intro m5750 o5750)
        refine⟨rfl,?_⟩
        have ef:=eL (cs:=[.int .i64 0,.string ⟨⟨[]⟩⟩,aN,aN,aN,.string ⟨⟨[]⟩⟩,.string ⟨⟨[]⟩⟩,.int .i64 0,.int .i64 0]) (c:=c1) (d:=c2) rfl
        exact⟨a2,q4,w4,c2,I2,ua,uc,hm4,hle4,hR4,hx2,ef▸Own.sel ‹_› [0,1,2,3,4,5,6,7,8] rfl⟩
       ·skip
        (refine aCR oA 5 rfl cQ rfl (by simp) (aI ⟨rfl,rfl⟩ ?_);intro m5760 o5760);refine aCu (i:=1) ‹_› 8 rfl aT rfl rfl rfl c2.2 (by decide) (by decide) one2 ?_;intro mB oB
        simp only[lsS,lsZ]at oB
        refine⟨rfl,?_⟩
        have ef:=eL (cs:=[.int .i64 0,.string ⟨⟨[]⟩⟩,aN,aN,aN,.string ⟨⟨[]⟩⟩,.string ⟨⟨[]⟩⟩,.int .i64 0,.int .i64 0]) (c:=c1) (d:=c2) rfl
        exact⟨a2,q4,w4,c2,I2,ua,uc,hm4,hle4,hR4,hx2,ef▸Own.sel ‹_› [0,1,2,3,4,5,6,7,8] rfl⟩
     ·rintro _ junk3 h9 ⟨a2,q4,w4,c2,I2,ua,uc,hm,hle4,hR4,hx2,o8⟩
      rw[aCj hm,aCz]at hE
      refine aC6 ?_;refine rR (fA cC rfl rfl rfl ?_);refine rR (aCi o8 7 rfl yR rfl rfl ?_);refine aCZ (vR b13 _) ?_;rintro _ h10 ⟨rfl,oc⟩;have o9:=oc.thenE o8;clear oc o8;have e2:eB z 4 (bF ts) [a1,a2] q4=.ok (Ex.mk 6 [] [a1,a2] [] [] [] [] 0 (bF ts),q4):=rfl
      rw[aCj e2]at hE
      (refine aCS o9 aK aL rfl rfl (by decide) (aI rfl ?_);intro b5840 m5840 o5840);refine aU (ss:=[[41]]) ‹_› rfl ⟨9,by decide,rfl⟩ hR4 (by omega) (by decide) (fun _ q5 w5 v h11 hm5 hv hle5 hR5 oq=>?_) (fun e w' h' hm o2=>⟨e,w',hE.trans (aCk hm),rfl,o2⟩);subst hv
      rw[aCj hm5]at hE
      have o10:=oq
      simp only[PSt,pick,lcA,lnA,lgS,lgZ,lgN]at o10
      clear oq o9;refine rR (aCm o10 5 rfl aT rfl rfl rfl ?_);(refine aCl o10 4 rfl aT rfl (by decide) (aI ⟨rfl,rfl⟩ ?_);intro m5861 o5861)
      first|refine aCy rfl o5861 4 rfl aT rfl rfl ?_|refine aCx rfl o5861 4 rfl aT rfl rfl ?_|refine RetVC.cellTT rfl o5861 4 rfl aT rfl rfl ?_
      have er:[c1,c2].flatMap Subtype.val=c1.1++c2.1:=by simp
      exact⟨_,q5,w5,dW (dW I2 I1) (row (.slice ua 2 uc) 42 9 2 (c1.1++c2.1)),hE,⟨⟨xR 6 [] (.slice ua 2 uc) aN aN [] [] 0 (bF ts),rfl⟩,rfl,by rw[mF];exact⟨_,_,_,rfl,aP,aP,[c1,c2],by rw[er];exact dK.inr,mF.mono (fun _ (s:(dW (dW _ _) _).sat _)=>s.1.2) _ _ hx1,mF.mono (fun _ (s:(dW (dW _ _) _).sat _)=>s.1.1) _ _ hx2,trivial⟩⟩,by omega,hR5,((Own.sel ‹_› [2,3,8,0,1] rfl).join.join).sel [1,2,0] rfl⟩
end Go.Proofs.YtohlogbnpfofpaaGreatDoor
