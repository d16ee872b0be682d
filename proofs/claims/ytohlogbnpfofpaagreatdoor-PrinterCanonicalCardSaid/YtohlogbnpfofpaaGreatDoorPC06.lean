/- Part 6 of the proof of canonical: VcFork, FnEx0, FnEx1, FnEx2, FnEx3, FnEx4, FnEx5. -/
import Derived.Test.YtohlogbnpfofpaaGreatDoorPC05
set_option linter.all false
set_option maxHeartbeats 100000000
set_option maxRecDepth 100000
namespace Go.Proofs.YtohlogbnpfofpaaGreatDoor
open Go
inductive OT where
 | done
 | one (i:Nat) (t:OT)
 | fork (i j:Nat) (t u:OT)
def OT.size:OT→Nat
 | .done=>0
 | .one _ t=>t.size+1
 | .fork _ _ t _=>t.size+1
def unguarded (ops:Array Oper)(i:Nat):Bool:=match ops[i]? with
 | some o=>o.guard.isNone
 | none=>false
def sF (ops:Array Oper)(st0 stR:List Nat):OT→Array Bool→Bool
 | .done,listed=>(Region.ready .any ops listed).isEmpty
 | .one i t,listed =>
  ((bif mem st0 i||mem stR i then(Region.ready .any ops listed).contains i&&Region.free .any ops listed i else(Region.ready .any ops listed) == [i]) &&
   sF ops st0 stR t (listed.setIfInBounds i true))
 | .fork i j t u,listed =>
  ((Region.ready .any ops listed) == [i,j]&&!(mem st0 i||mem stR i)&&!(mem st0 j||mem stR j)&&unguarded ops i&&unguarded ops j&&t.size == u.size) &&
   (sF ops st0 stR t (listed.setIfInBounds i true)&&sF ops st0 stR u (listed.setIfInBounds j true))
def vordT (E:Heap→Heap→Prop)(A:Addr→Prop)(P:Program)(L:List Oper)(st0 stR tails:List Nat)(t:OT):List Nat→aVs→Heap→QQ→Prop :=
 OT.rec (motive:=fun _=>List Nat→aVs→Heap→QQ→Prop) (fun _ s h Q=>Q .normal s h) (fun i _ ih=>kY E A P L st0 stR tails i ih)
  (fun i j _ _ iht ihu D s h Q=>kY E A P L st0 stR tails i iht D s h Q∧kY E A P L st0 stR tails j ihu D s h Q) t
section
variable {E : Heap → Heap → Prop} {A : Addr → Prop} {P : Program} {ops : Array Oper} {Q : QQ} {w0 : World} {ds : List Deferred} {st0 stR tails : List Nat}
theorem one_sound (hE0:∀ h,E h h)(hEA:∀ h h' a v,E h h'→A a→bC h a=some v→bC h' a=some v)(hp:∀ c s s' h,Q (.panic c) s h→Q (.panic c) s' h)(hsel:Region.noSelect ops=true)(htails:mH ops stR tails=true)
  {i n:Nat} {next:List Nat→aVs→Heap→QQ→Prop} {D:List Nat} {s:aVs} {w:World} {listed:Array Bool} (hs:Same w0 w) (hcl:Closed ops listed)
  (hok:(bif mem st0 i||mem stR i then(Region.ready .any ops listed).contains i&&Region.free .any ops listed i else(Region.ready .any ops listed) == [i])=true)
  (goOn:∀ D s (w:World),Same w0 w→next D s w.heap Q→jJ E P ops (lift w0 ds Q) (fun j=>!mem tails j) n (listed.setIfInBounds i true) (act s ds) w)
  (hv:kY E A P ops.toList st0 stR tails i next D s w.heap Q):jJ E P ops (lift w0 ds Q) (fun j=>!mem tails j) (n+1) listed (act s ds) w:=by
 simp only[kY]at hv
 cases ho:zS ops.toList i with
 | none=>simp[ho]at hv
 | some o =>
  have hi:ops[i]?=some o:=by rw[← ho,← vP];simp
  obtain⟨dst,op,ty,pos,after,guard⟩:=o
  have run:∀ D D' s,Region.wanted ⟨dst,op,ty,pos,after,guard⟩ (yielded ops (act s ds).tmps)=true →
    pI E A P st0 stR tails i op ty D s w.heap (fun v l h'=>dY s dst v fun s'=>next (gD D' dst l) s' h' Q) Q →
    jJ E P ops (lift w0 ds Q) (fun j=>!mem tails j) (n+1) listed (act s ds) w:=fun D D' s hw hv =>
   aBN hE0 hEA hp hsel htails hi hw hcl hs hok hv fun v l w' hs' hk=>by rw[jI];rw[gS]at hk;exact goOn _ _ _ hs' hk
  have skip:∀ D s,Region.wanted ⟨dst,op,ty,pos,after,guard⟩ (yielded ops (act s ds).tmps)=false →
    (dY s dst undef fun s'=>next D s' w.heap Q) →
    jJ E P ops (lift w0 ds Q) (fun j=>!mem tails j) (n+1) listed (act s ds) w:=fun D s hw hk =>
   aAn hE0 hp hsel hi hw hcl hok (by rw[jI];rw[gS]at hk;exact goOn _ _ _ hs hk)
  cases guard with
  | none=>simp only[ho]at hv;exact run _ _ _ (by simp[Region.wanted]) hv
  | some gw =>
   obtain⟨j,want⟩:=gw
   simp only[ho]at hv
   cases hd:nG ops.toList j with
   | none=>simp[hd]at hv
   | some g =>
    simp only[hd]at hv
    cases hm:mem D g with
    | true =>
     simp only[hm]at hv
     split at hv
     ·rename_i hg
      have hy:=eL (ds:=ds) hd hg;cases want with
      | true=>exact run _ _ _ (by simp[Region.wanted,hy]) hv
      | false=>exact skip _ _ (by simp[Region.wanted,hy]) hv
     ·rename_i hg
      have hy:=eL (ds:=ds) hd hg;cases want with
      | false=>exact run _ _ _ (by simp[Region.wanted,hy]) hv
      | true=>exact skip _ _ (by simp[Region.wanted,hy]) hv
     ·rename_i h1 h2
      have hy:=fD (ds:=ds) (s:=s) hd (fun t e=>match t,e with|true,e=>h1 e|false,e=>h2 e);exact skip _ _ (by simp[Region.wanted,hy]) hv
    | false =>
     simp only[hm]at hv
     split at hv
     ·rename_i t hg
      have hy:=eL (ds:=ds) hd hg;cases t with
      | true =>
       have hv:=hv.y rfl
       rw[fS,iM s g _ hg]at hv
       cases want with
       | true=>exact run _ _ _ (by simp[Region.wanted,hy]) hv
       | false=>exact skip _ _ (by simp[Region.wanted,hy]) hv
      | false =>
       have hv:=hv.n rfl
       rw[fS,iM s g _ hg]at hv
       cases want with
       | false=>exact run _ _ _ (by simp[Region.wanted,hy]) hv
       | true=>exact skip _ _ (by simp[Region.wanted,hy]) hv
     ·rename_i h1
      have hy:=fD (ds:=ds) (s:=s) hd (fun t e=>h1 t e);exact skip _ _ (by simp[Region.wanted,hy]) hv
theorem aCv {i n:Nat}{next:List Nat→aVs→Heap→QQ→Prop}{D:List Nat}{s:aVs}{w:World}{listed:Array Bool}(hs:Same w0 w)(hun:unguarded ops i=true)(hst:(mem st0 i||mem stR i)=false)
  (goOn:∀ D s (w:World),Same w0 w→next D s w.heap Q→jJ E P ops (lift w0 ds Q) (fun j=>!mem tails j) n (listed.setIfInBounds i true) (act s ds) w)
  (hv:kY E A P ops.toList st0 stR tails i next D s w.heap Q) :
  wpOp P ops (lift w0 ds Q) i (fun a' w'=>((!mem tails i)=true→E w.heap w'.heap)∧jJ E P ops (lift w0 ds Q) (fun j=>!mem tails j) n (listed.setIfInBounds i true) a' w') (act s ds) w:=by
 simp only[kY]at hv
 cases ho:zS ops.toList i with
 | none=>simp[ho]at hv
 | some o =>
  have hi:ops[i]?=some o:=by rw[← ho,← vP];simp
  obtain⟨dst,op,ty,pos,after,guard⟩:=o
  cases guard with
  | some g=>simp[unguarded,hi]at hun
  | none =>
   simp only[ho]at hv
   unfold pI at hv
   simp only[Bool.or_eq_false_iff]at hst
   rw[hst.1,hst.2]at hv
   simp only[cond_false]at hv
   have fin:∀ K':KK,(∀ v l h',K' v l h'→(mem tails i=false→E w.heap h')∧dY s dst v fun s'=>next (gD D dst l) s' h' Q)→vop P op ty D s w.heap K' Q →
     wpOp P ops (lift w0 ds Q) i (fun a' w'=>((!mem tails i)=true→E w.heap w'.heap)∧jJ E P ops (lift w0 ds Q) (fun j=>!mem tails j) n (listed.setIfInBounds i true) a' w') (act s ds) w:=by
    intro K' hK' hv';unfold wpOp
    simp only[hi,Region.wanted,if_true]
    exact .inl ((pH hv').run w rfl ds dst pos after none _ _
     (fun v l w' hw' hk=>⟨fun hf=>(hK' v l _ hk).1 (by simpa using hf),by
      have h2:=(hK' v l _ hk).2
      rw[gS]at h2
      rw[jI]
      exact goOn _ _ _ (hs.trans hw') h2⟩)
     (fun c w' hw' hq=>⟨s,rfl,hs.trans hw',hq⟩))
   cases ht:mem tails i with
   | true=>rw[ht]at hv;exact ht▸fin _ (fun v l h' hk=>⟨fun h=>(by rw[ht]at h;cases h),hk⟩) hv
   | false=>rw[ht]at hv;exact ht▸fin _ (fun v l h' hk=>⟨fun _=>hk.1,hk.2⟩) hv
theorem vordT_sound (hE0:∀ h,E h h)(hEA:∀ h h' a v,E h h'→A a→bC h a=some v→bC h' a=some v)(hp:∀ c s s' h,Q (.panic c) s h→Q (.panic c) s' h)(hsel:Region.noSelect ops=true)(htails:mH ops stR tails=true) :
  ∀(t:OT) (D:List Nat) (s:aVs) (w:World) (listed:Array Bool),Same w0 w→Closed ops listed→sF ops st0 stR t listed=true→vordT E A P ops.toList st0 stR tails t D s w.heap Q →
   jJ E P ops (lift w0 ds Q) (fun j=>!mem tails j) t.size listed (act s ds) w:=by
 intro t
 induction t with
 | done=>intro D s w listed hs _ hok hv;exact⟨by simpa[sF] using hok,s,rfl,hs,hv⟩
 | one i t ih =>
  intro D s w listed hs hcl hok hv
  simp only[sF,aD8]at hok
  obtain⟨hok,hrest⟩:=hok
  have hready:i∈Region.ready .any ops listed:=by
   cases hc:(mem st0 i||mem stR i) with
   | true=>rw[hc]at hok;simp only[cond_true,aD8]at hok;simpa using hok.1
   | false=>rw[hc]at hok;simp only[cond_false,beq_iff_eq]at hok;rw[hok];simp
  exact one_sound hE0 hEA hp hsel htails hs hcl hok (fun D s w hs hv=>ih D s w _ hs (hcl.set hready) hrest hv) hv
 | fork i j t u iht ihu =>
  intro D s w listed hs hcl hok hv
  simp only[sF,aD8,beq_iff_eq,aEu]at hok
  obtain⟨⟨⟨⟨⟨⟨hr,hi⟩,hj⟩,ui⟩,uj⟩,hsz⟩,h1,h2⟩:=hok
  have ri:i∈Region.ready .any ops listed:=by rw[hr];simp
  have rj:j∈Region.ready .any ops listed:=by rw[hr];simp
  refine⟨fun h=>(by rw[h]at hr;cases hr),fun k hk=>?_⟩
  rw[hr]at hk
  rcases aEg.1 hk with rfl|hk
  ·exact aCv hs ui hi (fun D s w hs hv=>iht D s w _ hs (hcl.set ri) h1 hv) hv.1
  ·simp only[aEc]at hk
   subst hk;exact aCv hs uj hj (fun D s w hs hv=>by have:=ihu D s w _ hs (hcl.set rj) h2 hv;rw[← hsz]at this;exact this) hv.2
theorem StillVC.aDB {id:Nat}{s:aVs}{h:Heap}(b:Nat)
  (st0 stR tails:List Nat) (t:OT) (hm:P.follows .mixedOrders=true) (hok:(Region.noSelect ops&&mH ops stR tails&&sF ops st0 stR t (Array.replicate ops.size false))=true) (hlen:t.size=ops.size)
  (hp:∀ c s s' h,Q (.panic c) s h→Q (.panic c) s' h) (hv:vordT (fun h h'=>h'[b]?=h[b]?) (fun a=>a.block=b) P ops.toList st0 stR tails t [] s h Q):DrawVC P id ops s h Q where
 wp w0 w ds hw hs:=by
  subst hw
  simp only[aD8]at hok
  refine wp_region_any hm (uX (E:=fun h h'=>h'[b]?=h[b]?) (fl:=fun j=>!mem tails j) _ _ _ _ ?_);have hcl:Closed ops (Array.replicate ops.size false):=by
   intro j hj
   exfalso
   by_cases hlt:j<ops.size<;>simp[hlt]at hj
  have:=vordT_sound (P:=P) (w0:=w0) (ds:=ds) (E:=fun h h'=>h'[b]?=h[b]?) (A:=fun a=>a.block=b) (fun _=>rfl) (fun h h' a v he ha hc=>by subst ha;rw[iG he];exact hc) hp hok.1.1 hok.1.2 t [] s { w with drawn:=w.drawn+1 } _ (hs.trans ⟨rfl,rfl,rfl,by simp⟩) hcl hok.2 hv
  rw[hlen]at this
  exact this
theorem DrawVC.join {id:Nat}{N:aVs→Heap→Prop}{s:aVs}{h:Heap}(asg lv:List Nat)(I:aVs→Heap→Prop)
  (hab:DrawVC P id ops s h (onN (fun s' h'=>mask asg 0 s'=mask asg 0 s∧oX s' lv fun vs=>I vs h') Q))
  (hr:∀(vs:aVs) (junk:Nat→Value) (h':Heap),I vs h'→xP asg lv vs junk 0 s fun s1=>N s1 h'):DrawVC P id ops s h (onN N Q) where
 wp w0 w ds hw hs:=by
  have key:∀ e s' h',onN (fun s' h'=>mask asg 0 s'=mask asg 0 s∧oX s' lv fun vs=>I vs h') Q e s' h'→onN N Q e s' h':=by
   refine vQ (fun s' h' ⟨hm,hI⟩=>?_) (fun _ _ _ x=>x)
   rw[wP]at hI
   have:=hr (lv.map (sget s')) (sget s') h' hI
   rwa [xO,qN asg lv s' s s' 0 (by simp) hm]at this
  refine wp_mono (hab.wp w0 w ds hw hs) ?_;rintro e a w' ⟨s',rfl,hs',hq⟩
  exact⟨s',rfl,hs',key e s' _ hq⟩
end
end Go.Proofs.YtohlogbnpfofpaaGreatDoor
namespace Go.Proofs.YtohlogbnpfofpaaGreatDoor
open Go StillVC
theorem aCa:∀(vs cs:aVs)(off m:Nat),(lset cs off vs).take m=lset (cs.take m) off vs
 | [],_,_,_=>rfl
 | v::vs,cs,off,m=>by rw[lset,aCa vs,List.take_set,lset]
theorem StillVC.aDq {P:Program}{ty:TypeId}{s:aVs}{h:Heap}{K:KK}{Q:QQ}{h0:Base}{L:List Item}{t:TypeId}{a x:Operand}{zero vs:aVs}{by_:Nat}{agg:Bool}{v:Value}{e:TypeId}{sz n i:Nat}{xs:aVs}(o:Own h0 L h)(k:Nat)(hk:L[k]?=some (row v e sz n xs))(hT:TyI P t agg zero by_)
  (hz:zero.length=sz) (ha:ev s a=adr v (i*sz)) (hx:ev s x=.agg ⟨vs⟩) (hv:vs.length=sz) (hi:i<n) (hs0:0<sz) (h1:vs.all (fun u=>u.oneCell')=true)
  (hK:∀ h',Own h0 (L.set k (row v e sz n (lset xs (i*sz) vs))) h'→K undef false h'):RunVC P (.store t a x) ty s h K Q :=
 .of_skip fun w hw=>by
  subst hw;have hr:tR w.heap e sz v n xs:=o.sat _ (aD6 hk)
  obtain⟨hl,hr⟩:=hr
  rcases hr with ⟨rfl,rfl⟩|⟨g,cap,cur,rfl,hg,hn,hm,hs,ht⟩
  ·omega
  ·have hb:w.heap[g]?=some (.cells cur.toList.toArray e (0,0)):=by simpa using hg
   have hroom:i*sz+sz≤cap*sz:=by
    have:(i+1)*sz≤cap*sz:=Nat.mul_le_mul_right _ (by omega)
    rw[Nat.add_mul]at this;omega
   have hrun:=rV (P:=P) (b:=g) (off:=i*sz) vs 0 w cur.toList e 0 0 hb (.inl rfl) (by simp;omega) (aEh.1 h1)
   refine⟨wsets w g (i*sz) vs,?_,(iB _ w g (i*sz)).2.2,?_⟩
   ·rw[adr]at ha
    have hva:(Value.agg ⟨vs⟩).cells=⟨vs⟩:=rfl
    simp[execOp,ha,hx,Instr.storeAt,Instr.sureAddr,storeVar,hT.sizeOf,hz,hv,hva,hrun]
   ·refine hK _ (o.set hk (Nat.le_of_eq (iB _ w g (i*sz)).1.symm) (fun x _ hx=>(iB _ w g (i*sz)).2.1 x (fun e=>hx (by subst e;rfl))) ?_ (fun x hx=>.inl hx) (fun x hx=>?_))
    ·refine⟨by rw[sL];exact hl,.inr ⟨g,cap,(lset cur.toList (i*sz) vs).toArray,rfl,sets_blk _ _ _ _ _ _ _ _ hb,hn,hm,by simp[sL,hs],?_⟩⟩
     rw[← ht]
     exact aCa _ _ _ _
    ·rw[(iB _ w g (i*sz)).1];exact o.hi _ (aD6 hk) x hx
theorem opIdx_none {ts:List Tok}(h:∀ j,j<7→bD [cJ.getD j [],[40]] ts=false):gO ts=none:=by
 unfold gO
 rw[List.find?_eq_none]
 intro j hj
 rw[h j (by simpa using hj)]
 decide
theorem exprP_none {z n:Nat}{ts:List Tok}(h:gO ts=none):bV z (n+1) ts=(cI z >>= fun t=>(pure (kC (bH ts) t):PM Ex)) ts:=by
 rw[bV]
 simp only[h]
theorem kG {ts:List Tok}{i:Nat}(hi:i<7)(h:∀ j,j<i→bD [cJ.getD j [],[40]] ts=false)(hb:bD [cJ.getD i [],[40]] ts=true):gO ts=some i:=by
 unfold gO
 rw[List.find?_range_eq_some]
 exact⟨hb,by simpa using hi,fun j hj=>by rw[h j hj];rfl⟩
theorem kI {z n:Nat}{ts:List Tok}{i:Nat}(h:gO ts=some i):bV z (n+1) ts=(aX z [cJ.getD i [],[40]] >>= fun _=>bV z n >>= fun a=>ifP (qD i) (aX z [[44]] >>= fun _=>bV z n >>= fun b=>pure [a,b]) [a] >>= fun kids=>eC z i (bH ts) kids >>= fun x=>aX z [[41]] >>= fun _=>(pure x:PM Ex)) ts:=by
 rw[bV]
 simp only[h]
theorem exR_leaf (I:Item)(t:aBs)(off:Nat):mE I (xT 1 t aK aK aK [] [] 0 off) (kC off t):=by
 unfold kC
 rw[mE]
 exact⟨_,_,_,rfl,aP,aP,[],aP,trivial⟩
theorem fF {I:Item}{h:Heap}(hI:I.sat h):∀ {x:Ex}{c:aVs},mE I c x→c.all (fun u=>u.oneCell')=true
 | .mk kind table kids conds names attr as_ agg off,c,hx=>by
  rw[mE]at hx
  obtain⟨vk,vc,vn,rfl,h2,h3,xs,h4,_⟩:=hx
  obtain⟨a1,b1,rfl⟩:=h2.isS hI
  obtain⟨a2,b2,rfl⟩:=h3.isS hI
  obtain⟨a3,b3,rfl⟩:=h4.isS hI
  rfl
theorem cH {cs:aVs}{c:dM}(h:cs.length=9):lset ([]++cs) (0*9) c.1=c.1:=by
 rw[lnA,Nat.zero_mul,zY _ _ _ (by rw[c.2,h];omega)]
 simp[c.2,h]
theorem mM.callL {g:FuncId}{args:aVs}{s:aVs}{h:Heap}{K:KK}{Q:QQ}{B:Base}{L X:List Item}{bp z:Nat}{tk:Item}{bx pb n:Nat}{res:Except (Int×Nat) (Ex×List Tok)}{kind:Int}{vk:Value}{kids:List Ex}{off:Nat}
  (sp:∀ B':Base,Own B' X h→Spec Tryz.prog g args h (mM B' bp z tk bx pb n res kind vk kids off)) (o:Own B L h) (ks js:List Nat) (hd:dst (ks++js)=true) (e:pick L ks=X)
  (hret:∀ x r w' c I h',res=.ok (x,r)→restR I c kind vk kids off x→r.length≤n→cR tk w' r→Own B ([box bp [w',.int .i64 z] 72,tk,box bx c 42,box pb [.pointer (some ⟨bp,0,none⟩)] 70,I]++pick L js) h'→K (.tuple ⟨[]⟩) false h')
  (hpan:∀ e w' h',res=.error e→Own B (PSt bp z w' tk) h'→Q (.panic (lQ e)) s h'):CallVC Tryz.prog g args s h K Q:=by
 have ol:=o.lend ks js hd
 rw[e]at ol
 exact aDW (sp _ ol) (fun v h' ⟨x,r,w',c,I,h1,h2,h3,h4,h5,h6⟩=>by subst h2;exact hret x r w' c I h' h1 h3 h4 h5 h6.back) (fun c h' ⟨e,w',h1,h2,h3⟩=>by subst h2;exact hpan e w' h' h1 (h3.back.sel [0,1] rfl))
theorem eW {cs:aVs}{c d:dM}(h:cs.length=9):lset (c.1++cs) (1*9) d.1=c.1++d.1:=by
 rw[Nat.one_mul,zY _ _ _ (by rw[aD9,d.2,c.2,h];exact aEf _)]
 simp[c.2,d.2,h]
theorem xD (bx:Nat)(h:Heap):cK Tryz.prog 160 [.pointer (some ⟨bx,0,none⟩)] h fun v h'=>v=.tuple ⟨[]⟩∧Own h [] h':=by
 refine aDX Tryz.func160 rfl Tryz.ntmps160 (by kernel_rfl) ?_;have o0:=Own.refl h;refine aD0 rfl ?_
 exact⟨rfl,o0⟩
def exV (x:Ex)(v:Value)(I:Item):Prop:=∃ c:dM,v=.agg ⟨c.1⟩∧mE I c.1 x
def nE (n:Nat):Prop:=∀(level:Int)(_:level=13 - n)(B:Base)(bp z:Nat)(tk:Item)(w:Value)(ts:List Tok)(h:Heap)(_:Own B (PSt bp z w tk) h)(_:cR tk w ts)(_:ts.length≤5000),
 Spec Tryz.prog 118 [.pointer (some ⟨bp,0,none⟩),.int .i64 level] h (dB B bp z tk ts.length (bV z n ts) exV)
theorem expr_zero:nE 0:=by
 intro level hlv B bp z tk w ts h o hR hl;refine aDX Tryz.func118 rfl Tryz.ntmps118 (by kernel_rfl) ?_;(refine aDP o aU ?_;intro b10 m10 o10);refine aDR (fun c11=>?_) (fun hc=>absurd (by omega) hc);refine aDW (lU 3 bp z w ts _ (Own.cellB ‹_› 0 rfl 0) (Own.cellB ‹_› 0 rfl 1) (Own.reads ‹_› 1 hR.1 rfl)) (fun _ _ h=>h.elim) (fun c h4 ⟨hc,ho⟩=>?_)
 exact⟨_,w,rfl,hc,(ho.thenE ‹_›).sel [0,1] rfl⟩
theorem expr_leaf (n:Nat)(hn:n≤11)(ih:nE n):∀(level:Int)(_:level=13 - ((n+1:Nat):Int))(B:Base)(bp z:Nat)(tk:Item)(w:Value)(ts:List Tok)(h:Heap)(_:Own B (PSt bp z w tk) h)(_:cR tk w ts)(_:ts.length≤5000)(_:∀ j,j<7→bD [cJ.getD j [],[40]] ts=false),
  Spec Tryz.prog 118 [.pointer (some ⟨bp,0,none⟩),.int .i64 level] h (dB B bp z tk ts.length (bV z (n+1) ts) exV):=by
 intro level hlv B bp z tk w ts h o hR hl hno
 obtain⟨hRd,hK⟩:=hR
 have hR:cR tk w ts:=⟨hRd,hK⟩;refine aDX Tryz.func118 rfl Tryz.ntmps118 (by kernel_rfl) ?_;(refine aDP o aU ?_;intro b10 m10 o10);refine aDR (fun hc=>absurd hc (by omega)) (fun c11=>?_);refine rR (aDl aM ?_);refine aI rfl ?_;(refine aDP o10 aU ?_;intro b13 m13 o13);(refine aDh o13 3 rfl aU rfl (by decide) (aI ⟨rfl,rfl⟩ ?_);intro m14 o14);refine rR (nC rfl ?_);refine rR (fA fW rfl rfl rfl ?_);refine rR (aDe o14 0 rfl eX rfl rfl ?_);refine rR (aDE (o14.reads 1 hRd rfl) fX ?_);refine Br.join [19,20,21,22,23,24,25,26] [] (fun _ hh=>Own B [box bp [w,.int .i64 z] 72,tk,box b10 [.int .i64 0,.string ⟨⟨[]⟩⟩,aK,aK,aK,.string ⟨⟨[]⟩⟩,.string ⟨⟨[]⟩⟩,.int .i64 0,.int .i64 0] 42,box b13 [.int .i64 1,.string ⟨⟨[]⟩⟩,aK,aK,aK,.string ⟨⟨[]⟩⟩,.string ⟨⟨[]⟩⟩,.int .i64 0,.int .i64 (bH ts)] 42] hh) rfl rfl ?_ ?_
 ·cases ts with
  | nil =>
   refine aDT ?_
   refine⟨rfl,?_⟩
   exact o14
  | cons t r =>
   have hx:(t::r)[0]?=some t:=rfl;have hln:(t::r).length=r.length+1:=rfl;refine aDR (fun c30=>?_) (fun hc=>absurd (by omega) hc);refine rR (nC rfl ?_);refine rR (fA fW rfl rfl rfl ?_);refine rR (aDe o14 0 rfl eX rfl rfl ?_);refine rR (aDo fX bF (o14.reads 1 hRd rfl) rfl (by omega) (by omega) ?_);refine rR (aDv (o14.reads 1 hRd rfl) (by omega) eZ rfl rfl rfl ?_);refine rR (aDC (o14.reads 1 hRd rfl) aY (fun _=>rfl) rfl ‹_› rfl ?_);refine rR (fA aM rfl rfl rfl ?_);(refine aDh o14 3 rfl aY rfl (by decide) (aI ⟨rfl,rfl⟩ ?_);intro m38 o38)
   refine⟨rfl,?_⟩
   exact Own.sel ‹_› [0,1,2,3] rfl
 ·intro vs junk hh oh
  refine aDV (eV bp _) ?_;rintro _ h2 ⟨bo,pb,rfl,oc⟩;have o2:=oh.call oc
  simp only[lcA,lnA]at o2
  clear oc;refine rR (aDn rfl eD ?_);refine aD1 [6,7,30,31,32,33,34,35,36,37,38,39,40,41,42,43,44,45,46,47,48,49,50,51,52,53,54,55,56,57,58,59,60,61,62,63,64,65,66,67,68,69,70,71,72,73,74,75,76,77,78,79,80,81,82,83] [30] (fun vs hh=>∃(i:Nat),i≤7∧vs=[.int .i64 i]∧Own B [box bp [w,.int .i64 z] 72,tk,box b10 [.int .i64 0,.string ⟨⟨[]⟩⟩,aK,aK,aK,.string ⟨⟨[]⟩⟩,.string ⟨⟨[]⟩⟩,.int .i64 0,.int .i64 0] 42,box b13 [.int .i64 1,.string ⟨⟨[]⟩⟩,aK,aK,aK,.string ⟨⟨[]⟩⟩,.string ⟨⟨[]⟩⟩,.int .i64 0,.int .i64 (bH ts)] 42,box pb [.pointer (some ⟨bp,0,none⟩)] 70,box bo (sH pb) 188] hh) (fun vs _=>match vs with|[.int _ i]=>7 - i.toNat|_=>0) ?_ ?_
  ·exact⟨0,by omega,rfl,o2⟩
  ·rintro vs' junk' h3 ⟨i,hi,rfl,o3⟩
   clear o14 oh o2;have hoL:(sH pb).length=7*3:=rfl
   rcases(by omega:i=0∨i=1∨i=2∨i=3∨i=4∨i=5∨i=6∨i=7) with rfl|rfl|rfl|rfl|rfl|rfl|rfl|rfl
   ·refine aDS ?_
    refine rR (aDo eD aW (o3.boxArrN 5 rfl ‹_› (by omega)) rfl (by omega) (by omega) ?_);refine rR (aDi o3 5 rfl aW rfl rfl rfl ?_);(refine aDP o3 aW ?_;intro b1002 m1002 o1002);(refine aDh o1002 6 rfl aW rfl (by decide) (aI ⟨rfl,rfl⟩ ?_);intro m1003 o1003);refine rR (fA cM rfl rfl rfl ?_);refine rR (aDe o1003 6 rfl aO rfl rfl ?_);(refine aDO o1003 aJ aO rfl rfl (by decide) (aI rfl ?_);intro b1006 m1006 o1006);refine aDV (bQ [[115,101,108,101,99,116],[40]] _ bp w ts _ (Own.cellB ‹_› 0 rfl 0) (Own.reads ‹_› 1 hR.1 rfl) (Own.boxArr ‹_› 7 rfl rfl (by decide)) hl) ?_;rintro _ h4 ⟨rv,oc⟩;have o4:=oc.thenE ‹_›;clear oc;have hb:bD [[115,101,108,101,99,116],[40]] ts=false:=hno 0 (by decide)
    rw[hb]at rv
    subst rv;refine aDS ?_;refine aDY (by omega) (by omega) ?_
    refine⟨rfl,?_⟩
    exact⟨⟨1,by omega,rfl,Own.sel ‹_› [0,1,2,3,4,5] rfl⟩,by simp⟩
   ·refine aDS ?_
    refine rR (aDo eD aW (o3.boxArrN 5 rfl ‹_› (by omega)) rfl (by omega) (by omega) ?_);refine rR (aDi o3 5 rfl aW rfl rfl rfl ?_);(refine aDP o3 aW ?_;intro b2002 m2002 o2002);(refine aDh o2002 6 rfl aW rfl (by decide) (aI ⟨rfl,rfl⟩ ?_);intro m2003 o2003);refine rR (fA cM rfl rfl rfl ?_);refine rR (aDe o2003 6 rfl aO rfl rfl ?_);(refine aDO o2003 aJ aO rfl rfl (by decide) (aI rfl ?_);intro b2006 m2006 o2006);refine aDV (bQ [[112,114,111,106,101,99,116],[40]] _ bp w ts _ (Own.cellB ‹_› 0 rfl 0) (Own.reads ‹_› 1 hR.1 rfl) (Own.boxArr ‹_› 7 rfl rfl (by decide)) hl) ?_;rintro _ h4 ⟨rv,oc⟩;have o4:=oc.thenE ‹_›;clear oc;have hb:bD [[112,114,111,106,101,99,116],[40]] ts=false:=hno 1 (by decide)
    rw[hb]at rv
    subst rv;refine aDS ?_;refine aDY (by omega) (by omega) ?_
    refine⟨rfl,?_⟩
    exact⟨⟨2,by omega,rfl,Own.sel ‹_› [0,1,2,3,4,5] rfl⟩,by simp⟩
   ·refine aDS ?_
    refine rR (aDo eD aW (o3.boxArrN 5 rfl ‹_› (by omega)) rfl (by omega) (by omega) ?_);refine rR (aDi o3 5 rfl aW rfl rfl rfl ?_);(refine aDP o3 aW ?_;intro b3002 m3002 o3002);(refine aDh o3002 6 rfl aW rfl (by decide) (aI ⟨rfl,rfl⟩ ?_);intro m3003 o3003);refine rR (fA cM rfl rfl rfl ?_);refine rR (aDe o3003 6 rfl aO rfl rfl ?_);(refine aDO o3003 aJ aO rfl rfl (by decide) (aI rfl ?_);intro b3006 m3006 o3006);refine aDV (bQ [[106,111,105,110],[40]] _ bp w ts _ (Own.cellB ‹_› 0 rfl 0) (Own.reads ‹_› 1 hR.1 rfl) (Own.boxArr ‹_› 7 rfl rfl (by decide)) hl) ?_;rintro _ h4 ⟨rv,oc⟩;have o4:=oc.thenE ‹_›;clear oc;have hb:bD [[106,111,105,110],[40]] ts=false:=hno 2 (by decide)
    rw[hb]at rv
    subst rv;refine aDS ?_;refine aDY (by omega) (by omega) ?_
    refine⟨rfl,?_⟩
    exact⟨⟨3,by omega,rfl,Own.sel ‹_› [0,1,2,3,4,5] rfl⟩,by simp⟩
   ·refine aDS ?_
    refine rR (aDo eD aW (o3.boxArrN 5 rfl ‹_› (by omega)) rfl (by omega) (by omega) ?_);refine rR (aDi o3 5 rfl aW rfl rfl rfl ?_);(refine aDP o3 aW ?_;intro b4002 m4002 o4002);(refine aDh o4002 6 rfl aW rfl (by decide) (aI ⟨rfl,rfl⟩ ?_);intro m4003 o4003);refine rR (fA cM rfl rfl rfl ?_);refine rR (aDe o4003 6 rfl aO rfl rfl ?_);(refine aDO o4003 aJ aO rfl rfl (by decide) (aI rfl ?_);intro b4006 m4006 o4006);refine aDV (bQ [[117,110,105,111,110],[40]] _ bp w ts _ (Own.cellB ‹_› 0 rfl 0) (Own.reads ‹_› 1 hR.1 rfl) (Own.boxArr ‹_› 7 rfl rfl (by decide)) hl) ?_;rintro _ h4 ⟨rv,oc⟩;have o4:=oc.thenE ‹_›;clear oc;have hb:bD [[117,110,105,111,110],[40]] ts=false:=hno 3 (by decide)
    rw[hb]at rv
    subst rv;refine aDS ?_;refine aDY (by omega) (by omega) ?_
    refine⟨rfl,?_⟩
    exact⟨⟨4,by omega,rfl,Own.sel ‹_› [0,1,2,3,4,5] rfl⟩,by simp⟩
   ·refine aDS ?_
    refine rR (aDo eD aW (o3.boxArrN 5 rfl ‹_› (by omega)) rfl (by omega) (by omega) ?_);refine rR (aDi o3 5 rfl aW rfl rfl rfl ?_);(refine aDP o3 aW ?_;intro b5002 m5002 o5002);(refine aDh o5002 6 rfl aW rfl (by decide) (aI ⟨rfl,rfl⟩ ?_);intro m5003 o5003);refine rR (fA cM rfl rfl rfl ?_);refine rR (aDe o5003 6 rfl aO rfl rfl ?_);(refine aDO o5003 aJ aO rfl rfl (by decide) (aI rfl ?_);intro b5006 m5006 o5006);refine aDV (bQ [[109,105,110,117,115],[40]] _ bp w ts _ (Own.cellB ‹_› 0 rfl 0) (Own.reads ‹_› 1 hR.1 rfl) (Own.boxArr ‹_› 7 rfl rfl (by decide)) hl) ?_;rintro _ h4 ⟨rv,oc⟩;have o4:=oc.thenE ‹_›;clear oc;have hb:bD [[109,105,110,117,115],[40]] ts=false:=hno 4 (by decide)
    rw[hb]at rv
    subst rv;refine aDS ?_;refine aDY (by omega) (by omega) ?_
    refine⟨rfl,?_⟩
    exact⟨⟨5,by omega,rfl,Own.sel ‹_› [0,1,2,3,4,5] rfl⟩,by simp⟩
   ·refine aDS ?_
    refine rR (aDo eD aW (o3.boxArrN 5 rfl ‹_› (by omega)) rfl (by omega) (by omega) ?_);refine rR (aDi o3 5 rfl aW rfl rfl rfl ?_);(refine aDP o3 aW ?_;intro b6002 m6002 o6002);(refine aDh o6002 6 rfl aW rfl (by decide) (aI ⟨rfl,rfl⟩ ?_);intro m6003 o6003);refine rR (fA cM rfl rfl rfl ?_);refine rR (aDe o6003 6 rfl aO rfl rfl ?_);(refine aDO o6003 aJ aO rfl rfl (by decide) (aI rfl ?_);intro b6006 m6006 o6006);refine aDV (bQ [[114,101,110,97,109,101],[40]] _ bp w ts _ (Own.cellB ‹_› 0 rfl 0) (Own.reads ‹_› 1 hR.1 rfl) (Own.boxArr ‹_› 7 rfl rfl (by decide)) hl) ?_;rintro _ h4 ⟨rv,oc⟩;have o4:=oc.thenE ‹_›;clear oc;have hb:bD [[114,101,110,97,109,101],[40]] ts=false:=hno 5 (by decide)
    rw[hb]at rv
    subst rv;refine aDS ?_;refine aDY (by omega) (by omega) ?_
    refine⟨rfl,?_⟩
    exact⟨⟨6,by omega,rfl,Own.sel ‹_› [0,1,2,3,4,5] rfl⟩,by simp⟩
   ·refine aDS ?_
    refine rR (aDo eD aW (o3.boxArrN 5 rfl ‹_› (by omega)) rfl (by omega) (by omega) ?_);refine rR (aDi o3 5 rfl aW rfl rfl rfl ?_);(refine aDP o3 aW ?_;intro b7002 m7002 o7002);(refine aDh o7002 6 rfl aW rfl (by decide) (aI ⟨rfl,rfl⟩ ?_);intro m7003 o7003);refine rR (fA cM rfl rfl rfl ?_);refine rR (aDe o7003 6 rfl aO rfl rfl ?_);(refine aDO o7003 aJ aO rfl rfl (by decide) (aI rfl ?_);intro b7006 m7006 o7006);refine aDV (bQ [[103,114,111,117,112],[40]] _ bp w ts _ (Own.cellB ‹_› 0 rfl 0) (Own.reads ‹_› 1 hR.1 rfl) (Own.boxArr ‹_› 7 rfl rfl (by decide)) hl) ?_;rintro _ h4 ⟨rv,oc⟩;have o4:=oc.thenE ‹_›;clear oc;have hb:bD [[103,114,111,117,112],[40]] ts=false:=hno 6 (by decide)
    rw[hb]at rv
    subst rv;refine aDS ?_;refine aDY (by omega) (by omega) ?_
    refine⟨rfl,?_⟩
    exact⟨⟨7,by omega,rfl,Own.sel ‹_› [0,1,2,3,4,5] rfl⟩,by simp⟩
   ·have hE:bV z (n+1) ts=(cI z >>= fun t=>(pure (kC (bH ts) t):PM Ex)) ts:=exprP_none (opIdx_none hno)
    refine aDT ?_;refine cO.callL ‹_› rfl hR (by omega) (fun a q w2 v h4 hm hv hle hR2 oq=>?_) (fun e w2 h4 hm o2=>⟨e,w2,hE.trans (aDg hm),rfl,o2⟩);subst hv
    rw[aDf hm]at hE
    have o9:=oq
    simp only[PSt,pick,lcA,lnA,lgS,lgZ,lgN]at o9
    clear oq hm;refine rR (fA aM rfl rfl rfl ?_);(refine aDN o9 3 rfl aO rfl (by simp) (aI ⟨rfl,rfl⟩ ?_);intro m71 o71);refine rR (aDi o71 3 rfl aU rfl rfl rfl ?_);(refine aDh o71 2 rfl aU rfl (by decide) (aI ⟨rfl,rfl⟩ ?_);intro m73 o73)
    first|refine aDt rfl o73 2 rfl aU rfl rfl ?_|refine aDs rfl o73 2 rfl aU rfl rfl ?_|refine RetVC.cellTT rfl o73 2 rfl aU rfl rfl ?_
    exact⟨kC (bH ts) a,q,w2,iF,hE,⟨⟨xT 1 a aK aK aK [] [] 0 (bH ts),rfl⟩,rfl,exR_leaf _ _ _⟩,by omega,hR2,(Own.sel ‹_› [0,1] rfl).emptyI'.sel [1,2,0] rfl⟩
theorem expr_select (n:Nat)(hn:n≤11)(ih:nE n):∀(level:Int)(_:level=13 - ((n+1:Nat):Int))(B:Base)(bp z:Nat)(tk:Item)(w:Value)(ts:List Tok)(h:Heap)(_:Own B (PSt bp z w tk) h)(_:cR tk w ts)(_:ts.length≤5000)(_:∀ j,j<0→bD [cJ.getD j [],[40]] ts=false)(_:bD [[115,101,108,101,99,116],[40]] ts=true),
  Spec Tryz.prog 118 [.pointer (some ⟨bp,0,none⟩),.int .i64 level] h (dB B bp z tk ts.length (bV z (n+1) ts) exV):=by
 intro level hlv B bp z tk w ts h o hR hl hno hb
 obtain⟨hRd,hK⟩:=hR
 have hR:cR tk w ts:=⟨hRd,hK⟩;refine aDX Tryz.func118 rfl Tryz.ntmps118 (by kernel_rfl) ?_;(refine aDP o aU ?_;intro b10 m10 o10);refine aDR (fun hc=>absurd hc (by omega)) (fun c11=>?_);refine rR (aDl aM ?_);refine aI rfl ?_;(refine aDP o10 aU ?_;intro b13 m13 o13);(refine aDh o13 3 rfl aU rfl (by decide) (aI ⟨rfl,rfl⟩ ?_);intro m14 o14);refine rR (nC rfl ?_);refine rR (fA fW rfl rfl rfl ?_);refine rR (aDe o14 0 rfl eX rfl rfl ?_);refine rR (aDE (o14.reads 1 hRd rfl) fX ?_);refine Br.join [19,20,21,22,23,24,25,26] [] (fun _ hh=>Own B [box bp [w,.int .i64 z] 72,tk,box b10 [.int .i64 0,.string ⟨⟨[]⟩⟩,aK,aK,aK,.string ⟨⟨[]⟩⟩,.string ⟨⟨[]⟩⟩,.int .i64 0,.int .i64 0] 42,box b13 [.int .i64 1,.string ⟨⟨[]⟩⟩,aK,aK,aK,.string ⟨⟨[]⟩⟩,.string ⟨⟨[]⟩⟩,.int .i64 0,.int .i64 (bH ts)] 42] hh) rfl rfl ?_ ?_
 ·cases ts with
  | nil =>
   refine aDT ?_
   refine⟨rfl,?_⟩
   exact o14
  | cons t r =>
   have hx:(t::r)[0]?=some t:=rfl;have hln:(t::r).length=r.length+1:=rfl;refine aDR (fun c30=>?_) (fun hc=>absurd (by omega) hc);refine rR (nC rfl ?_);refine rR (fA fW rfl rfl rfl ?_);refine rR (aDe o14 0 rfl eX rfl rfl ?_);refine rR (aDo fX bF (o14.reads 1 hRd rfl) rfl (by omega) (by omega) ?_);refine rR (aDv (o14.reads 1 hRd rfl) (by omega) eZ rfl rfl rfl ?_);refine rR (aDC (o14.reads 1 hRd rfl) aY (fun _=>rfl) rfl ‹_› rfl ?_);refine rR (fA aM rfl rfl rfl ?_);(refine aDh o14 3 rfl aY rfl (by decide) (aI ⟨rfl,rfl⟩ ?_);intro m38 o38)
   refine⟨rfl,?_⟩
   exact Own.sel ‹_› [0,1,2,3] rfl
 ·intro vs junk hh oh
  refine aDV (eV bp _) ?_;rintro _ h2 ⟨bo,pb,rfl,oc⟩;have o2:=oh.call oc
  simp only[lcA,lnA]at o2
  clear oc;refine rR (aDn rfl eD ?_);refine aD1 [6,7,30,31,32,33,34,35,36,37,38,39,40,41,42,43,44,45,46,47,48,49,50,51,52,53,54,55,56,57,58,59,60,61,62,63,64,65,66,67,68,69,70,71,72,73,74,75,76,77,78,79,80,81,82,83] [30] (fun vs hh=>∃(i:Nat),i≤0∧vs=[.int .i64 i]∧Own B [box bp [w,.int .i64 z] 72,tk,box b10 [.int .i64 0,.string ⟨⟨[]⟩⟩,aK,aK,aK,.string ⟨⟨[]⟩⟩,.string ⟨⟨[]⟩⟩,.int .i64 0,.int .i64 0] 42,box b13 [.int .i64 1,.string ⟨⟨[]⟩⟩,aK,aK,aK,.string ⟨⟨[]⟩⟩,.string ⟨⟨[]⟩⟩,.int .i64 0,.int .i64 (bH ts)] 42,box pb [.pointer (some ⟨bp,0,none⟩)] 70,box bo (sH pb) 188] hh) (fun vs _=>match vs with|[.int _ i]=>7 - i.toNat|_=>0) ?_ ?_
  ·exact⟨0,by omega,rfl,o2⟩
  ·rintro vs' junk' h3 ⟨i,hi,rfl,o3⟩
   clear o14 oh o2;have hoL:(sH pb).length=7*3:=rfl
   rcases(by omega:i=0) with rfl
   ·refine aDS ?_
    refine rR (aDo eD aW (o3.boxArrN 5 rfl ‹_› (by omega)) rfl (by omega) (by omega) ?_);refine rR (aDi o3 5 rfl aW rfl rfl rfl ?_);(refine aDP o3 aW ?_;intro b1002 m1002 o1002);(refine aDh o1002 6 rfl aW rfl (by decide) (aI ⟨rfl,rfl⟩ ?_);intro m1003 o1003);refine rR (fA cM rfl rfl rfl ?_);refine rR (aDe o1003 6 rfl aO rfl rfl ?_);(refine aDO o1003 aJ aO rfl rfl (by decide) (aI rfl ?_);intro b1006 m1006 o1006);refine aDV (bQ [[115,101,108,101,99,116],[40]] _ bp w ts _ (Own.cellB ‹_› 0 rfl 0) (Own.reads ‹_› 1 hR.1 rfl) (Own.boxArr ‹_› 7 rfl rfl (by decide)) hl) ?_;rintro _ h4 ⟨rv,oc⟩;have o4:=oc.thenE ‹_›;clear oc
    rw[hb]at rv
    subst rv;have hE:bV z (n+1) ts=(aX z [[115,101,108,101,99,116],[40]] >>= fun _=>bV z n >>= fun a=>ifP (qD 0) (aX z [[44]] >>= fun _=>bV z n >>= fun b=>pure [a,b]) [a] >>= fun kids=>eC z 0 (bH ts) kids >>= fun x=>aX z [[41]] >>= fun _=>(pure x:PM Ex)) ts:=kI (kG (by decide) hno hb);have o5:=o4.sel [0,1,2,3,4,6] rfl
    simp only[PSt,pick,lcA,lnA,lgS,lgZ,lgN]at o5
    clear o3 o4;refine aDT ?_;refine aDY (by omega) (by omega) ?_;refine rR (fA aM rfl rfl rfl ?_);(refine aDN o5 3 rfl aY rfl (by simp) (aI ⟨rfl,rfl⟩ ?_);intro m1041 o1041);refine rR (fA cM rfl rfl rfl ?_);refine rR (aDe o1041 5 rfl aO rfl rfl ?_);(refine aDO o1041 aJ aO rfl rfl (by decide) (aI rfl ?_);intro b1044 m1044 o1044);refine aV (ss:=[[115,101,108,101,99,116],[40]]) ‹_› rfl ⟨6,by decide,rfl⟩ hR (by omega) (by decide) (fun _ q1 w1 v h5 hm hv hle1 hR1 oq=>?_) (fun e w' h' hm o2=>⟨e,w',hE.trans (aDg hm),rfl,o2⟩);subst hv
    rw[aDf hm]at hE
    have o6:=oq.sel [0,1,2,3,4,5] rfl
    simp only[PSt,pick,lcA,lnA,lgS,lgZ,lgN]at o6
    clear oq hm;refine DrawVC.join [49,50,51,52,53,54,55,56,57,58,59] [] (fun _ hh=>∃(a1:Ex) (q2:List Tok) (w2:Value) (c1:dM) (I1:Item) (ua:Option Addr) (uc:Nat),bV z n q1=.ok (a1,q2)∧q2.length≤q1.length∧cR tk w2 q2∧mE I1 c1.1 a1∧Own B [box bp [w2,.int .i64 z] 72,tk,I1,box b10 [.int .i64 0,.string ⟨⟨[]⟩⟩,aK,aK,aK,.string ⟨⟨[]⟩⟩,.string ⟨⟨[]⟩⟩,.int .i64 0,.int .i64 0] 42,box b13 [.int .i64 2,.string ⟨⟨[]⟩⟩,.slice ua 1 uc,aK,aK,.string ⟨⟨[]⟩⟩,.string ⟨⟨[]⟩⟩,.int .i64 0,.int .i64 (bH ts)] 42,box pb [.pointer (some ⟨bp,0,none⟩)] 70,box b1002 [.string ⟨⟨[115,101,108,101,99,116]⟩⟩,.bool false,.func (.func 161) ⟨[]⟩ ⟨[.pointer (some ⟨pb,0,none⟩)]⟩] 188,row (.slice ua 1 uc) 42 9 1 c1.1] hh) ?_ ?_
    ·refine aDB b13 [0,2,3,4,6,9,11] [1] [8,10,12] (.one 0 (.one 1 (.one 2 (.one 3 (.one 4 (.one 6 (.fork 5 7 (.one 7 (.one 8 (.one 9 (.one 11 (.fork 10 12 (.one 12 .done) (.one 10 .done)))))) (.one 5 (.one 8 (.one 9 (.one 11 (.fork 10 12 (.one 12 .done) (.one 10 .done))))))))))))) mixed (by kernel_rfl) rfl (fun _ _ _ _ h=>h) ?_
     refine fA aM rfl rfl rfl ?_;refine StillVCA.load1 dC rfl rfl ((o6.cellB 3 rfl _).trans rfl) ?_;refine aDY (by omega) (by omega) ?_;refine aDn rfl cE ?_
     refine⟨?_,?_⟩
     ·skip
      refine dB.callL (fun B' o'=>ih (level+1) (by omega) B' bp z tk _ _ _ o' hR1 (by omega)) ‹_› rfl (fun a1 q2 w2 v I1 h6 hm hv hle2 hR2 oq=>?_) (fun e w' h' hm o2=>⟨e,w',hE.trans (aDg hm),rfl,o2⟩)
      obtain⟨c1,rfl,hx1⟩:=hv
      have o7:=oq
      simp only[PSt,pick,lcA,lnA,lgS,lgZ,lgN]at o7
      clear oq
      refine⟨Eq.trans (Own.satK o7 4 rfl) (Eq.symm (Own.satK (x:=box b13 _ _) ‹_› 3 rfl)),?_⟩
      have one1:=fF (Own.satK o7 2 rfl) hx1;(refine aDD o7 cE aU rfl rfl (by decide) ?_);refine aI rfl ?_;intro b1101 m1101 o1101;refine aI ((o1101.boxBlk 4 rfl).trans (o7.boxBlk 4 rfl).symm) ?_;have on:=Own.nilRow ‹_› 42 9
      simp only[lcA,lnA]at on
      refine aDQ on 8 rfl cE aU (by decide) (Own.boxArrN on 7 rfl (n:=1) rfl (by omega)) (by simp[Value.oneCell']) (by simp only[maxLen];omega) (by omega) ?_;intro vA mA oA
      obtain⟨ua,uc,rfl⟩:=oA.rowIs 8 rfl
      refine aDo cE aU (oA.rowArrN 8 rfl) rfl (by omega) (by omega) ?_;refine fA aM rfl rfl rfl ?_
      refine⟨?_,?_⟩
      ·skip
       refine aDq (i:=0) ‹_› 8 rfl aU rfl rfl rfl c1.2 (by decide) (by decide) one1 ?_;intro mB oB
       simp only[lsS,lsZ]at oB
       (refine aDN oB 4 rfl dC rfl (by simp) (aI ⟨rfl,rfl⟩ ?_);intro m1140 o1140)
       refine⟨rfl,?_⟩
       have ef:=cH (cs:=[.int .i64 0,.string ⟨⟨[]⟩⟩,aK,aK,aK,.string ⟨⟨[]⟩⟩,.string ⟨⟨[]⟩⟩,.int .i64 0,.int .i64 0]) (c:=c1) rfl
       exact⟨a1,q2,w2,c1,I1,ua,uc,hm,hle2,hR2,hx1,ef▸Own.sel ‹_› [0,1,2,3,4,5,6,8] rfl⟩
      ·skip
       (refine aDN oA 4 rfl dC rfl (by simp) (aI ⟨rfl,rfl⟩ ?_);intro m1150 o1150);refine aDq (i:=0) ‹_› 8 rfl aU rfl rfl rfl c1.2 (by decide) (by decide) one1 ?_;intro mB oB
       simp only[lsS,lsZ]at oB
       refine⟨rfl,?_⟩
       have ef:=cH (cs:=[.int .i64 0,.string ⟨⟨[]⟩⟩,aK,aK,aK,.string ⟨⟨[]⟩⟩,.string ⟨⟨[]⟩⟩,.int .i64 0,.int .i64 0]) (c:=c1) rfl
       exact⟨a1,q2,w2,c1,I1,ua,uc,hm,hle2,hR2,hx1,ef▸Own.sel ‹_› [0,1,2,3,4,5,6,8] rfl⟩
     ·skip
      (refine aDD o6 cE aU rfl rfl (by decide) ?_);refine aI rfl ?_;intro b1281 m1281 o1281;refine aI ((o1281.boxBlk 3 rfl).trans (o6.boxBlk 3 rfl).symm) ?_;refine dB.callL (fun B' o'=>ih (level+1) (by omega) B' bp z tk _ _ _ o' hR1 (by omega)) ‹_› rfl (fun a1 q2 w2 v I1 h6 hm hv hle2 hR2 oq=>?_) (fun e w' h' hm o2=>⟨e,w',hE.trans (aDg hm),rfl,o2⟩)
      obtain⟨c1,rfl,hx1⟩:=hv
      have o7:=oq
      simp only[PSt,pick,lcA,lnA,lgS,lgZ,lgN]at o7
      clear oq
      refine⟨Eq.trans (Own.satK o7 4 rfl) (Eq.symm (Own.satK (x:=box b13 _ _) ‹_› 3 rfl)),?_⟩
      have one1:=fF (Own.satK o7 2 rfl) hx1;have on:=Own.nilRow ‹_› 42 9
      simp only[lcA,lnA]at on
      refine aDQ on 8 rfl cE aU (by decide) (Own.boxArrN on 7 rfl (n:=1) rfl (by omega)) (by simp[Value.oneCell']) (by simp only[maxLen];omega) (by omega) ?_;intro vA mA oA
      obtain⟨ua,uc,rfl⟩:=oA.rowIs 8 rfl
      refine aDo cE aU (oA.rowArrN 8 rfl) rfl (by omega) (by omega) ?_;refine fA aM rfl rfl rfl ?_
      refine⟨?_,?_⟩
      ·skip
       refine aDq (i:=0) ‹_› 8 rfl aU rfl rfl rfl c1.2 (by decide) (by decide) one1 ?_;intro mB oB
       simp only[lsS,lsZ]at oB
       (refine aDN oB 4 rfl dC rfl (by simp) (aI ⟨rfl,rfl⟩ ?_);intro m1340 o1340)
       refine⟨rfl,?_⟩
       have ef:=cH (cs:=[.int .i64 0,.string ⟨⟨[]⟩⟩,aK,aK,aK,.string ⟨⟨[]⟩⟩,.string ⟨⟨[]⟩⟩,.int .i64 0,.int .i64 0]) (c:=c1) rfl
       exact⟨a1,q2,w2,c1,I1,ua,uc,hm,hle2,hR2,hx1,ef▸Own.sel ‹_› [0,1,2,3,4,5,6,8] rfl⟩
      ·skip
       (refine aDN oA 4 rfl dC rfl (by simp) (aI ⟨rfl,rfl⟩ ?_);intro m1350 o1350);refine aDq (i:=0) ‹_› 8 rfl aU rfl rfl rfl c1.2 (by decide) (by decide) one1 ?_;intro mB oB
       simp only[lsS,lsZ]at oB
       refine⟨rfl,?_⟩
       have ef:=cH (cs:=[.int .i64 0,.string ⟨⟨[]⟩⟩,aK,aK,aK,.string ⟨⟨[]⟩⟩,.string ⟨⟨[]⟩⟩,.int .i64 0,.int .i64 0]) (c:=c1) rfl
       exact⟨a1,q2,w2,c1,I1,ua,uc,hm,hle2,hR2,hx1,ef▸Own.sel ‹_› [0,1,2,3,4,5,6,8] rfl⟩
    ·rintro _ junk2 h7 ⟨a1,q2,w2,c1,I1,ua,uc,hm,hle2,hR2,hx1,o8⟩
     rw[aDf hm]at hE
     rw[nB (by rfl),aDu]at hE
     refine rR (fA cM rfl rfl rfl ?_);refine rR (aDe o8 6 rfl ty4 rfl rfl ?_);refine aDT ?_;refine aD2 ?_;refine rR (fA cM rfl rfl rfl ?_);refine rR (aDe o8 6 rfl aAj rfl rfl ?_);refine mM.callL (fun B' o'=>rest0_spec (bH ts) (.slice ua 1 uc) [a1] B' bp z tk b13 pb w2 q2 h7 o' hR2 (by omega)) o8 [0,1,4,5] [2,3,7] rfl rfl (fun x q3 w3 c J h8 hm3 hJ hle3 hR3 oq=>?_) (fun e w' h' hm3 o2=>⟨e,w',hE.trans (aDg hm3),rfl,o2⟩)
     rw[aDf hm3]at hE
     obtain⟨vc,vn,cs,ns,at_,as_,ag,rfl,rfl,rc,rn⟩:=hJ
     unfold xT at oq;have o9:=oq
     simp only[PSt,pick,lcA,lnA,lgS,lgZ,lgN]at o9
     clear oq o8
     obtain⟨xa,xb,rfl⟩:=rc.isS (Own.satK o9 4 rfl)
     obtain⟨ya,yb,rfl⟩:=rn.isS (Own.satK o9 4 rfl)
     (refine aDO o9 aJ aO rfl rfl (by decide) (aI rfl ?_);intro b1520 m1520 o1520);refine aV (ss:=[[41]]) ‹_› rfl ⟨8,by decide,rfl⟩ hR3 (by omega) (by decide) (fun _ q4 w4 v h9 hm4 hv hle4 hR4 oq=>?_) (fun e w' h' hm o2=>⟨e,w',hE.trans (aDg hm),rfl,o2⟩);subst hv
     rw[aDf hm4]at hE
     have o10:=oq
     simp only[PSt,pick,lcA,lnA,lgS,lgZ,lgN]at o10
     clear oq o9;refine rR (aDi o10 2 rfl aU rfl rfl rfl ?_);(refine aDh o10 6 rfl aU rfl (by decide) (aI ⟨rfl,rfl⟩ ?_);intro m1541 o1541)
     first|refine aDt rfl o1541 6 rfl aU rfl rfl ?_|refine aDs rfl o1541 6 rfl aU rfl rfl ?_|refine RetVC.cellTT rfl o1541 6 rfl aU rfl rfl ?_
     have er:[c1].flatMap Subtype.val=c1.1:=by simp
     exact⟨_,q4,w4,eK (eK J I1) (row (.slice ua 1 uc) 42 9 1 c1.1),hE,⟨⟨xT 2 [] (.slice ua 1 uc) (.slice xa cs.length xb) (.slice ya ns.length yb) at_ as_ ag (bH ts),rfl⟩,rfl,by rw[mE];exact⟨_,_,_,rfl,rc.inl.inl,rn.inl.inl,[c1],by rw[er];exact dQ.inr,mE.mono (fun _ (s:(eK (eK _ _) _).sat _)=>s.1.2) _ _ hx1,trivial⟩⟩,by omega,hR4,((Own.sel ‹_› [4,5,7,0,1] rfl).join.join).sel [1,2,0] rfl⟩
theorem aC7 (n:Nat)(hn:n≤11)(ih:nE n):∀(level:Int)(_:level=13 - ((n+1:Nat):Int))(B:Base)(bp z:Nat)(tk:Item)(w:Value)(ts:List Tok)(h:Heap)(_:Own B (PSt bp z w tk) h)(_:cR tk w ts)(_:ts.length≤5000)(_:∀ j,j<1→bD [cJ.getD j [],[40]] ts=false)(_:bD [[112,114,111,106,101,99,116],[40]] ts=true),
  Spec Tryz.prog 118 [.pointer (some ⟨bp,0,none⟩),.int .i64 level] h (dB B bp z tk ts.length (bV z (n+1) ts) exV):=by
 intro level hlv B bp z tk w ts h o hR hl hno hb
 obtain⟨hRd,hK⟩:=hR
 have hR:cR tk w ts:=⟨hRd,hK⟩;refine aDX Tryz.func118 rfl Tryz.ntmps118 (by kernel_rfl) ?_;(refine aDP o aU ?_;intro b10 m10 o10);refine aDR (fun hc=>absurd hc (by omega)) (fun c11=>?_);refine rR (aDl aM ?_);refine aI rfl ?_;(refine aDP o10 aU ?_;intro b13 m13 o13);(refine aDh o13 3 rfl aU rfl (by decide) (aI ⟨rfl,rfl⟩ ?_);intro m14 o14);refine rR (nC rfl ?_);refine rR (fA fW rfl rfl rfl ?_);refine rR (aDe o14 0 rfl eX rfl rfl ?_);refine rR (aDE (o14.reads 1 hRd rfl) fX ?_);refine Br.join [19,20,21,22,23,24,25,26] [] (fun _ hh=>Own B [box bp [w,.int .i64 z] 72,tk,box b10 [.int .i64 0,.string ⟨⟨[]⟩⟩,aK,aK,aK,.string ⟨⟨[]⟩⟩,.string ⟨⟨[]⟩⟩,.int .i64 0,.int .i64 0] 42,box b13 [.int .i64 1,.string ⟨⟨[]⟩⟩,aK,aK,aK,.string ⟨⟨[]⟩⟩,.string ⟨⟨[]⟩⟩,.int .i64 0,.int .i64 (bH ts)] 42] hh) rfl rfl ?_ ?_
 ·cases ts with
  | nil =>
   refine aDT ?_
   refine⟨rfl,?_⟩
   exact o14
  | cons t r =>
   have hx:(t::r)[0]?=some t:=rfl;have hln:(t::r).length=r.length+1:=rfl;refine aDR (fun c30=>?_) (fun hc=>absurd (by omega) hc);refine rR (nC rfl ?_);refine rR (fA fW rfl rfl rfl ?_);refine rR (aDe o14 0 rfl eX rfl rfl ?_);refine rR (aDo fX bF (o14.reads 1 hRd rfl) rfl (by omega) (by omega) ?_);refine rR (aDv (o14.reads 1 hRd rfl) (by omega) eZ rfl rfl rfl ?_);refine rR (aDC (o14.reads 1 hRd rfl) aY (fun _=>rfl) rfl ‹_› rfl ?_);refine rR (fA aM rfl rfl rfl ?_);(refine aDh o14 3 rfl aY rfl (by decide) (aI ⟨rfl,rfl⟩ ?_);intro m38 o38)
   refine⟨rfl,?_⟩
   exact Own.sel ‹_› [0,1,2,3] rfl
 ·intro vs junk hh oh
  refine aDV (eV bp _) ?_;rintro _ h2 ⟨bo,pb,rfl,oc⟩;have o2:=oh.call oc
  simp only[lcA,lnA]at o2
  clear oc;refine rR (aDn rfl eD ?_);refine aD1 [6,7,30,31,32,33,34,35,36,37,38,39,40,41,42,43,44,45,46,47,48,49,50,51,52,53,54,55,56,57,58,59,60,61,62,63,64,65,66,67,68,69,70,71,72,73,74,75,76,77,78,79,80,81,82,83] [30] (fun vs hh=>∃(i:Nat),i≤1∧vs=[.int .i64 i]∧Own B [box bp [w,.int .i64 z] 72,tk,box b10 [.int .i64 0,.string ⟨⟨[]⟩⟩,aK,aK,aK,.string ⟨⟨[]⟩⟩,.string ⟨⟨[]⟩⟩,.int .i64 0,.int .i64 0] 42,box b13 [.int .i64 1,.string ⟨⟨[]⟩⟩,aK,aK,aK,.string ⟨⟨[]⟩⟩,.string ⟨⟨[]⟩⟩,.int .i64 0,.int .i64 (bH ts)] 42,box pb [.pointer (some ⟨bp,0,none⟩)] 70,box bo (sH pb) 188] hh) (fun vs _=>match vs with|[.int _ i]=>7 - i.toNat|_=>0) ?_ ?_
  ·exact⟨0,by omega,rfl,o2⟩
  ·rintro vs' junk' h3 ⟨i,hi,rfl,o3⟩
   clear o14 oh o2;have hoL:(sH pb).length=7*3:=rfl
   rcases(by omega:i=0∨i=1) with rfl|rfl
   ·refine aDS ?_
    refine rR (aDo eD aW (o3.boxArrN 5 rfl ‹_› (by omega)) rfl (by omega) (by omega) ?_);refine rR (aDi o3 5 rfl aW rfl rfl rfl ?_);(refine aDP o3 aW ?_;intro b1002 m1002 o1002);(refine aDh o1002 6 rfl aW rfl (by decide) (aI ⟨rfl,rfl⟩ ?_);intro m1003 o1003);refine rR (fA cM rfl rfl rfl ?_);refine rR (aDe o1003 6 rfl aO rfl rfl ?_);(refine aDO o1003 aJ aO rfl rfl (by decide) (aI rfl ?_);intro b1006 m1006 o1006);refine aDV (bQ [[115,101,108,101,99,116],[40]] _ bp w ts _ (Own.cellB ‹_› 0 rfl 0) (Own.reads ‹_› 1 hR.1 rfl) (Own.boxArr ‹_› 7 rfl rfl (by decide)) hl) ?_;rintro _ h4 ⟨rv,oc⟩;have o4:=oc.thenE ‹_›;clear oc;have hb:bD [[115,101,108,101,99,116],[40]] ts=false:=hno 0 (by decide)
    rw[hb]at rv
    subst rv;refine aDS ?_;refine aDY (by omega) (by omega) ?_
    refine⟨rfl,?_⟩
    exact⟨⟨1,by omega,rfl,Own.sel ‹_› [0,1,2,3,4,5] rfl⟩,by simp⟩
   ·refine aDS ?_
    refine rR (aDo eD aW (o3.boxArrN 5 rfl ‹_› (by omega)) rfl (by omega) (by omega) ?_);refine rR (aDi o3 5 rfl aW rfl rfl rfl ?_);(refine aDP o3 aW ?_;intro b2002 m2002 o2002);(refine aDh o2002 6 rfl aW rfl (by decide) (aI ⟨rfl,rfl⟩ ?_);intro m2003 o2003);refine rR (fA cM rfl rfl rfl ?_);refine rR (aDe o2003 6 rfl aO rfl rfl ?_);(refine aDO o2003 aJ aO rfl rfl (by decide) (aI rfl ?_);intro b2006 m2006 o2006);refine aDV (bQ [[112,114,111,106,101,99,116],[40]] _ bp w ts _ (Own.cellB ‹_› 0 rfl 0) (Own.reads ‹_› 1 hR.1 rfl) (Own.boxArr ‹_› 7 rfl rfl (by decide)) hl) ?_;rintro _ h4 ⟨rv,oc⟩;have o4:=oc.thenE ‹_›;clear oc
    rw[hb]at rv
    subst rv;have hE:bV z (n+1) ts=(aX z [[112,114,111,106,101,99,116],[40]] >>= fun _=>bV z n >>= fun a=>ifP (qD 1) (aX z [[44]] >>= fun _=>bV z n >>= fun b=>pure [a,b]) [a] >>= fun kids=>eC z 1 (bH ts) kids >>= fun x=>aX z [[41]] >>= fun _=>(pure x:PM Ex)) ts:=kI (kG (by decide) hno hb);have o5:=o4.sel [0,1,2,3,4,6] rfl
    simp only[PSt,pick,lcA,lnA,lgS,lgZ,lgN]at o5
    clear o3 o4;refine aDT ?_;refine aDY (by omega) (by omega) ?_;refine rR (fA aM rfl rfl rfl ?_);(refine aDN o5 3 rfl aY rfl (by simp) (aI ⟨rfl,rfl⟩ ?_);intro m2041 o2041);refine rR (fA cM rfl rfl rfl ?_);refine rR (aDe o2041 5 rfl aO rfl rfl ?_);(refine aDO o2041 aJ aO rfl rfl (by decide) (aI rfl ?_);intro b2044 m2044 o2044);refine aV (ss:=[[112,114,111,106,101,99,116],[40]]) ‹_› rfl ⟨6,by decide,rfl⟩ hR (by omega) (by decide) (fun _ q1 w1 v h5 hm hv hle1 hR1 oq=>?_) (fun e w' h' hm o2=>⟨e,w',hE.trans (aDg hm),rfl,o2⟩);subst hv
    rw[aDf hm]at hE
    have o6:=oq.sel [0,1,2,3,4,5] rfl
    simp only[PSt,pick,lcA,lnA,lgS,lgZ,lgN]at o6
    clear oq hm;refine DrawVC.join [49,50,51,52,53,54,55,56,57,58,59] [] (fun _ hh=>∃(a1:Ex) (q2:List Tok) (w2:Value) (c1:dM) (I1:Item) (ua:Option Addr) (uc:Nat),bV z n q1=.ok (a1,q2)∧q2.length≤q1.length∧cR tk w2 q2∧mE I1 c1.1 a1∧Own B [box bp [w2,.int .i64 z] 72,tk,I1,box b10 [.int .i64 0,.string ⟨⟨[]⟩⟩,aK,aK,aK,.string ⟨⟨[]⟩⟩,.string ⟨⟨[]⟩⟩,.int .i64 0,.int .i64 0] 42,box b13 [.int .i64 3,.string ⟨⟨[]⟩⟩,.slice ua 1 uc,aK,aK,.string ⟨⟨[]⟩⟩,.string ⟨⟨[]⟩⟩,.int .i64 0,.int .i64 (bH ts)] 42,box pb [.pointer (some ⟨bp,0,none⟩)] 70,box b2002 [.string ⟨⟨[112,114,111,106,101,99,116]⟩⟩,.bool false,.func (.func 162) ⟨[]⟩ ⟨[.pointer (some ⟨pb,0,none⟩)]⟩] 188,row (.slice ua 1 uc) 42 9 1 c1.1] hh) ?_ ?_
    ·refine aDB b13 [0,2,3,4,6,9,11] [1] [8,10,12] (.one 0 (.one 1 (.one 2 (.one 3 (.one 4 (.one 6 (.fork 5 7 (.one 7 (.one 8 (.one 9 (.one 11 (.fork 10 12 (.one 12 .done) (.one 10 .done)))))) (.one 5 (.one 8 (.one 9 (.one 11 (.fork 10 12 (.one 12 .done) (.one 10 .done))))))))))))) mixed (by kernel_rfl) rfl (fun _ _ _ _ h=>h) ?_
     refine fA aM rfl rfl rfl ?_;refine StillVCA.load1 dC rfl rfl ((o6.cellB 3 rfl _).trans rfl) ?_;refine aDY (by omega) (by omega) ?_;refine aDn rfl cE ?_
     refine⟨?_,?_⟩
     ·skip
      refine dB.callL (fun B' o'=>ih (level+1) (by omega) B' bp z tk _ _ _ o' hR1 (by omega)) ‹_› rfl (fun a1 q2 w2 v I1 h6 hm hv hle2 hR2 oq=>?_) (fun e w' h' hm o2=>⟨e,w',hE.trans (aDg hm),rfl,o2⟩)
      obtain⟨c1,rfl,hx1⟩:=hv
      have o7:=oq
      simp only[PSt,pick,lcA,lnA,lgS,lgZ,lgN]at o7
      clear oq
      refine⟨Eq.trans (Own.satK o7 4 rfl) (Eq.symm (Own.satK (x:=box b13 _ _) ‹_› 3 rfl)),?_⟩
      have one1:=fF (Own.satK o7 2 rfl) hx1;(refine aDD o7 cE aU rfl rfl (by decide) ?_);refine aI rfl ?_;intro b2101 m2101 o2101;refine aI ((o2101.boxBlk 4 rfl).trans (o7.boxBlk 4 rfl).symm) ?_;have on:=Own.nilRow ‹_› 42 9
      simp only[lcA,lnA]at on
      refine aDQ on 8 rfl cE aU (by decide) (Own.boxArrN on 7 rfl (n:=1) rfl (by omega)) (by simp[Value.oneCell']) (by simp only[maxLen];omega) (by omega) ?_;intro vA mA oA
      obtain⟨ua,uc,rfl⟩:=oA.rowIs 8 rfl
      refine aDo cE aU (oA.rowArrN 8 rfl) rfl (by omega) (by omega) ?_;refine fA aM rfl rfl rfl ?_
      refine⟨?_,?_⟩
      ·skip
       refine aDq (i:=0) ‹_› 8 rfl aU rfl rfl rfl c1.2 (by decide) (by decide) one1 ?_;intro mB oB
       simp only[lsS,lsZ]at oB
       (refine aDN oB 4 rfl dC rfl (by simp) (aI ⟨rfl,rfl⟩ ?_);intro m2140 o2140)
       refine⟨rfl,?_⟩
       have ef:=cH (cs:=[.int .i64 0,.string ⟨⟨[]⟩⟩,aK,aK,aK,.string ⟨⟨[]⟩⟩,.string ⟨⟨[]⟩⟩,.int .i64 0,.int .i64 0]) (c:=c1) rfl
       exact⟨a1,q2,w2,c1,I1,ua,uc,hm,hle2,hR2,hx1,ef▸Own.sel ‹_› [0,1,2,3,4,5,6,8] rfl⟩
      ·skip
       (refine aDN oA 4 rfl dC rfl (by simp) (aI ⟨rfl,rfl⟩ ?_);intro m2150 o2150);refine aDq (i:=0) ‹_› 8 rfl aU rfl rfl rfl c1.2 (by decide) (by decide) one1 ?_;intro mB oB
       simp only[lsS,lsZ]at oB
       refine⟨rfl,?_⟩
       have ef:=cH (cs:=[.int .i64 0,.string ⟨⟨[]⟩⟩,aK,aK,aK,.string ⟨⟨[]⟩⟩,.string ⟨⟨[]⟩⟩,.int .i64 0,.int .i64 0]) (c:=c1) rfl
       exact⟨a1,q2,w2,c1,I1,ua,uc,hm,hle2,hR2,hx1,ef▸Own.sel ‹_› [0,1,2,3,4,5,6,8] rfl⟩
     ·skip
      (refine aDD o6 cE aU rfl rfl (by decide) ?_);refine aI rfl ?_;intro b2281 m2281 o2281;refine aI ((o2281.boxBlk 3 rfl).trans (o6.boxBlk 3 rfl).symm) ?_;refine dB.callL (fun B' o'=>ih (level+1) (by omega) B' bp z tk _ _ _ o' hR1 (by omega)) ‹_› rfl (fun a1 q2 w2 v I1 h6 hm hv hle2 hR2 oq=>?_) (fun e w' h' hm o2=>⟨e,w',hE.trans (aDg hm),rfl,o2⟩)
      obtain⟨c1,rfl,hx1⟩:=hv
      have o7:=oq
      simp only[PSt,pick,lcA,lnA,lgS,lgZ,lgN]at o7
      clear oq
      refine⟨Eq.trans (Own.satK o7 4 rfl) (Eq.symm (Own.satK (x:=box b13 _ _) ‹_› 3 rfl)),?_⟩
      have one1:=fF (Own.satK o7 2 rfl) hx1;have on:=Own.nilRow ‹_› 42 9
      simp only[lcA,lnA]at on
      refine aDQ on 8 rfl cE aU (by decide) (Own.boxArrN on 7 rfl (n:=1) rfl (by omega)) (by simp[Value.oneCell']) (by simp only[maxLen];omega) (by omega) ?_;intro vA mA oA
      obtain⟨ua,uc,rfl⟩:=oA.rowIs 8 rfl
      refine aDo cE aU (oA.rowArrN 8 rfl) rfl (by omega) (by omega) ?_;refine fA aM rfl rfl rfl ?_
      refine⟨?_,?_⟩
      ·skip
       refine aDq (i:=0) ‹_› 8 rfl aU rfl rfl rfl c1.2 (by decide) (by decide) one1 ?_;intro mB oB
       simp only[lsS,lsZ]at oB
       (refine aDN oB 4 rfl dC rfl (by simp) (aI ⟨rfl,rfl⟩ ?_);intro m2340 o2340)
       refine⟨rfl,?_⟩
       have ef:=cH (cs:=[.int .i64 0,.string ⟨⟨[]⟩⟩,aK,aK,aK,.string ⟨⟨[]⟩⟩,.string ⟨⟨[]⟩⟩,.int .i64 0,.int .i64 0]) (c:=c1) rfl
       exact⟨a1,q2,w2,c1,I1,ua,uc,hm,hle2,hR2,hx1,ef▸Own.sel ‹_› [0,1,2,3,4,5,6,8] rfl⟩
      ·skip
       (refine aDN oA 4 rfl dC rfl (by simp) (aI ⟨rfl,rfl⟩ ?_);intro m2350 o2350);refine aDq (i:=0) ‹_› 8 rfl aU rfl rfl rfl c1.2 (by decide) (by decide) one1 ?_;intro mB oB
       simp only[lsS,lsZ]at oB
       refine⟨rfl,?_⟩
       have ef:=cH (cs:=[.int .i64 0,.string ⟨⟨[]⟩⟩,aK,aK,aK,.string ⟨⟨[]⟩⟩,.string ⟨⟨[]⟩⟩,.int .i64 0,.int .i64 0]) (c:=c1) rfl
       exact⟨a1,q2,w2,c1,I1,ua,uc,hm,hle2,hR2,hx1,ef▸Own.sel ‹_› [0,1,2,3,4,5,6,8] rfl⟩
    ·rintro _ junk2 h7 ⟨a1,q2,w2,c1,I1,ua,uc,hm,hle2,hR2,hx1,o8⟩
     rw[aDf hm]at hE
     rw[nB (by rfl),aDu]at hE
     refine rR (fA cM rfl rfl rfl ?_);refine rR (aDe o8 6 rfl ty4 rfl rfl ?_);refine aDT ?_;refine aD2 ?_;refine rR (fA cM rfl rfl rfl ?_);refine rR (aDe o8 6 rfl aAj rfl rfl ?_);refine mM.callL (fun B' o'=>rest1_spec (bH ts) (.slice ua 1 uc) [a1] B' bp z tk b13 pb w2 q2 h7 o' hR2 (by omega)) o8 [0,1,4,5] [2,3,7] rfl rfl (fun x q3 w3 c J h8 hm3 hJ hle3 hR3 oq=>?_) (fun e w' h' hm3 o2=>⟨e,w',hE.trans (aDg hm3),rfl,o2⟩)
     rw[aDf hm3]at hE
     obtain⟨vc,vn,cs,ns,at_,as_,ag,rfl,rfl,rc,rn⟩:=hJ
     unfold xT at oq;have o9:=oq
     simp only[PSt,pick,lcA,lnA,lgS,lgZ,lgN]at o9
     clear oq o8
     obtain⟨xa,xb,rfl⟩:=rc.isS (Own.satK o9 4 rfl)
     obtain⟨ya,yb,rfl⟩:=rn.isS (Own.satK o9 4 rfl)
     (refine aDO o9 aJ aO rfl rfl (by decide) (aI rfl ?_);intro b2520 m2520 o2520);refine aV (ss:=[[41]]) ‹_› rfl ⟨8,by decide,rfl⟩ hR3 (by omega) (by decide) (fun _ q4 w4 v h9 hm4 hv hle4 hR4 oq=>?_) (fun e w' h' hm o2=>⟨e,w',hE.trans (aDg hm),rfl,o2⟩);subst hv
     rw[aDf hm4]at hE
     have o10:=oq
     simp only[PSt,pick,lcA,lnA,lgS,lgZ,lgN]at o10
     clear oq o9;refine rR (aDi o10 2 rfl aU rfl rfl rfl ?_);(refine aDh o10 6 rfl aU rfl (by decide) (aI ⟨rfl,rfl⟩ ?_);intro m2541 o2541)
     first|refine aDt rfl o2541 6 rfl aU rfl rfl ?_|refine aDs rfl o2541 6 rfl aU rfl rfl ?_|refine RetVC.cellTT rfl o2541 6 rfl aU rfl rfl ?_
     have er:[c1].flatMap Subtype.val=c1.1:=by simp
     exact⟨_,q4,w4,eK (eK J I1) (row (.slice ua 1 uc) 42 9 1 c1.1),hE,⟨⟨xT 3 [] (.slice ua 1 uc) (.slice xa cs.length xb) (.slice ya ns.length yb) at_ as_ ag (bH ts),rfl⟩,rfl,by rw[mE];exact⟨_,_,_,rfl,rc.inl.inl,rn.inl.inl,[c1],by rw[er];exact dQ.inr,mE.mono (fun _ (s:(eK (eK _ _) _).sat _)=>s.1.2) _ _ hx1,trivial⟩⟩,by omega,hR4,((Own.sel ‹_› [4,5,7,0,1] rfl).join.join).sel [1,2,0] rfl⟩
theorem expr_join (n:Nat)(hn:n≤11)(ih:nE n):∀(level:Int)(_:level=13 - ((n+1:Nat):Int))(B:Base)(bp z:Nat)(tk:Item)(w:Value)(ts:List Tok)(h:Heap)(_:Own B (PSt bp z w tk) h)(_:cR tk w ts)(_:ts.length≤5000)(_:∀ j,j<2→bD [cJ.getD j [],[40]] ts=false)(_:bD [[106,111,105,110],[40]] ts=true),
  Spec Tryz.prog 118 [.pointer (some ⟨bp,0,none⟩),.int .i64 level] h (dB B bp z tk ts.length (bV z (n+1) ts) exV):=by
 intro level hlv B bp z tk w ts h o hR hl hno hb
 obtain⟨hRd,hK⟩:=hR
 have hR:cR tk w ts:=⟨hRd,hK⟩;refine aDX Tryz.func118 rfl Tryz.ntmps118 (by kernel_rfl) ?_;(refine aDP o aU ?_;intro b10 m10 o10);refine aDR (fun hc=>absurd hc (by omega)) (fun c11=>?_);refine rR (aDl aM ?_);refine aI rfl ?_;(refine aDP o10 aU ?_;intro b13 m13 o13);(refine aDh o13 3 rfl aU rfl (by decide) (aI ⟨rfl,rfl⟩ ?_);intro m14 o14);refine rR (nC rfl ?_);refine rR (fA fW rfl rfl rfl ?_);refine rR (aDe o14 0 rfl eX rfl rfl ?_);refine rR (aDE (o14.reads 1 hRd rfl) fX ?_);refine Br.join [19,20,21,22,23,24,25,26] [] (fun _ hh=>Own B [box bp [w,.int .i64 z] 72,tk,box b10 [.int .i64 0,.string ⟨⟨[]⟩⟩,aK,aK,aK,.string ⟨⟨[]⟩⟩,.string ⟨⟨[]⟩⟩,.int .i64 0,.int .i64 0] 42,box b13 [.int .i64 1,.string ⟨⟨[]⟩⟩,aK,aK,aK,.string ⟨⟨[]⟩⟩,.string ⟨⟨[]⟩⟩,.int .i64 0,.int .i64 (bH ts)] 42] hh) rfl rfl ?_ ?_
 ·cases ts with
  | nil =>
   refine aDT ?_
   refine⟨rfl,?_⟩
   exact o14
  | cons t r =>
   have hx:(t::r)[0]?=some t:=rfl;have hln:(t::r).length=r.length+1:=rfl;refine aDR (fun c30=>?_) (fun hc=>absurd (by omega) hc);refine rR (nC rfl ?_);refine rR (fA fW rfl rfl rfl ?_);refine rR (aDe o14 0 rfl eX rfl rfl ?_);refine rR (aDo fX bF (o14.reads 1 hRd rfl) rfl (by omega) (by omega) ?_);refine rR (aDv (o14.reads 1 hRd rfl) (by omega) eZ rfl rfl rfl ?_);refine rR (aDC (o14.reads 1 hRd rfl) aY (fun _=>rfl) rfl ‹_› rfl ?_);refine rR (fA aM rfl rfl rfl ?_);(refine aDh o14 3 rfl aY rfl (by decide) (aI ⟨rfl,rfl⟩ ?_);intro m38 o38)
   refine⟨rfl,?_⟩
   exact Own.sel ‹_› [0,1,2,3] rfl
 ·intro vs junk hh oh
  refine aDV (eV bp _) ?_;rintro _ h2 ⟨bo,pb,rfl,oc⟩;have o2:=oh.call oc
  simp only[lcA,lnA]at o2
  clear oc;refine rR (aDn rfl eD ?_);refine aD1 [6,7,30,31,32,33,34,35,36,37,38,39,40,41,42,43,44,45,46,47,48,49,50,51,52,53,54,55,56,57,58,59,60,61,62,63,64,65,66,67,68,69,70,71,72,73,74,75,76,77,78,79,80,81,82,83] [30] (fun vs hh=>∃(i:Nat),i≤2∧vs=[.int .i64 i]∧Own B [box bp [w,.int .i64 z] 72,tk,box b10 [.int .i64 0,.string ⟨⟨[]⟩⟩,aK,aK,aK,.string ⟨⟨[]⟩⟩,.string ⟨⟨[]⟩⟩,.int .i64 0,.int .i64 0] 42,box b13 [.int .i64 1,.string ⟨⟨[]⟩⟩,aK,aK,aK,.string ⟨⟨[]⟩⟩,.string ⟨⟨[]⟩⟩,.int .i64 0,.int .i64 (bH ts)] 42,box pb [.pointer (some ⟨bp,0,none⟩)] 70,box bo (sH pb) 188] hh) (fun vs _=>match vs with|[.int _ i]=>7 - i.toNat|_=>0) ?_ ?_
  ·exact⟨0,by omega,rfl,o2⟩
  ·rintro vs' junk' h3 ⟨i,hi,rfl,o3⟩
   clear o14 oh o2;have hoL:(sH pb).length=7*3:=rfl
   rcases(by omega:i=0∨i=1∨i=2) with rfl|rfl|rfl
   ·refine aDS ?_
    refine rR (aDo eD aW (o3.boxArrN 5 rfl ‹_› (by omega)) rfl (by omega) (by omega) ?_);refine rR (aDi o3 5 rfl aW rfl rfl rfl ?_);(refine aDP o3 aW ?_;intro b1002 m1002 o1002);(refine aDh o1002 6 rfl aW rfl (by decide) (aI ⟨rfl,rfl⟩ ?_);intro m1003 o1003);refine rR (fA cM rfl rfl rfl ?_);refine rR (aDe o1003 6 rfl aO rfl rfl ?_);(refine aDO o1003 aJ aO rfl rfl (by decide) (aI rfl ?_);intro b1006 m1006 o1006);refine aDV (bQ [[115,101,108,101,99,116],[40]] _ bp w ts _ (Own.cellB ‹_› 0 rfl 0) (Own.reads ‹_› 1 hR.1 rfl) (Own.boxArr ‹_› 7 rfl rfl (by decide)) hl) ?_;rintro _ h4 ⟨rv,oc⟩;have o4:=oc.thenE ‹_›;clear oc;have hb:bD [[115,101,108,101,99,116],[40]] ts=false:=hno 0 (by decide)
    rw[hb]at rv
    subst rv;refine aDS ?_;refine aDY (by omega) (by omega) ?_
    refine⟨rfl,?_⟩
    exact⟨⟨1,by omega,rfl,Own.sel ‹_› [0,1,2,3,4,5] rfl⟩,by simp⟩
   ·refine aDS ?_
    refine rR (aDo eD aW (o3.boxArrN 5 rfl ‹_› (by omega)) rfl (by omega) (by omega) ?_);refine rR (aDi o3 5 rfl aW rfl rfl rfl ?_);(refine aDP o3 aW ?_;intro b2002 m2002 o2002);(refine aDh o2002 6 rfl aW rfl (by decide) (aI ⟨rfl,rfl⟩ ?_);intro m2003 o2003);refine rR (fA cM rfl rfl rfl ?_);refine rR (aDe o2003 6 rfl aO rfl rfl ?_);(refine aDO o2003 aJ aO rfl rfl (by decide) (aI rfl ?_);intro b2006 m2006 o2006);refine aDV (bQ [[112,114,111,106,101,99,116],[40]] _ bp w ts _ (Own.cellB ‹_› 0 rfl 0) (Own.reads ‹_› 1 hR.1 rfl) (Own.boxArr ‹_› 7 rfl rfl (by decide)) hl) ?_;rintro _ h4 ⟨rv,oc⟩;have o4:=oc.thenE ‹_›;clear oc;have hb:bD [[112,114,111,106,101,99,116],[40]] ts=false:=hno 1 (by decide)
    rw[hb]at rv
    subst rv;refine aDS ?_;refine aDY (by omega) (by omega) ?_
    refine⟨rfl,?_⟩
    exact⟨⟨2,by omega,rfl,Own.sel ‹_› [0,1,2,3,4,5] rfl⟩,by simp⟩
   ·refine aDS ?_
    refine rR (aDo eD aW (o3.boxArrN 5 rfl ‹_› (by omega)) rfl (by omega) (by omega) ?_);refine rR (aDi o3 5 rfl aW rfl rfl rfl ?_);(refine aDP o3 aW ?_;intro b3002 m3002 o3002);(refine aDh o3002 6 rfl aW rfl (by decide) (aI ⟨rfl,rfl⟩ ?_);intro m3003 o3003);refine rR (fA cM rfl rfl rfl ?_);refine rR (aDe o3003 6 rfl aO rfl rfl ?_);(refine aDO o3003 aJ aO rfl rfl (by decide) (aI rfl ?_);intro b3006 m3006 o3006);refine aDV (bQ [[106,111,105,110],[40]] _ bp w ts _ (Own.cellB ‹_› 0 rfl 0) (Own.reads ‹_› 1 hR.1 rfl) (Own.boxArr ‹_› 7 rfl rfl (by decide)) hl) ?_;rintro _ h4 ⟨rv,oc⟩;have o4:=oc.thenE ‹_›;clear oc
    rw[hb]at rv
    subst rv;have hE:bV z (n+1) ts=(aX z [[106,111,105,110],[40]] >>= fun _=>bV z n >>= fun a=>ifP (qD 2) (aX z [[44]] >>= fun _=>bV z n >>= fun b=>pure [a,b]) [a] >>= fun kids=>eC z 2 (bH ts) kids >>= fun x=>aX z [[41]] >>= fun _=>(pure x:PM Ex)) ts:=kI (kG (by decide) hno hb);have o5:=o4.sel [0,1,2,3,4,6] rfl
    simp only[PSt,pick,lcA,lnA,lgS,lgZ,lgN]at o5
    clear o3 o4;refine aDT ?_;refine aDY (by omega) (by omega) ?_;refine rR (fA aM rfl rfl rfl ?_);(refine aDN o5 3 rfl aY rfl (by simp) (aI ⟨rfl,rfl⟩ ?_);intro m3041 o3041);refine rR (fA cM rfl rfl rfl ?_);refine rR (aDe o3041 5 rfl aO rfl rfl ?_);(refine aDO o3041 aJ aO rfl rfl (by decide) (aI rfl ?_);intro b3044 m3044 o3044);refine aV (ss:=[[106,111,105,110],[40]]) ‹_› rfl ⟨6,by decide,rfl⟩ hR (by omega) (by decide) (fun _ q1 w1 v h5 hm hv hle1 hR1 oq=>?_) (fun e w' h' hm o2=>⟨e,w',hE.trans (aDg hm),rfl,o2⟩);subst hv
    rw[aDf hm]at hE
    have o6:=oq.sel [0,1,2,3,4,5] rfl
    simp only[PSt,pick,lcA,lnA,lgS,lgZ,lgN]at o6
    clear oq hm;refine DrawVC.join [49,50,51,52,53,54,55,56,57,58,59] [] (fun _ hh=>∃(a1:Ex) (q2:List Tok) (w2:Value) (c1:dM) (I1:Item) (ua:Option Addr) (uc:Nat),bV z n q1=.ok (a1,q2)∧q2.length≤q1.length∧cR tk w2 q2∧mE I1 c1.1 a1∧Own B [box bp [w2,.int .i64 z] 72,tk,I1,box b10 [.int .i64 0,.string ⟨⟨[]⟩⟩,aK,aK,aK,.string ⟨⟨[]⟩⟩,.string ⟨⟨[]⟩⟩,.int .i64 0,.int .i64 0] 42,box b13 [.int .i64 4,.string ⟨⟨[]⟩⟩,.slice ua 1 uc,aK,aK,.string ⟨⟨[]⟩⟩,.string ⟨⟨[]⟩⟩,.int .i64 0,.int .i64 (bH ts)] 42,box pb [.pointer (some ⟨bp,0,none⟩)] 70,box b3002 [.string ⟨⟨[106,111,105,110]⟩⟩,.bool true,.func (.func 160) ⟨[]⟩ ⟨[]⟩] 188,row (.slice ua 1 uc) 42 9 1 c1.1] hh) ?_ ?_
    ·refine aDB b13 [0,2,3,4,6,9,11] [1] [8,10,12] (.one 0 (.one 1 (.one 2 (.one 3 (.one 4 (.one 6 (.fork 5 7 (.one 7 (.one 8 (.one 9 (.one 11 (.fork 10 12 (.one 12 .done) (.one 10 .done)))))) (.one 5 (.one 8 (.one 9 (.one 11 (.fork 10 12 (.one 12 .done) (.one 10 .done))))))))))))) mixed (by kernel_rfl) rfl (fun _ _ _ _ h=>h) ?_
     refine fA aM rfl rfl rfl ?_;refine StillVCA.load1 dC rfl rfl ((o6.cellB 3 rfl _).trans rfl) ?_;refine aDY (by omega) (by omega) ?_;refine aDn rfl cE ?_
     refine⟨?_,?_⟩
     ·skip
      refine dB.callL (fun B' o'=>ih (level+1) (by omega) B' bp z tk _ _ _ o' hR1 (by omega)) ‹_› rfl (fun a1 q2 w2 v I1 h6 hm hv hle2 hR2 oq=>?_) (fun e w' h' hm o2=>⟨e,w',hE.trans (aDg hm),rfl,o2⟩)
      obtain⟨c1,rfl,hx1⟩:=hv
      have o7:=oq
      simp only[PSt,pick,lcA,lnA,lgS,lgZ,lgN]at o7
      clear oq
      refine⟨Eq.trans (Own.satK o7 4 rfl) (Eq.symm (Own.satK (x:=box b13 _ _) ‹_› 3 rfl)),?_⟩
      have one1:=fF (Own.satK o7 2 rfl) hx1;(refine aDD o7 cE aU rfl rfl (by decide) ?_);refine aI rfl ?_;intro b3101 m3101 o3101;refine aI ((o3101.boxBlk 4 rfl).trans (o7.boxBlk 4 rfl).symm) ?_;have on:=Own.nilRow ‹_› 42 9
      simp only[lcA,lnA]at on
      refine aDQ on 8 rfl cE aU (by decide) (Own.boxArrN on 7 rfl (n:=1) rfl (by omega)) (by simp[Value.oneCell']) (by simp only[maxLen];omega) (by omega) ?_;intro vA mA oA
      obtain⟨ua,uc,rfl⟩:=oA.rowIs 8 rfl
      refine aDo cE aU (oA.rowArrN 8 rfl) rfl (by omega) (by omega) ?_;refine fA aM rfl rfl rfl ?_
      refine⟨?_,?_⟩
      ·skip
       refine aDq (i:=0) ‹_› 8 rfl aU rfl rfl rfl c1.2 (by decide) (by decide) one1 ?_;intro mB oB
       simp only[lsS,lsZ]at oB
       (refine aDN oB 4 rfl dC rfl (by simp) (aI ⟨rfl,rfl⟩ ?_);intro m3140 o3140)
       refine⟨rfl,?_⟩
       have ef:=cH (cs:=[.int .i64 0,.string ⟨⟨[]⟩⟩,aK,aK,aK,.string ⟨⟨[]⟩⟩,.string ⟨⟨[]⟩⟩,.int .i64 0,.int .i64 0]) (c:=c1) rfl
       exact⟨a1,q2,w2,c1,I1,ua,uc,hm,hle2,hR2,hx1,ef▸Own.sel ‹_› [0,1,2,3,4,5,6,8] rfl⟩
      ·skip
       (refine aDN oA 4 rfl dC rfl (by simp) (aI ⟨rfl,rfl⟩ ?_);intro m3150 o3150);refine aDq (i:=0) ‹_› 8 rfl aU rfl rfl rfl c1.2 (by decide) (by decide) one1 ?_;intro mB oB
       simp only[lsS,lsZ]at oB
       refine⟨rfl,?_⟩
       have ef:=cH (cs:=[.int .i64 0,.string ⟨⟨[]⟩⟩,aK,aK,aK,.string ⟨⟨[]⟩⟩,.string ⟨⟨[]⟩⟩,.int .i64 0,.int .i64 0]) (c:=c1) rfl
       exact⟨a1,q2,w2,c1,I1,ua,uc,hm,hle2,hR2,hx1,ef▸Own.sel ‹_› [0,1,2,3,4,5,6,8] rfl⟩
     ·skip
      (refine aDD o6 cE aU rfl rfl (by decide) ?_);refine aI rfl ?_;intro b3281 m3281 o3281;refine aI ((o3281.boxBlk 3 rfl).trans (o6.boxBlk 3 rfl).symm) ?_;refine dB.callL (fun B' o'=>ih (level+1) (by omega) B' bp z tk _ _ _ o' hR1 (by omega)) ‹_› rfl (fun a1 q2 w2 v I1 h6 hm hv hle2 hR2 oq=>?_) (fun e w' h' hm o2=>⟨e,w',hE.trans (aDg hm),rfl,o2⟩)
      obtain⟨c1,rfl,hx1⟩:=hv
      have o7:=oq
      simp only[PSt,pick,lcA,lnA,lgS,lgZ,lgN]at o7
      clear oq
      refine⟨Eq.trans (Own.satK o7 4 rfl) (Eq.symm (Own.satK (x:=box b13 _ _) ‹_› 3 rfl)),?_⟩
      have one1:=fF (Own.satK o7 2 rfl) hx1;have on:=Own.nilRow ‹_› 42 9
      simp only[lcA,lnA]at on
      refine aDQ on 8 rfl cE aU (by decide) (Own.boxArrN on 7 rfl (n:=1) rfl (by omega)) (by simp[Value.oneCell']) (by simp only[maxLen];omega) (by omega) ?_;intro vA mA oA
      obtain⟨ua,uc,rfl⟩:=oA.rowIs 8 rfl
      refine aDo cE aU (oA.rowArrN 8 rfl) rfl (by omega) (by omega) ?_;refine fA aM rfl rfl rfl ?_
      refine⟨?_,?_⟩
      ·skip
       refine aDq (i:=0) ‹_› 8 rfl aU rfl rfl rfl c1.2 (by decide) (by decide) one1 ?_;intro mB oB
       simp only[lsS,lsZ]at oB
       (refine aDN oB 4 rfl dC rfl (by simp) (aI ⟨rfl,rfl⟩ ?_);intro m3340 o3340)
       refine⟨rfl,?_⟩
       have ef:=cH (cs:=[.int .i64 0,.string ⟨⟨[]⟩⟩,aK,aK,aK,.string ⟨⟨[]⟩⟩,.string ⟨⟨[]⟩⟩,.int .i64 0,.int .i64 0]) (c:=c1) rfl
       exact⟨a1,q2,w2,c1,I1,ua,uc,hm,hle2,hR2,hx1,ef▸Own.sel ‹_› [0,1,2,3,4,5,6,8] rfl⟩
      ·skip
       (refine aDN oA 4 rfl dC rfl (by simp) (aI ⟨rfl,rfl⟩ ?_);intro m3350 o3350);refine aDq (i:=0) ‹_› 8 rfl aU rfl rfl rfl c1.2 (by decide) (by decide) one1 ?_;intro mB oB
       simp only[lsS,lsZ]at oB
       refine⟨rfl,?_⟩
       have ef:=cH (cs:=[.int .i64 0,.string ⟨⟨[]⟩⟩,aK,aK,aK,.string ⟨⟨[]⟩⟩,.string ⟨⟨[]⟩⟩,.int .i64 0,.int .i64 0]) (c:=c1) rfl
       exact⟨a1,q2,w2,c1,I1,ua,uc,hm,hle2,hR2,hx1,ef▸Own.sel ‹_› [0,1,2,3,4,5,6,8] rfl⟩
    ·rintro _ junk2 h7 ⟨a1,q2,w2,c1,I1,ua,uc,hm,hle2,hR2,hx1,o8⟩
     rw[aDf hm]at hE
     rw[kB (by rfl),aDJ]at hE
     refine rR (fA cM rfl rfl rfl ?_);refine rR (aDe o8 6 rfl ty4 rfl rfl ?_);refine aDS ?_;(refine aDO o8 aJ aO rfl rfl (by decide) (aI rfl ?_);intro b3502 m3502 o3502);refine aV (ss:=[[44]]) ‹_› rfl ⟨8,by decide,rfl⟩ hR2 (by omega) (by decide) (fun _ q3 w3 v h8 hm3 hv hle3 hR3 oq=>?_) (fun e w' h' hm o2=>⟨e,w',hE.trans (aDg hm),rfl,o2⟩);subst hv
     rw[aDf hm3,aDJ]at hE
     have o9:=oq.sel [0,1,2,3,4,5,6,7] rfl
     simp only[PSt,pick,lcA,lnA,lgS,lgZ,lgN]at o9
     clear oq o8 hm;refine DrawVC.join [65,66,67,68,69,70,71,72,73,74,75] [] (fun _ hh=>∃(a2:Ex) (q4:List Tok) (w4:Value) (c2:dM) (I2:Item) (ua:Option Addr) (uc:Nat),bV z n q3=.ok (a2,q4)∧q4.length≤q3.length∧cR tk w4 q4∧mE I2 c2.1 a2∧Own B [box bp [w4,.int .i64 z] 72,tk,I2,I1,box b10 [.int .i64 0,.string ⟨⟨[]⟩⟩,aK,aK,aK,.string ⟨⟨[]⟩⟩,.string ⟨⟨[]⟩⟩,.int .i64 0,.int .i64 0] 42,box b13 [.int .i64 4,.string ⟨⟨[]⟩⟩,.slice ua 2 uc,aK,aK,.string ⟨⟨[]⟩⟩,.string ⟨⟨[]⟩⟩,.int .i64 0,.int .i64 (bH ts)] 42,box pb [.pointer (some ⟨bp,0,none⟩)] 70,box b3002 [.string ⟨⟨[106,111,105,110]⟩⟩,.bool true,.func (.func 160) ⟨[]⟩ ⟨[]⟩] 188,row (.slice ua 2 uc) 42 9 2 (c1.1++c2.1)] hh) ?_ ?_
     ·refine aDB b13 [0,2,3,4,6,9,11] [1] [8,10,12] (.one 0 (.one 1 (.one 2 (.one 3 (.one 4 (.one 6 (.fork 5 7 (.one 7 (.one 8 (.one 9 (.one 11 (.fork 10 12 (.one 12 .done) (.one 10 .done)))))) (.one 5 (.one 8 (.one 9 (.one 11 (.fork 10 12 (.one 12 .done) (.one 10 .done))))))))))))) mixed (by kernel_rfl) rfl (fun _ _ _ _ h=>h) ?_
      refine fA aM rfl rfl rfl ?_;refine StillVCA.load1 dC rfl rfl ((o9.cellB 4 rfl _).trans rfl) ?_;refine aDY (by omega) (by omega) ?_;refine aDn rfl cE ?_
      refine⟨?_,?_⟩
      ·skip
       refine dB.callL (fun B' o'=>ih (level+1) (by omega) B' bp z tk _ _ _ o' hR3 (by omega)) ‹_› rfl (fun a2 q4 w4 v I2 h9 hm4 hv hle4 hR4 oq=>?_) (fun e w' h' hm o2=>⟨e,w',hE.trans (aDg hm),rfl,o2⟩)
       obtain⟨c2,rfl,hx2⟩:=hv
       have o7:=oq
       simp only[PSt,pick,lcA,lnA,lgS,lgZ,lgN]at o7
       clear oq
       refine⟨Eq.trans (Own.satK o7 5 rfl) (Eq.symm (Own.satK (x:=box b13 _ _) ‹_› 4 rfl)),?_⟩
       have one2:=fF (Own.satK o7 2 rfl) hx2;(refine aDD o7 cE aU rfl rfl (by decide) ?_);refine aI rfl ?_;intro b3571 m3571 o3571;refine aI ((o3571.boxBlk 5 rfl).trans (o7.boxBlk 5 rfl).symm) ?_;refine aDQ ‹_› 8 rfl cE aU (by decide) (Own.boxArrN ‹_› 9 rfl (n:=1) rfl (by omega)) (by simp[Value.oneCell']) (by simp only[maxLen];omega) (by omega) ?_;intro vA mA oA
       obtain⟨ua,uc,rfl⟩:=oA.rowIs 8 rfl
       refine aDo cE aU (oA.rowArrN 8 rfl) rfl (by omega) (by omega) ?_;refine fA aM rfl rfl rfl ?_
       refine⟨?_,?_⟩
       ·skip
        refine aDq (i:=1) ‹_› 8 rfl aU rfl rfl rfl c2.2 (by decide) (by decide) one2 ?_;intro mB oB
        simp only[lsS,lsZ]at oB
        (refine aDN oB 5 rfl dC rfl (by simp) (aI ⟨rfl,rfl⟩ ?_);intro m3610 o3610)
        refine⟨rfl,?_⟩
        have ef:=eW (cs:=[.int .i64 0,.string ⟨⟨[]⟩⟩,aK,aK,aK,.string ⟨⟨[]⟩⟩,.string ⟨⟨[]⟩⟩,.int .i64 0,.int .i64 0]) (c:=c1) (d:=c2) rfl
        exact⟨a2,q4,w4,c2,I2,ua,uc,hm4,hle4,hR4,hx2,ef▸Own.sel ‹_› [0,1,2,3,4,5,6,7,8] rfl⟩
       ·skip
        (refine aDN oA 5 rfl dC rfl (by simp) (aI ⟨rfl,rfl⟩ ?_);intro m3620 o3620);refine aDq (i:=1) ‹_› 8 rfl aU rfl rfl rfl c2.2 (by decide) (by decide) one2 ?_;intro mB oB
        simp only[lsS,lsZ]at oB
        refine⟨rfl,?_⟩
        have ef:=eW (cs:=[.int .i64 0,.string ⟨⟨[]⟩⟩,aK,aK,aK,.string ⟨⟨[]⟩⟩,.string ⟨⟨[]⟩⟩,.int .i64 0,.int .i64 0]) (c:=c1) (d:=c2) rfl
        exact⟨a2,q4,w4,c2,I2,ua,uc,hm4,hle4,hR4,hx2,ef▸Own.sel ‹_› [0,1,2,3,4,5,6,7,8] rfl⟩
      ·skip
       (refine aDD o9 cE aU rfl rfl (by decide) ?_);refine aI rfl ?_;intro b3691 m3691 o3691;refine aI ((o3691.boxBlk 4 rfl).trans (o9.boxBlk 4 rfl).symm) ?_;refine dB.callL (fun B' o'=>ih (level+1) (by omega) B' bp z tk _ _ _ o' hR3 (by omega)) ‹_› rfl (fun a2 q4 w4 v I2 h9 hm4 hv hle4 hR4 oq=>?_) (fun e w' h' hm o2=>⟨e,w',hE.trans (aDg hm),rfl,o2⟩)
       obtain⟨c2,rfl,hx2⟩:=hv
       have o7:=oq
       simp only[PSt,pick,lcA,lnA,lgS,lgZ,lgN]at o7
       clear oq
       refine⟨Eq.trans (Own.satK o7 5 rfl) (Eq.symm (Own.satK (x:=box b13 _ _) ‹_› 4 rfl)),?_⟩
       have one2:=fF (Own.satK o7 2 rfl) hx2;refine aDQ ‹_› 8 rfl cE aU (by decide) (Own.boxArrN ‹_› 9 rfl (n:=1) rfl (by omega)) (by simp[Value.oneCell']) (by simp only[maxLen];omega) (by omega) ?_;intro vA mA oA
       obtain⟨ua,uc,rfl⟩:=oA.rowIs 8 rfl
       refine aDo cE aU (oA.rowArrN 8 rfl) rfl (by omega) (by omega) ?_;refine fA aM rfl rfl rfl ?_
       refine⟨?_,?_⟩
       ·skip
        refine aDq (i:=1) ‹_› 8 rfl aU rfl rfl rfl c2.2 (by decide) (by decide) one2 ?_;intro mB oB
        simp only[lsS,lsZ]at oB
        (refine aDN oB 5 rfl dC rfl (by simp) (aI ⟨rfl,rfl⟩ ?_);intro m3750 o3750)
        refine⟨rfl,?_⟩
        have ef:=eW (cs:=[.int .i64 0,.string ⟨⟨[]⟩⟩,aK,aK,aK,.string ⟨⟨[]⟩⟩,.string ⟨⟨[]⟩⟩,.int .i64 0,.int .i64 0]) (c:=c1) (d:=c2) rfl
        exact⟨a2,q4,w4,c2,I2,ua,uc,hm4,hle4,hR4,hx2,ef▸Own.sel ‹_› [0,1,2,3,4,5,6,7,8] rfl⟩
       ·skip
        (refine aDN oA 5 rfl dC rfl (by simp) (aI ⟨rfl,rfl⟩ ?_);intro m3760 o3760);refine aDq (i:=1) ‹_› 8 rfl aU rfl rfl rfl c2.2 (by decide) (by decide) one2 ?_;intro mB oB
        simp only[lsS,lsZ]at oB
        refine⟨rfl,?_⟩
        have ef:=eW (cs:=[.int .i64 0,.string ⟨⟨[]⟩⟩,aK,aK,aK,.string ⟨⟨[]⟩⟩,.string ⟨⟨[]⟩⟩,.int .i64 0,.int .i64 0]) (c:=c1) (d:=c2) rfl
        exact⟨a2,q4,w4,c2,I2,ua,uc,hm4,hle4,hR4,hx2,ef▸Own.sel ‹_› [0,1,2,3,4,5,6,7,8] rfl⟩
     ·rintro _ junk3 h9 ⟨a2,q4,w4,c2,I2,ua,uc,hm,hle4,hR4,hx2,o8⟩
      rw[aDf hm,aDu]at hE
      refine aD2 ?_;refine rR (fA cM rfl rfl rfl ?_);refine rR (aDe o8 7 rfl aAj rfl rfl ?_);refine aDV (xD b13 _) ?_;rintro _ h10 ⟨rfl,oc⟩;have o9:=oc.thenE o8;clear oc o8;have e2:eC z 2 (bH ts) [a1,a2] q4=.ok (Ex.mk 4 [] [a1,a2] [] [] [] [] 0 (bH ts),q4):=rfl
      rw[aDf e2]at hE
      (refine aDO o9 aJ aO rfl rfl (by decide) (aI rfl ?_);intro b3840 m3840 o3840);refine aV (ss:=[[41]]) ‹_› rfl ⟨9,by decide,rfl⟩ hR4 (by omega) (by decide) (fun _ q5 w5 v h11 hm5 hv hle5 hR5 oq=>?_) (fun e w' h' hm o2=>⟨e,w',hE.trans (aDg hm),rfl,o2⟩);subst hv
      rw[aDf hm5]at hE
      have o10:=oq
      simp only[PSt,pick,lcA,lnA,lgS,lgZ,lgN]at o10
      clear oq o9;refine rR (aDi o10 5 rfl aU rfl rfl rfl ?_);(refine aDh o10 4 rfl aU rfl (by decide) (aI ⟨rfl,rfl⟩ ?_);intro m3861 o3861)
      first|refine aDt rfl o3861 4 rfl aU rfl rfl ?_|refine aDs rfl o3861 4 rfl aU rfl rfl ?_|refine RetVC.cellTT rfl o3861 4 rfl aU rfl rfl ?_
      have er:[c1,c2].flatMap Subtype.val=c1.1++c2.1:=by simp
      exact⟨_,q5,w5,eK (eK I2 I1) (row (.slice ua 2 uc) 42 9 2 (c1.1++c2.1)),hE,⟨⟨xT 4 [] (.slice ua 2 uc) aK aK [] [] 0 (bH ts),rfl⟩,rfl,by rw[mE];exact⟨_,_,_,rfl,aP,aP,[c1,c2],by rw[er];exact dQ.inr,mE.mono (fun _ (s:(eK (eK _ _) _).sat _)=>s.1.2) _ _ hx1,mE.mono (fun _ (s:(eK (eK _ _) _).sat _)=>s.1.1) _ _ hx2,trivial⟩⟩,by omega,hR5,((Own.sel ‹_› [2,3,8,0,1] rfl).join.join).sel [1,2,0] rfl⟩
theorem expr_union (n:Nat)(hn:n≤11)(ih:nE n):∀(level:Int)(_:level=13 - ((n+1:Nat):Int))(B:Base)(bp z:Nat)(tk:Item)(w:Value)(ts:List Tok)(h:Heap)(_:Own B (PSt bp z w tk) h)(_:cR tk w ts)(_:ts.length≤5000)(_:∀ j,j<3→bD [cJ.getD j [],[40]] ts=false)(_:bD [[117,110,105,111,110],[40]] ts=true),
  Spec Tryz.prog 118 [.pointer (some ⟨bp,0,none⟩),.int .i64 level] h (dB B bp z tk ts.length (bV z (n+1) ts) exV):=by
 intro level hlv B bp z tk w ts h o hR hl hno hb
 obtain⟨hRd,hK⟩:=hR
 have hR:cR tk w ts:=⟨hRd,hK⟩;refine aDX Tryz.func118 rfl Tryz.ntmps118 (by kernel_rfl) ?_;(refine aDP o aU ?_;intro b10 m10 o10);refine aDR (fun hc=>absurd hc (by omega)) (fun c11=>?_);refine rR (aDl aM ?_);refine aI rfl ?_;(refine aDP o10 aU ?_;intro b13 m13 o13);(refine aDh o13 3 rfl aU rfl (by decide) (aI ⟨rfl,rfl⟩ ?_);intro m14 o14);refine rR (nC rfl ?_);refine rR (fA fW rfl rfl rfl ?_);refine rR (aDe o14 0 rfl eX rfl rfl ?_);refine rR (aDE (o14.reads 1 hRd rfl) fX ?_);refine Br.join [19,20,21,22,23,24,25,26] [] (fun _ hh=>Own B [box bp [w,.int .i64 z] 72,tk,box b10 [.int .i64 0,.string ⟨⟨[]⟩⟩,aK,aK,aK,.string ⟨⟨[]⟩⟩,.string ⟨⟨[]⟩⟩,.int .i64 0,.int .i64 0] 42,box b13 [.int .i64 1,.string ⟨⟨[]⟩⟩,aK,aK,aK,.string ⟨⟨[]⟩⟩,.string ⟨⟨[]⟩⟩,.int .i64 0,.int .i64 (bH ts)] 42] hh) rfl rfl ?_ ?_
 ·cases ts with
  | nil =>
   refine aDT ?_
   refine⟨rfl,?_⟩
   exact o14
  | cons t r =>
   have hx:(t::r)[0]?=some t:=rfl;have hln:(t::r).length=r.length+1:=rfl;refine aDR (fun c30=>?_) (fun hc=>absurd (by omega) hc);refine rR (nC rfl ?_);refine rR (fA fW rfl rfl rfl ?_);refine rR (aDe o14 0 rfl eX rfl rfl ?_);refine rR (aDo fX bF (o14.reads 1 hRd rfl) rfl (by omega) (by omega) ?_);refine rR (aDv (o14.reads 1 hRd rfl) (by omega) eZ rfl rfl rfl ?_);refine rR (aDC (o14.reads 1 hRd rfl) aY (fun _=>rfl) rfl ‹_› rfl ?_);refine rR (fA aM rfl rfl rfl ?_);(refine aDh o14 3 rfl aY rfl (by decide) (aI ⟨rfl,rfl⟩ ?_);intro m38 o38)
   refine⟨rfl,?_⟩
   exact Own.sel ‹_› [0,1,2,3] rfl
 ·intro vs junk hh oh
  refine aDV (eV bp _) ?_;rintro _ h2 ⟨bo,pb,rfl,oc⟩;have o2:=oh.call oc
  simp only[lcA,lnA]at o2
  clear oc;refine rR (aDn rfl eD ?_);refine aD1 [6,7,30,31,32,33,34,35,36,37,38,39,40,41,42,43,44,45,46,47,48,49,50,51,52,53,54,55,56,57,58,59,60,61,62,63,64,65,66,67,68,69,70,71,72,73,74,75,76,77,78,79,80,81,82,83] [30] (fun vs hh=>∃(i:Nat),i≤3∧vs=[.int .i64 i]∧Own B [box bp [w,.int .i64 z] 72,tk,box b10 [.int .i64 0,.string ⟨⟨[]⟩⟩,aK,aK,aK,.string ⟨⟨[]⟩⟩,.string ⟨⟨[]⟩⟩,.int .i64 0,.int .i64 0] 42,box b13 [.int .i64 1,.string ⟨⟨[]⟩⟩,aK,aK,aK,.string ⟨⟨[]⟩⟩,.string ⟨⟨[]⟩⟩,.int .i64 0,.int .i64 (bH ts)] 42,box pb [.pointer (some ⟨bp,0,none⟩)] 70,box bo (sH pb) 188] hh) (fun vs _=>match vs with|[.int _ i]=>7 - i.toNat|_=>0) ?_ ?_
  ·exact⟨0,by omega,rfl,o2⟩
  ·rintro vs' junk' h3 ⟨i,hi,rfl,o3⟩
   clear o14 oh o2;have hoL:(sH pb).length=7*3:=rfl
   rcases(by omega:i=0∨i=1∨i=2∨i=3) with rfl|rfl|rfl|rfl
   ·refine aDS ?_
    refine rR (aDo eD aW (o3.boxArrN 5 rfl ‹_› (by omega)) rfl (by omega) (by omega) ?_);refine rR (aDi o3 5 rfl aW rfl rfl rfl ?_);(refine aDP o3 aW ?_;intro b1002 m1002 o1002);(refine aDh o1002 6 rfl aW rfl (by decide) (aI ⟨rfl,rfl⟩ ?_);intro m1003 o1003);refine rR (fA cM rfl rfl rfl ?_);refine rR (aDe o1003 6 rfl aO rfl rfl ?_);(refine aDO o1003 aJ aO rfl rfl (by decide) (aI rfl ?_);intro b1006 m1006 o1006);refine aDV (bQ [[115,101,108,101,99,116],[40]] _ bp w ts _ (Own.cellB ‹_› 0 rfl 0) (Own.reads ‹_› 1 hR.1 rfl) (Own.boxArr ‹_› 7 rfl rfl (by decide)) hl) ?_;rintro _ h4 ⟨rv,oc⟩;have o4:=oc.thenE ‹_›;clear oc;have hb:bD [[115,101,108,101,99,116],[40]] ts=false:=hno 0 (by decide)
    rw[hb]at rv
    subst rv;refine aDS ?_;refine aDY (by omega) (by omega) ?_
    refine⟨rfl,?_⟩
    exact⟨⟨1,by omega,rfl,Own.sel ‹_› [0,1,2,3,4,5] rfl⟩,by simp⟩
   ·refine aDS ?_
    refine rR (aDo eD aW (o3.boxArrN 5 rfl ‹_› (by omega)) rfl (by omega) (by omega) ?_);refine rR (aDi o3 5 rfl aW rfl rfl rfl ?_);(refine aDP o3 aW ?_;intro b2002 m2002 o2002);(refine aDh o2002 6 rfl aW rfl (by decide) (aI ⟨rfl,rfl⟩ ?_);intro m2003 o2003);refine rR (fA cM rfl rfl rfl ?_);refine rR (aDe o2003 6 rfl aO rfl rfl ?_);(refine aDO o2003 aJ aO rfl rfl (by decide) (aI rfl ?_);intro b2006 m2006 o2006);refine aDV (bQ [[112,114,111,106,101,99,116],[40]] _ bp w ts _ (Own.cellB ‹_› 0 rfl 0) (Own.reads ‹_› 1 hR.1 rfl) (Own.boxArr ‹_› 7 rfl rfl (by decide)) hl) ?_;rintro _ h4 ⟨rv,oc⟩;have o4:=oc.thenE ‹_›;clear oc;have hb:bD [[112,114,111,106,101,99,116],[40]] ts=false:=hno 1 (by decide)
    rw[hb]at rv
    subst rv;refine aDS ?_;refine aDY (by omega) (by omega) ?_
    refine⟨rfl,?_⟩
    exact⟨⟨2,by omega,rfl,Own.sel ‹_› [0,1,2,3,4,5] rfl⟩,by simp⟩
   ·refine aDS ?_
    refine rR (aDo eD aW (o3.boxArrN 5 rfl ‹_› (by omega)) rfl (by omega) (by omega) ?_);refine rR (aDi o3 5 rfl aW rfl rfl rfl ?_);(refine aDP o3 aW ?_;intro b3002 m3002 o3002);(refine aDh o3002 6 rfl aW rfl (by decide) (aI ⟨rfl,rfl⟩ ?_);intro m3003 o3003);refine rR (fA cM rfl rfl rfl ?_);refine rR (aDe o3003 6 rfl aO rfl rfl ?_);(refine aDO o3003 aJ aO rfl rfl (by decide) (aI rfl ?_);intro b3006 m3006 o3006);refine aDV (bQ [[106,111,105,110],[40]] _ bp w ts _ (Own.cellB ‹_› 0 rfl 0) (Own.reads ‹_› 1 hR.1 rfl) (Own.boxArr ‹_› 7 rfl rfl (by decide)) hl) ?_;rintro _ h4 ⟨rv,oc⟩;have o4:=oc.thenE ‹_›;clear oc;have hb:bD [[106,111,105,110],[40]] ts=false:=hno 2 (by decide)
    rw[hb]at rv
    subst rv;refine aDS ?_;refine aDY (by omega) (by omega) ?_
    refine⟨rfl,?_⟩
    exact⟨⟨3,by omega,rfl,Own.sel ‹_› [0,1,2,3,4,5] rfl⟩,by simp⟩
   ·refine aDS ?_
    refine rR (aDo eD aW (o3.boxArrN 5 rfl ‹_› (by omega)) rfl (by omega) (by omega) ?_);refine rR (aDi o3 5 rfl aW rfl rfl rfl ?_);(refine aDP o3 aW ?_;intro b4002 m4002 o4002);(refine aDh o4002 6 rfl aW rfl (by decide) (aI ⟨rfl,rfl⟩ ?_);intro m4003 o4003);refine rR (fA cM rfl rfl rfl ?_);refine rR (aDe o4003 6 rfl aO rfl rfl ?_);(refine aDO o4003 aJ aO rfl rfl (by decide) (aI rfl ?_);intro b4006 m4006 o4006);refine aDV (bQ [[117,110,105,111,110],[40]] _ bp w ts _ (Own.cellB ‹_› 0 rfl 0) (Own.reads ‹_› 1 hR.1 rfl) (Own.boxArr ‹_› 7 rfl rfl (by decide)) hl) ?_;rintro _ h4 ⟨rv,oc⟩;have o4:=oc.thenE ‹_›;clear oc
    rw[hb]at rv
    subst rv;have hE:bV z (n+1) ts=(aX z [[117,110,105,111,110],[40]] >>= fun _=>bV z n >>= fun a=>ifP (qD 3) (aX z [[44]] >>= fun _=>bV z n >>= fun b=>pure [a,b]) [a] >>= fun kids=>eC z 3 (bH ts) kids >>= fun x=>aX z [[41]] >>= fun _=>(pure x:PM Ex)) ts:=kI (kG (by decide) hno hb);have o5:=o4.sel [0,1,2,3,4,6] rfl
    simp only[PSt,pick,lcA,lnA,lgS,lgZ,lgN]at o5
    clear o3 o4;refine aDT ?_;refine aDY (by omega) (by omega) ?_;refine rR (fA aM rfl rfl rfl ?_);(refine aDN o5 3 rfl aY rfl (by simp) (aI ⟨rfl,rfl⟩ ?_);intro m4041 o4041);refine rR (fA cM rfl rfl rfl ?_);refine rR (aDe o4041 5 rfl aO rfl rfl ?_);(refine aDO o4041 aJ aO rfl rfl (by decide) (aI rfl ?_);intro b4044 m4044 o4044);refine aV (ss:=[[117,110,105,111,110],[40]]) ‹_› rfl ⟨6,by decide,rfl⟩ hR (by omega) (by decide) (fun _ q1 w1 v h5 hm hv hle1 hR1 oq=>?_) (fun e w' h' hm o2=>⟨e,w',hE.trans (aDg hm),rfl,o2⟩);subst hv
    rw[aDf hm]at hE
    have o6:=oq.sel [0,1,2,3,4,5] rfl
    simp only[PSt,pick,lcA,lnA,lgS,lgZ,lgN]at o6
    clear oq hm;refine DrawVC.join [49,50,51,52,53,54,55,56,57,58,59] [] (fun _ hh=>∃(a1:Ex) (q2:List Tok) (w2:Value) (c1:dM) (I1:Item) (ua:Option Addr) (uc:Nat),bV z n q1=.ok (a1,q2)∧q2.length≤q1.length∧cR tk w2 q2∧mE I1 c1.1 a1∧Own B [box bp [w2,.int .i64 z] 72,tk,I1,box b10 [.int .i64 0,.string ⟨⟨[]⟩⟩,aK,aK,aK,.string ⟨⟨[]⟩⟩,.string ⟨⟨[]⟩⟩,.int .i64 0,.int .i64 0] 42,box b13 [.int .i64 5,.string ⟨⟨[]⟩⟩,.slice ua 1 uc,aK,aK,.string ⟨⟨[]⟩⟩,.string ⟨⟨[]⟩⟩,.int .i64 0,.int .i64 (bH ts)] 42,box pb [.pointer (some ⟨bp,0,none⟩)] 70,box b4002 [.string ⟨⟨[117,110,105,111,110]⟩⟩,.bool true,.func (.func 160) ⟨[]⟩ ⟨[]⟩] 188,row (.slice ua 1 uc) 42 9 1 c1.1] hh) ?_ ?_
    ·refine aDB b13 [0,2,3,4,6,9,11] [1] [8,10,12] (.one 0 (.one 1 (.one 2 (.one 3 (.one 4 (.one 6 (.fork 5 7 (.one 7 (.one 8 (.one 9 (.one 11 (.fork 10 12 (.one 12 .done) (.one 10 .done)))))) (.one 5 (.one 8 (.one 9 (.one 11 (.fork 10 12 (.one 12 .done) (.one 10 .done))))))))))))) mixed (by kernel_rfl) rfl (fun _ _ _ _ h=>h) ?_
     refine fA aM rfl rfl rfl ?_;refine StillVCA.load1 dC rfl rfl ((o6.cellB 3 rfl _).trans rfl) ?_;refine aDY (by omega) (by omega) ?_;refine aDn rfl cE ?_
     refine⟨?_,?_⟩
     ·skip
      refine dB.callL (fun B' o'=>ih (level+1) (by omega) B' bp z tk _ _ _ o' hR1 (by omega)) ‹_› rfl (fun a1 q2 w2 v I1 h6 hm hv hle2 hR2 oq=>?_) (fun e w' h' hm o2=>⟨e,w',hE.trans (aDg hm),rfl,o2⟩)
      obtain⟨c1,rfl,hx1⟩:=hv
      have o7:=oq
      simp only[PSt,pick,lcA,lnA,lgS,lgZ,lgN]at o7
      clear oq
      refine⟨Eq.trans (Own.satK o7 4 rfl) (Eq.symm (Own.satK (x:=box b13 _ _) ‹_› 3 rfl)),?_⟩
      have one1:=fF (Own.satK o7 2 rfl) hx1;(refine aDD o7 cE aU rfl rfl (by decide) ?_);refine aI rfl ?_;intro b4101 m4101 o4101;refine aI ((o4101.boxBlk 4 rfl).trans (o7.boxBlk 4 rfl).symm) ?_;have on:=Own.nilRow ‹_› 42 9
      simp only[lcA,lnA]at on
      refine aDQ on 8 rfl cE aU (by decide) (Own.boxArrN on 7 rfl (n:=1) rfl (by omega)) (by simp[Value.oneCell']) (by simp only[maxLen];omega) (by omega) ?_;intro vA mA oA
      obtain⟨ua,uc,rfl⟩:=oA.rowIs 8 rfl
      refine aDo cE aU (oA.rowArrN 8 rfl) rfl (by omega) (by omega) ?_;refine fA aM rfl rfl rfl ?_
      refine⟨?_,?_⟩
      ·skip
       refine aDq (i:=0) ‹_› 8 rfl aU rfl rfl rfl c1.2 (by decide) (by decide) one1 ?_;intro mB oB
       simp only[lsS,lsZ]at oB
       (refine aDN oB 4 rfl dC rfl (by simp) (aI ⟨rfl,rfl⟩ ?_);intro m4140 o4140)
       refine⟨rfl,?_⟩
       have ef:=cH (cs:=[.int .i64 0,.string ⟨⟨[]⟩⟩,aK,aK,aK,.string ⟨⟨[]⟩⟩,.string ⟨⟨[]⟩⟩,.int .i64 0,.int .i64 0]) (c:=c1) rfl
       exact⟨a1,q2,w2,c1,I1,ua,uc,hm,hle2,hR2,hx1,ef▸Own.sel ‹_› [0,1,2,3,4,5,6,8] rfl⟩
      ·skip
       (refine aDN oA 4 rfl dC rfl (by simp) (aI ⟨rfl,rfl⟩ ?_);intro m4150 o4150);refine aDq (i:=0) ‹_› 8 rfl aU rfl rfl rfl c1.2 (by decide) (by decide) one1 ?_;intro mB oB
       simp only[lsS,lsZ]at oB
       refine⟨rfl,?_⟩
       have ef:=cH (cs:=[.int .i64 0,.string ⟨⟨[]⟩⟩,aK,aK,aK,.string ⟨⟨[]⟩⟩,.string ⟨⟨[]⟩⟩,.int .i64 0,.int .i64 0]) (c:=c1) rfl
       exact⟨a1,q2,w2,c1,I1,ua,uc,hm,hle2,hR2,hx1,ef▸Own.sel ‹_› [0,1,2,3,4,5,6,8] rfl⟩
     ·skip
      (refine aDD o6 cE aU rfl rfl (by decide) ?_);refine aI rfl ?_;intro b4281 m4281 o4281;refine aI ((o4281.boxBlk 3 rfl).trans (o6.boxBlk 3 rfl).symm) ?_;refine dB.callL (fun B' o'=>ih (level+1) (by omega) B' bp z tk _ _ _ o' hR1 (by omega)) ‹_› rfl (fun a1 q2 w2 v I1 h6 hm hv hle2 hR2 oq=>?_) (fun e w' h' hm o2=>⟨e,w',hE.trans (aDg hm),rfl,o2⟩)
      obtain⟨c1,rfl,hx1⟩:=hv
      have o7:=oq
      simp only[PSt,pick,lcA,lnA,lgS,lgZ,lgN]at o7
      clear oq
      refine⟨Eq.trans (Own.satK o7 4 rfl) (Eq.symm (Own.satK (x:=box b13 _ _) ‹_› 3 rfl)),?_⟩
      have one1:=fF (Own.satK o7 2 rfl) hx1;have on:=Own.nilRow ‹_› 42 9
      simp only[lcA,lnA]at on
      refine aDQ on 8 rfl cE aU (by decide) (Own.boxArrN on 7 rfl (n:=1) rfl (by omega)) (by simp[Value.oneCell']) (by simp only[maxLen];omega) (by omega) ?_;intro vA mA oA
      obtain⟨ua,uc,rfl⟩:=oA.rowIs 8 rfl
      refine aDo cE aU (oA.rowArrN 8 rfl) rfl (by omega) (by omega) ?_;refine fA aM rfl rfl rfl ?_
      refine⟨?_,?_⟩
      ·skip
       refine aDq (i:=0) ‹_› 8 rfl aU rfl rfl rfl c1.2 (by decide) (by decide) one1 ?_;intro mB oB
       simp only[lsS,lsZ]at oB
       (refine aDN oB 4 rfl dC rfl (by simp) (aI ⟨rfl,rfl⟩ ?_);intro m4340 o4340)
       refine⟨rfl,?_⟩
       have ef:=cH (cs:=[.int .i64 0,.string ⟨⟨[]⟩⟩,aK,aK,aK,.string ⟨⟨[]⟩⟩,.string ⟨⟨[]⟩⟩,.int .i64 0,.int .i64 0]) (c:=c1) rfl
       exact⟨a1,q2,w2,c1,I1,ua,uc,hm,hle2,hR2,hx1,ef▸Own.sel ‹_› [0,1,2,3,4,5,6,8] rfl⟩
      ·skip
       (refine aDN oA 4 rfl dC rfl (by simp) (aI ⟨rfl,rfl⟩ ?_);intro m4350 o4350);refine aDq (i:=0) ‹_› 8 rfl aU rfl rfl rfl c1.2 (by decide) (by decide) one1 ?_;intro mB oB
       simp only[lsS,lsZ]at oB
       refine⟨rfl,?_⟩
       have ef:=cH (cs:=[.int .i64 0,.string ⟨⟨[]⟩⟩,aK,aK,aK,.string ⟨⟨[]⟩⟩,.string ⟨⟨[]⟩⟩,.int .i64 0,.int .i64 0]) (c:=c1) rfl
       exact⟨a1,q2,w2,c1,I1,ua,uc,hm,hle2,hR2,hx1,ef▸Own.sel ‹_› [0,1,2,3,4,5,6,8] rfl⟩
    ·rintro _ junk2 h7 ⟨a1,q2,w2,c1,I1,ua,uc,hm,hle2,hR2,hx1,o8⟩
     rw[aDf hm]at hE
     rw[kB (by rfl),aDJ]at hE
     refine rR (fA cM rfl rfl rfl ?_);refine rR (aDe o8 6 rfl ty4 rfl rfl ?_);refine aDS ?_;(refine aDO o8 aJ aO rfl rfl (by decide) (aI rfl ?_);intro b4502 m4502 o4502);refine aV (ss:=[[44]]) ‹_› rfl ⟨8,by decide,rfl⟩ hR2 (by omega) (by decide) (fun _ q3 w3 v h8 hm3 hv hle3 hR3 oq=>?_) (fun e w' h' hm o2=>⟨e,w',hE.trans (aDg hm),rfl,o2⟩);subst hv
     rw[aDf hm3,aDJ]at hE
     have o9:=oq.sel [0,1,2,3,4,5,6,7] rfl
     simp only[PSt,pick,lcA,lnA,lgS,lgZ,lgN]at o9
     clear oq o8 hm;refine DrawVC.join [65,66,67,68,69,70,71,72,73,74,75] [] (fun _ hh=>∃(a2:Ex) (q4:List Tok) (w4:Value) (c2:dM) (I2:Item) (ua:Option Addr) (uc:Nat),bV z n q3=.ok (a2,q4)∧q4.length≤q3.length∧cR tk w4 q4∧mE I2 c2.1 a2∧Own B [box bp [w4,.int .i64 z] 72,tk,I2,I1,box b10 [.int .i64 0,.string ⟨⟨[]⟩⟩,aK,aK,aK,.string ⟨⟨[]⟩⟩,.string ⟨⟨[]⟩⟩,.int .i64 0,.int .i64 0] 42,box b13 [.int .i64 5,.string ⟨⟨[]⟩⟩,.slice ua 2 uc,aK,aK,.string ⟨⟨[]⟩⟩,.string ⟨⟨[]⟩⟩,.int .i64 0,.int .i64 (bH ts)] 42,box pb [.pointer (some ⟨bp,0,none⟩)] 70,box b4002 [.string ⟨⟨[117,110,105,111,110]⟩⟩,.bool true,.func (.func 160) ⟨[]⟩ ⟨[]⟩] 188,row (.slice ua 2 uc) 42 9 2 (c1.1++c2.1)] hh) ?_ ?_
     ·refine aDB b13 [0,2,3,4,6,9,11] [1] [8,10,12] (.one 0 (.one 1 (.one 2 (.one 3 (.one 4 (.one 6 (.fork 5 7 (.one 7 (.one 8 (.one 9 (.one 11 (.fork 10 12 (.one 12 .done) (.one 10 .done)))))) (.one 5 (.one 8 (.one 9 (.one 11 (.fork 10 12 (.one 12 .done) (.one 10 .done))))))))))))) mixed (by kernel_rfl) rfl (fun _ _ _ _ h=>h) ?_
      refine fA aM rfl rfl rfl ?_;refine StillVCA.load1 dC rfl rfl ((o9.cellB 4 rfl _).trans rfl) ?_;refine aDY (by omega) (by omega) ?_;refine aDn rfl cE ?_
      refine⟨?_,?_⟩
      ·skip
       refine dB.callL (fun B' o'=>ih (level+1) (by omega) B' bp z tk _ _ _ o' hR3 (by omega)) ‹_› rfl (fun a2 q4 w4 v I2 h9 hm4 hv hle4 hR4 oq=>?_) (fun e w' h' hm o2=>⟨e,w',hE.trans (aDg hm),rfl,o2⟩)
       obtain⟨c2,rfl,hx2⟩:=hv
       have o7:=oq
       simp only[PSt,pick,lcA,lnA,lgS,lgZ,lgN]at o7
       clear oq
       refine⟨Eq.trans (Own.satK o7 5 rfl) (Eq.symm (Own.satK (x:=box b13 _ _) ‹_› 4 rfl)),?_⟩
       have one2:=fF (Own.satK o7 2 rfl) hx2;(refine aDD o7 cE aU rfl rfl (by decide) ?_);refine aI rfl ?_;intro b4571 m4571 o4571;refine aI ((o4571.boxBlk 5 rfl).trans (o7.boxBlk 5 rfl).symm) ?_;refine aDQ ‹_› 8 rfl cE aU (by decide) (Own.boxArrN ‹_› 9 rfl (n:=1) rfl (by omega)) (by simp[Value.oneCell']) (by simp only[maxLen];omega) (by omega) ?_;intro vA mA oA
       obtain⟨ua,uc,rfl⟩:=oA.rowIs 8 rfl
       refine aDo cE aU (oA.rowArrN 8 rfl) rfl (by omega) (by omega) ?_;refine fA aM rfl rfl rfl ?_
       refine⟨?_,?_⟩
       ·skip
        refine aDq (i:=1) ‹_› 8 rfl aU rfl rfl rfl c2.2 (by decide) (by decide) one2 ?_;intro mB oB
        simp only[lsS,lsZ]at oB
        (refine aDN oB 5 rfl dC rfl (by simp) (aI ⟨rfl,rfl⟩ ?_);intro m4610 o4610)
        refine⟨rfl,?_⟩
        have ef:=eW (cs:=[.int .i64 0,.string ⟨⟨[]⟩⟩,aK,aK,aK,.string ⟨⟨[]⟩⟩,.string ⟨⟨[]⟩⟩,.int .i64 0,.int .i64 0]) (c:=c1) (d:=c2) rfl
        exact⟨a2,q4,w4,c2,I2,ua,uc,hm4,hle4,hR4,hx2,ef▸Own.sel ‹_› [0,1,2,3,4,5,6,7,8] rfl⟩
       ·skip
        (refine aDN oA 5 rfl dC rfl (by simp) (aI ⟨rfl,rfl⟩ ?_);intro m4620 o4620);refine aDq (i:=1) ‹_› 8 rfl aU rfl rfl rfl c2.2 (by decide) (by decide) one2 ?_;intro mB oB
        simp only[lsS,lsZ]at oB
        refine⟨rfl,?_⟩
        have ef:=eW (cs:=[.int .i64 0,.string ⟨⟨[]⟩⟩,aK,aK,aK,.string ⟨⟨[]⟩⟩,.string ⟨⟨[]⟩⟩,.int .i64 0,.int .i64 0]) (c:=c1) (d:=c2) rfl
        exact⟨a2,q4,w4,c2,I2,ua,uc,hm4,hle4,hR4,hx2,ef▸Own.sel ‹_› [0,1,2,3,4,5,6,7,8] rfl⟩
      ·skip
       (refine aDD o9 cE aU rfl rfl (by decide) ?_);refine aI rfl ?_;intro b4691 m4691 o4691;refine aI ((o4691.boxBlk 4 rfl).trans (o9.boxBlk 4 rfl).symm) ?_;refine dB.callL (fun B' o'=>ih (level+1) (by omega) B' bp z tk _ _ _ o' hR3 (by omega)) ‹_› rfl (fun a2 q4 w4 v I2 h9 hm4 hv hle4 hR4 oq=>?_) (fun e w' h' hm o2=>⟨e,w',hE.trans (aDg hm),rfl,o2⟩)
       obtain⟨c2,rfl,hx2⟩:=hv
       have o7:=oq
       simp only[PSt,pick,lcA,lnA,lgS,lgZ,lgN]at o7
       clear oq
       refine⟨Eq.trans (Own.satK o7 5 rfl) (Eq.symm (Own.satK (x:=box b13 _ _) ‹_› 4 rfl)),?_⟩
       have one2:=fF (Own.satK o7 2 rfl) hx2;refine aDQ ‹_› 8 rfl cE aU (by decide) (Own.boxArrN ‹_› 9 rfl (n:=1) rfl (by omega)) (by simp[Value.oneCell']) (by simp only[maxLen];omega) (by omega) ?_;intro vA mA oA
       obtain⟨ua,uc,rfl⟩:=oA.rowIs 8 rfl
       refine aDo cE aU (oA.rowArrN 8 rfl) rfl (by omega) (by omega) ?_;refine fA aM rfl rfl rfl ?_
       refine⟨?_,?_⟩
       ·skip
        refine aDq (i:=1) ‹_› 8 rfl aU rfl rfl rfl c2.2 (by decide) (by decide) one2 ?_;intro mB oB
        simp only[lsS,lsZ]at oB
        (refine aDN oB 5 rfl dC rfl (by simp) (aI ⟨rfl,rfl⟩ ?_);intro m4750 o4750)
        refine⟨rfl,?_⟩
        have ef:=eW (cs:=[.int .i64 0,.string ⟨⟨[]⟩⟩,aK,aK,aK,.string ⟨⟨[]⟩⟩,.string ⟨⟨[]⟩⟩,.int .i64 0,.int .i64 0]) (c:=c1) (d:=c2) rfl
        exact⟨a2,q4,w4,c2,I2,ua,uc,hm4,hle4,hR4,hx2,ef▸Own.sel ‹_› [0,1,2,3,4,5,6,7,8] rfl⟩
       ·skip
        (refine aDN oA 5 rfl dC rfl (by simp) (aI ⟨rfl,rfl⟩ ?_);intro m4760 o4760);refine aDq (i:=1) ‹_› 8 rfl aU rfl rfl rfl c2.2 (by decide) (by decide) one2 ?_;intro mB oB
        simp only[lsS,lsZ]at oB
        refine⟨rfl,?_⟩
        have ef:=eW (cs:=[.int .i64 0,.string ⟨⟨[]⟩⟩,aK,aK,aK,.string ⟨⟨[]⟩⟩,.string ⟨⟨[]⟩⟩,.int .i64 0,.int .i64 0]) (c:=c1) (d:=c2) rfl
        exact⟨a2,q4,w4,c2,I2,ua,uc,hm4,hle4,hR4,hx2,ef▸Own.sel ‹_› [0,1,2,3,4,5,6,7,8] rfl⟩
     ·rintro _ junk3 h9 ⟨a2,q4,w4,c2,I2,ua,uc,hm,hle4,hR4,hx2,o8⟩
      rw[aDf hm,aDu]at hE
      refine aD2 ?_;refine rR (fA cM rfl rfl rfl ?_);refine rR (aDe o8 7 rfl aAj rfl rfl ?_);refine aDV (xD b13 _) ?_;rintro _ h10 ⟨rfl,oc⟩;have o9:=oc.thenE o8;clear oc o8;have e2:eC z 3 (bH ts) [a1,a2] q4=.ok (Ex.mk 5 [] [a1,a2] [] [] [] [] 0 (bH ts),q4):=rfl
      rw[aDf e2]at hE
      (refine aDO o9 aJ aO rfl rfl (by decide) (aI rfl ?_);intro b4840 m4840 o4840);refine aV (ss:=[[41]]) ‹_› rfl ⟨9,by decide,rfl⟩ hR4 (by omega) (by decide) (fun _ q5 w5 v h11 hm5 hv hle5 hR5 oq=>?_) (fun e w' h' hm o2=>⟨e,w',hE.trans (aDg hm),rfl,o2⟩);subst hv
      rw[aDf hm5]at hE
      have o10:=oq
      simp only[PSt,pick,lcA,lnA,lgS,lgZ,lgN]at o10
      clear oq o9;refine rR (aDi o10 5 rfl aU rfl rfl rfl ?_);(refine aDh o10 4 rfl aU rfl (by decide) (aI ⟨rfl,rfl⟩ ?_);intro m4861 o4861)
      first|refine aDt rfl o4861 4 rfl aU rfl rfl ?_|refine aDs rfl o4861 4 rfl aU rfl rfl ?_|refine RetVC.cellTT rfl o4861 4 rfl aU rfl rfl ?_
      have er:[c1,c2].flatMap Subtype.val=c1.1++c2.1:=by simp
      exact⟨_,q5,w5,eK (eK I2 I1) (row (.slice ua 2 uc) 42 9 2 (c1.1++c2.1)),hE,⟨⟨xT 5 [] (.slice ua 2 uc) aK aK [] [] 0 (bH ts),rfl⟩,rfl,by rw[mE];exact⟨_,_,_,rfl,aP,aP,[c1,c2],by rw[er];exact dQ.inr,mE.mono (fun _ (s:(eK (eK _ _) _).sat _)=>s.1.2) _ _ hx1,mE.mono (fun _ (s:(eK (eK _ _) _).sat _)=>s.1.1) _ _ hx2,trivial⟩⟩,by omega,hR5,((Own.sel ‹_› [2,3,8,0,1] rfl).join.join).sel [1,2,0] rfl⟩
theorem expr_minus (n:Nat)(hn:n≤11)(ih:nE n):∀(level:Int)(_:level=13 - ((n+1:Nat):Int))(B:Base)(bp z:Nat)(tk:Item)(w:Value)(ts:List Tok)(h:Heap)(_:Own B (PSt bp z w tk) h)(_:cR tk w ts)(_:ts.length≤5000)(_:∀ j,j<4→bD [cJ.getD j [],[40]] ts=false)(_:bD [[109,105,110,117,115],[40]] ts=true),
  Spec Tryz.prog 118 [.pointer (some ⟨bp,0,none⟩),.int .i64 level] h (dB B bp z tk ts.length (bV z (n+1) ts) exV):=by
 intro level hlv B bp z tk w ts h o hR hl hno hb
 obtain⟨hRd,hK⟩:=hR
 have hR:cR tk w ts:=⟨hRd,hK⟩;refine aDX Tryz.func118 rfl Tryz.ntmps118 (by kernel_rfl) ?_;(refine aDP o aU ?_;intro b10 m10 o10);refine aDR (fun hc=>absurd hc (by omega)) (fun c11=>?_);refine rR (aDl aM ?_);refine aI rfl ?_;(refine aDP o10 aU ?_;intro b13 m13 o13);(refine aDh o13 3 rfl aU rfl (by decide) (aI ⟨rfl,rfl⟩ ?_);intro m14 o14);refine rR (nC rfl ?_);refine rR (fA fW rfl rfl rfl ?_);refine rR (aDe o14 0 rfl eX rfl rfl ?_);refine rR (aDE (o14.reads 1 hRd rfl) fX ?_);refine Br.join [19,20,21,22,23,24,25,26] [] (fun _ hh=>Own B [box bp [w,.int .i64 z] 72,tk,box b10 [.int .i64 0,.string ⟨⟨[]⟩⟩,aK,aK,aK,.string ⟨⟨[]⟩⟩,.string ⟨⟨[]⟩⟩,.int .i64 0,.int .i64 0] 42,box b13 [.int .i64 1,.string ⟨⟨[]⟩⟩,aK,aK,aK,.string ⟨⟨[]⟩⟩,.string ⟨⟨[]⟩⟩,.int .i64 0,.int .i64 (bH ts)] 42] hh) rfl rfl ?_ ?_
 ·cases ts with
  | nil =>
   refine aDT ?_
   refine⟨rfl,?_⟩
   exact o14
  | cons t r =>
   have hx:(t::r)[0]?=some t:=rfl;have hln:(t::r).length=r.length+1:=rfl;refine aDR (fun c30=>?_) (fun hc=>absurd (by omega) hc);refine rR (nC rfl ?_);refine rR (fA fW rfl rfl rfl ?_);refine rR (aDe o14 0 rfl eX rfl rfl ?_);refine rR (aDo fX bF (o14.reads 1 hRd rfl) rfl (by omega) (by omega) ?_);refine rR (aDv (o14.reads 1 hRd rfl) (by omega) eZ rfl rfl rfl ?_);refine rR (aDC (o14.reads 1 hRd rfl) aY (fun _=>rfl) rfl ‹_› rfl ?_);refine rR (fA aM rfl rfl rfl ?_);(refine aDh o14 3 rfl aY rfl (by decide) (aI ⟨rfl,rfl⟩ ?_);intro m38 o38)
   refine⟨rfl,?_⟩
   exact Own.sel ‹_› [0,1,2,3] rfl
 ·intro vs junk hh oh
  refine aDV (eV bp _) ?_;rintro _ h2 ⟨bo,pb,rfl,oc⟩;have o2:=oh.call oc
  simp only[lcA,lnA]at o2
  clear oc;refine rR (aDn rfl eD ?_);refine aD1 [6,7,30,31,32,33,34,35,36,37,38,39,40,41,42,43,44,45,46,47,48,49,50,51,52,53,54,55,56,57,58,59,60,61,62,63,64,65,66,67,68,69,70,71,72,73,74,75,76,77,78,79,80,81,82,83] [30] (fun vs hh=>∃(i:Nat),i≤4∧vs=[.int .i64 i]∧Own B [box bp [w,.int .i64 z] 72,tk,box b10 [.int .i64 0,.string ⟨⟨[]⟩⟩,aK,aK,aK,.string ⟨⟨[]⟩⟩,.string ⟨⟨[]⟩⟩,.int .i64 0,.int .i64 0] 42,box b13 [.int .i64 1,.string ⟨⟨[]⟩⟩,aK,aK,aK,.string ⟨⟨[]⟩⟩,.string ⟨⟨[]⟩⟩,.int .i64 0,.int .i64 (bH ts)] 42,box pb [.pointer (some ⟨bp,0,none⟩)] 70,box bo (sH pb) 188] hh) (fun vs _=>match vs with|[.int _ i]=>7 - i.toNat|_=>0) ?_ ?_
  ·exact⟨0,by omega,rfl,o2⟩
  ·rintro vs' junk' h3 ⟨i,hi,rfl,o3⟩
   clear o14 oh o2;have hoL:(sH pb).length=7*3:=rfl
   rcases(by omega:i=0∨i=1∨i=2∨i=3∨i=4) with rfl|rfl|rfl|rfl|rfl
   ·refine aDS ?_
    refine rR (aDo eD aW (o3.boxArrN 5 rfl ‹_› (by omega)) rfl (by omega) (by omega) ?_);refine rR (aDi o3 5 rfl aW rfl rfl rfl ?_);(refine aDP o3 aW ?_;intro b1002 m1002 o1002);(refine aDh o1002 6 rfl aW rfl (by decide) (aI ⟨rfl,rfl⟩ ?_);intro m1003 o1003);refine rR (fA cM rfl rfl rfl ?_);refine rR (aDe o1003 6 rfl aO rfl rfl ?_);(refine aDO o1003 aJ aO rfl rfl (by decide) (aI rfl ?_);intro b1006 m1006 o1006);refine aDV (bQ [[115,101,108,101,99,116],[40]] _ bp w ts _ (Own.cellB ‹_› 0 rfl 0) (Own.reads ‹_› 1 hR.1 rfl) (Own.boxArr ‹_› 7 rfl rfl (by decide)) hl) ?_;rintro _ h4 ⟨rv,oc⟩;have o4:=oc.thenE ‹_›;clear oc;have hb:bD [[115,101,108,101,99,116],[40]] ts=false:=hno 0 (by decide)
    rw[hb]at rv
    subst rv;refine aDS ?_;refine aDY (by omega) (by omega) ?_
    refine⟨rfl,?_⟩
    exact⟨⟨1,by omega,rfl,Own.sel ‹_› [0,1,2,3,4,5] rfl⟩,by simp⟩
   ·refine aDS ?_
    refine rR (aDo eD aW (o3.boxArrN 5 rfl ‹_› (by omega)) rfl (by omega) (by omega) ?_);refine rR (aDi o3 5 rfl aW rfl rfl rfl ?_);(refine aDP o3 aW ?_;intro b2002 m2002 o2002);(refine aDh o2002 6 rfl aW rfl (by decide) (aI ⟨rfl,rfl⟩ ?_);intro m2003 o2003);refine rR (fA cM rfl rfl rfl ?_);refine rR (aDe o2003 6 rfl aO rfl rfl ?_);(refine aDO o2003 aJ aO rfl rfl (by decide) (aI rfl ?_);intro b2006 m2006 o2006);refine aDV (bQ [[112,114,111,106,101,99,116],[40]] _ bp w ts _ (Own.cellB ‹_› 0 rfl 0) (Own.reads ‹_› 1 hR.1 rfl) (Own.boxArr ‹_› 7 rfl rfl (by decide)) hl) ?_;rintro _ h4 ⟨rv,oc⟩;have o4:=oc.thenE ‹_›;clear oc;have hb:bD [[112,114,111,106,101,99,116],[40]] ts=false:=hno 1 (by decide)
    rw[hb]at rv
    subst rv;refine aDS ?_;refine aDY (by omega) (by omega) ?_
    refine⟨rfl,?_⟩
    exact⟨⟨2,by omega,rfl,Own.sel ‹_› [0,1,2,3,4,5] rfl⟩,by simp⟩
   ·refine aDS ?_
    refine rR (aDo eD aW (o3.boxArrN 5 rfl ‹_› (by omega)) rfl (by omega) (by omega) ?_);refine rR (aDi o3 5 rfl aW rfl rfl rfl ?_);(refine aDP o3 aW ?_;intro b3002 m3002 o3002);(refine aDh o3002 6 rfl aW rfl (by decide) (aI ⟨rfl,rfl⟩ ?_);intro m3003 o3003);refine rR (fA cM rfl rfl rfl ?_);refine rR (aDe o3003 6 rfl aO rfl rfl ?_);(refine aDO o3003 aJ aO rfl rfl (by decide) (aI rfl ?_);intro b3006 m3006 o3006);refine aDV (bQ [[106,111,105,110],[40]] _ bp w ts _ (Own.cellB ‹_› 0 rfl 0) (Own.reads ‹_› 1 hR.1 rfl) (Own.boxArr ‹_› 7 rfl rfl (by decide)) hl) ?_;rintro _ h4 ⟨rv,oc⟩;have o4:=oc.thenE ‹_›;clear oc;have hb:bD [[106,111,105,110],[40]] ts=false:=hno 2 (by decide)
    rw[hb]at rv
    subst rv;refine aDS ?_;refine aDY (by omega) (by omega) ?_
    refine⟨rfl,?_⟩
    exact⟨⟨3,by omega,rfl,Own.sel ‹_› [0,1,2,3,4,5] rfl⟩,by simp⟩
   ·refine aDS ?_
    refine rR (aDo eD aW (o3.boxArrN 5 rfl ‹_› (by omega)) rfl (by omega) (by omega) ?_);refine rR (aDi o3 5 rfl aW rfl rfl rfl ?_);(refine aDP o3 aW ?_;intro b4002 m4002 o4002);(refine aDh o4002 6 rfl aW rfl (by decide) (aI ⟨rfl,rfl⟩ ?_);intro m4003 o4003);refine rR (fA cM rfl rfl rfl ?_);refine rR (aDe o4003 6 rfl aO rfl rfl ?_);(refine aDO o4003 aJ aO rfl rfl (by decide) (aI rfl ?_);intro b4006 m4006 o4006);refine aDV (bQ [[117,110,105,111,110],[40]] _ bp w ts _ (Own.cellB ‹_› 0 rfl 0) (Own.reads ‹_› 1 hR.1 rfl) (Own.boxArr ‹_› 7 rfl rfl (by decide)) hl) ?_;rintro _ h4 ⟨rv,oc⟩;have o4:=oc.thenE ‹_›;clear oc;have hb:bD [[117,110,105,111,110],[40]] ts=false:=hno 3 (by decide)
    rw[hb]at rv
    subst rv;refine aDS ?_;refine aDY (by omega) (by omega) ?_
    refine⟨rfl,?_⟩
    exact⟨⟨4,by omega,rfl,Own.sel ‹_› [0,1,2,3,4,5] rfl⟩,by simp⟩
   ·refine aDS ?_
    refine rR (aDo eD aW (o3.boxArrN 5 rfl ‹_› (by omega)) rfl (by omega) (by omega) ?_);refine rR (aDi o3 5 rfl aW rfl rfl rfl ?_);(refine aDP o3 aW ?_;intro b5002 m5002 o5002);(refine aDh o5002 6 rfl aW rfl (by decide) (aI ⟨rfl,rfl⟩ ?_);intro m5003 o5003);refine rR (fA cM rfl rfl rfl ?_);refine rR (aDe o5003 6 rfl aO rfl rfl ?_);(refine aDO o5003 aJ aO rfl rfl (by decide) (aI rfl ?_);intro b5006 m5006 o5006);refine aDV (bQ [[109,105,110,117,115],[40]] _ bp w ts _ (Own.cellB ‹_› 0 rfl 0) (Own.reads ‹_› 1 hR.1 rfl) (Own.boxArr ‹_› 7 rfl rfl (by decide)) hl) ?_;rintro _ h4 ⟨rv,oc⟩;have o4:=oc.thenE ‹_›;clear oc
    rw[hb]at rv
    subst rv;have hE:bV z (n+1) ts=(aX z [[109,105,110,117,115],[40]] >>= fun _=>bV z n >>= fun a=>ifP (qD 4) (aX z [[44]] >>= fun _=>bV z n >>= fun b=>pure [a,b]) [a] >>= fun kids=>eC z 4 (bH ts) kids >>= fun x=>aX z [[41]] >>= fun _=>(pure x:PM Ex)) ts:=kI (kG (by decide) hno hb);have o5:=o4.sel [0,1,2,3,4,6] rfl
    simp only[PSt,pick,lcA,lnA,lgS,lgZ,lgN]at o5
    clear o3 o4;refine aDT ?_;refine aDY (by omega) (by omega) ?_;refine rR (fA aM rfl rfl rfl ?_);(refine aDN o5 3 rfl aY rfl (by simp) (aI ⟨rfl,rfl⟩ ?_);intro m5041 o5041);refine rR (fA cM rfl rfl rfl ?_);refine rR (aDe o5041 5 rfl aO rfl rfl ?_);(refine aDO o5041 aJ aO rfl rfl (by decide) (aI rfl ?_);intro b5044 m5044 o5044);refine aV (ss:=[[109,105,110,117,115],[40]]) ‹_› rfl ⟨6,by decide,rfl⟩ hR (by omega) (by decide) (fun _ q1 w1 v h5 hm hv hle1 hR1 oq=>?_) (fun e w' h' hm o2=>⟨e,w',hE.trans (aDg hm),rfl,o2⟩);subst hv
    rw[aDf hm]at hE
    have o6:=oq.sel [0,1,2,3,4,5] rfl
    simp only[PSt,pick,lcA,lnA,lgS,lgZ,lgN]at o6
    clear oq hm;refine DrawVC.join [49,50,51,52,53,54,55,56,57,58,59] [] (fun _ hh=>∃(a1:Ex) (q2:List Tok) (w2:Value) (c1:dM) (I1:Item) (ua:Option Addr) (uc:Nat),bV z n q1=.ok (a1,q2)∧q2.length≤q1.length∧cR tk w2 q2∧mE I1 c1.1 a1∧Own B [box bp [w2,.int .i64 z] 72,tk,I1,box b10 [.int .i64 0,.string ⟨⟨[]⟩⟩,aK,aK,aK,.string ⟨⟨[]⟩⟩,.string ⟨⟨[]⟩⟩,.int .i64 0,.int .i64 0] 42,box b13 [.int .i64 6,.string ⟨⟨[]⟩⟩,.slice ua 1 uc,aK,aK,.string ⟨⟨[]⟩⟩,.string ⟨⟨[]⟩⟩,.int .i64 0,.int .i64 (bH ts)] 42,box pb [.pointer (some ⟨bp,0,none⟩)] 70,box b5002 [.string ⟨⟨[109,105,110,117,115]⟩⟩,.bool true,.func (.func 160) ⟨[]⟩ ⟨[]⟩] 188,row (.slice ua 1 uc) 42 9 1 c1.1] hh) ?_ ?_
    ·refine aDB b13 [0,2,3,4,6,9,11] [1] [8,10,12] (.one 0 (.one 1 (.one 2 (.one 3 (.one 4 (.one 6 (.fork 5 7 (.one 7 (.one 8 (.one 9 (.one 11 (.fork 10 12 (.one 12 .done) (.one 10 .done)))))) (.one 5 (.one 8 (.one 9 (.one 11 (.fork 10 12 (.one 12 .done) (.one 10 .done))))))))))))) mixed (by kernel_rfl) rfl (fun _ _ _ _ h=>h) ?_
     refine fA aM rfl rfl rfl ?_;refine StillVCA.load1 dC rfl rfl ((o6.cellB 3 rfl _).trans rfl) ?_;refine aDY (by omega) (by omega) ?_;refine aDn rfl cE ?_
     refine⟨?_,?_⟩
     ·skip
      refine dB.callL (fun B' o'=>ih (level+1) (by omega) B' bp z tk _ _ _ o' hR1 (by omega)) ‹_› rfl (fun a1 q2 w2 v I1 h6 hm hv hle2 hR2 oq=>?_) (fun e w' h' hm o2=>⟨e,w',hE.trans (aDg hm),rfl,o2⟩)
      obtain⟨c1,rfl,hx1⟩:=hv
      have o7:=oq
      simp only[PSt,pick,lcA,lnA,lgS,lgZ,lgN]at o7
      clear oq
      refine⟨Eq.trans (Own.satK o7 4 rfl) (Eq.symm (Own.satK (x:=box b13 _ _) ‹_› 3 rfl)),?_⟩
      have one1:=fF (Own.satK o7 2 rfl) hx1;(refine aDD o7 cE aU rfl rfl (by decide) ?_);refine aI rfl ?_;intro b5101 m5101 o5101;refine aI ((o5101.boxBlk 4 rfl).trans (o7.boxBlk 4 rfl).symm) ?_;have on:=Own.nilRow ‹_› 42 9
      simp only[lcA,lnA]at on
      refine aDQ on 8 rfl cE aU (by decide) (Own.boxArrN on 7 rfl (n:=1) rfl (by omega)) (by simp[Value.oneCell']) (by simp only[maxLen];omega) (by omega) ?_;intro vA mA oA
      obtain⟨ua,uc,rfl⟩:=oA.rowIs 8 rfl
      refine aDo cE aU (oA.rowArrN 8 rfl) rfl (by omega) (by omega) ?_;refine fA aM rfl rfl rfl ?_
      refine⟨?_,?_⟩
      ·skip
       refine aDq (i:=0) ‹_› 8 rfl aU rfl rfl rfl c1.2 (by decide) (by decide) one1 ?_;intro mB oB
       simp only[lsS,lsZ]at oB
       (refine aDN oB 4 rfl dC rfl (by simp) (aI ⟨rfl,rfl⟩ ?_);intro m5140 o5140)
       refine⟨rfl,?_⟩
       have ef:=cH (cs:=[.int .i64 0,.string ⟨⟨[]⟩⟩,aK,aK,aK,.string ⟨⟨[]⟩⟩,.string ⟨⟨[]⟩⟩,.int .i64 0,.int .i64 0]) (c:=c1) rfl
       exact⟨a1,q2,w2,c1,I1,ua,uc,hm,hle2,hR2,hx1,ef▸Own.sel ‹_› [0,1,2,3,4,5,6,8] rfl⟩
      ·skip
       (refine aDN oA 4 rfl dC rfl (by simp) (aI ⟨rfl,rfl⟩ ?_);intro m5150 o5150);refine aDq (i:=0) ‹_› 8 rfl aU rfl rfl rfl c1.2 (by decide) (by decide) one1 ?_;intro mB oB
       simp only[lsS,lsZ]at oB
       refine⟨rfl,?_⟩
       have ef:=cH (cs:=[.int .i64 0,.string ⟨⟨[]⟩⟩,aK,aK,aK,.string ⟨⟨[]⟩⟩,.string ⟨⟨[]⟩⟩,.int .i64 0,.int .i64 0]) (c:=c1) rfl
       exact⟨a1,q2,w2,c1,I1,ua,uc,hm,hle2,hR2,hx1,ef▸Own.sel ‹_› [0,1,2,3,4,5,6,8] rfl⟩
     ·skip
      (refine aDD o6 cE aU rfl rfl (by decide) ?_);refine aI rfl ?_;intro b5281 m5281 o5281;refine aI ((o5281.boxBlk 3 rfl).trans (o6.boxBlk 3 rfl).symm) ?_;refine dB.callL (fun B' o'=>ih (level+1) (by omega) B' bp z tk _ _ _ o' hR1 (by omega)) ‹_› rfl (fun a1 q2 w2 v I1 h6 hm hv hle2 hR2 oq=>?_) (fun e w' h' hm o2=>⟨e,w',hE.trans (aDg hm),rfl,o2⟩)
      obtain⟨c1,rfl,hx1⟩:=hv
      have o7:=oq
      simp only[PSt,pick,lcA,lnA,lgS,lgZ,lgN]at o7
      clear oq
      refine⟨Eq.trans (Own.satK o7 4 rfl) (Eq.symm (Own.satK (x:=box b13 _ _) ‹_› 3 rfl)),?_⟩
      have one1:=fF (Own.satK o7 2 rfl) hx1;have on:=Own.nilRow ‹_› 42 9
      simp only[lcA,lnA]at on
      refine aDQ on 8 rfl cE aU (by decide) (Own.boxArrN on 7 rfl (n:=1) rfl (by omega)) (by simp[Value.oneCell']) (by simp only[maxLen];omega) (by omega) ?_;intro vA mA oA
      obtain⟨ua,uc,rfl⟩:=oA.rowIs 8 rfl
      refine aDo cE aU (oA.rowArrN 8 rfl) rfl (by omega) (by omega) ?_;refine fA aM rfl rfl rfl ?_
      refine⟨?_,?_⟩
      ·skip
       refine aDq (i:=0) ‹_› 8 rfl aU rfl rfl rfl c1.2 (by decide) (by decide) one1 ?_;intro mB oB
       simp only[lsS,lsZ]at oB
       (refine aDN oB 4 rfl dC rfl (by simp) (aI ⟨rfl,rfl⟩ ?_);intro m5340 o5340)
       refine⟨rfl,?_⟩
       have ef:=cH (cs:=[.int .i64 0,.string ⟨⟨[]⟩⟩,aK,aK,aK,.string ⟨⟨[]⟩⟩,.string ⟨⟨[]⟩⟩,.int .i64 0,.int .i64 0]) (c:=c1) rfl
       exact⟨a1,q2,w2,c1,I1,ua,uc,hm,hle2,hR2,hx1,ef▸Own.sel ‹_› [0,1,2,3,4,5,6,8] rfl⟩
      ·skip
       (refine aDN oA 4 rfl dC rfl (by simp) (aI ⟨rfl,rfl⟩ ?_);intro m5350 o5350);refine aDq (i:=0) ‹_› 8 rfl aU rfl rfl rfl c1.2 (by decide) (by decide) one1 ?_;intro mB oB
       simp only[lsS,lsZ]at oB
       refine⟨rfl,?_⟩
       have ef:=cH (cs:=[.int .i64 0,.string ⟨⟨[]⟩⟩,aK,aK,aK,.string ⟨⟨[]⟩⟩,.string ⟨⟨[]⟩⟩,.int .i64 0,.int .i64 0]) (c:=c1) rfl
       exact⟨a1,q2,w2,c1,I1,ua,uc,hm,hle2,hR2,hx1,ef▸Own.sel ‹_› [0,1,2,3,4,5,6,8] rfl⟩
    ·rintro _ junk2 h7 ⟨a1,q2,w2,c1,I1,ua,uc,hm,hle2,hR2,hx1,o8⟩
     rw[aDf hm]at hE
     rw[kB (by rfl),aDJ]at hE
     refine rR (fA cM rfl rfl rfl ?_);refine rR (aDe o8 6 rfl ty4 rfl rfl ?_);refine aDS ?_;(refine aDO o8 aJ aO rfl rfl (by decide) (aI rfl ?_);intro b5502 m5502 o5502);refine aV (ss:=[[44]]) ‹_› rfl ⟨8,by decide,rfl⟩ hR2 (by omega) (by decide) (fun _ q3 w3 v h8 hm3 hv hle3 hR3 oq=>?_) (fun e w' h' hm o2=>⟨e,w',hE.trans (aDg hm),rfl,o2⟩);subst hv
     rw[aDf hm3,aDJ]at hE
     have o9:=oq.sel [0,1,2,3,4,5,6,7] rfl
     simp only[PSt,pick,lcA,lnA,lgS,lgZ,lgN]at o9
     clear oq o8 hm;refine DrawVC.join [65,66,67,68,69,70,71,72,73,74,75] [] (fun _ hh=>∃(a2:Ex) (q4:List Tok) (w4:Value) (c2:dM) (I2:Item) (ua:Option Addr) (uc:Nat),bV z n q3=.ok (a2,q4)∧q4.length≤q3.length∧cR tk w4 q4∧mE I2 c2.1 a2∧Own B [box bp [w4,.int .i64 z] 72,tk,I2,I1,box b10 [.int .i64 0,.string ⟨⟨[]⟩⟩,aK,aK,aK,.string ⟨⟨[]⟩⟩,.string ⟨⟨[]⟩⟩,.int .i64 0,.int .i64 0] 42,box b13 [.int .i64 6,.string ⟨⟨[]⟩⟩,.slice ua 2 uc,aK,aK,.string ⟨⟨[]⟩⟩,.string ⟨⟨[]⟩⟩,.int .i64 0,.int .i64 (bH ts)] 42,box pb [.pointer (some ⟨bp,0,none⟩)] 70,box b5002 [.string ⟨⟨[109,105,110,117,115]⟩⟩,.bool true,.func (.func 160) ⟨[]⟩ ⟨[]⟩] 188,row (.slice ua 2 uc) 42 9 2 (c1.1++c2.1)] hh) ?_ ?_
     ·refine aDB b13 [0,2,3,4,6,9,11] [1] [8,10,12] (.one 0 (.one 1 (.one 2 (.one 3 (.one 4 (.one 6 (.fork 5 7 (.one 7 (.one 8 (.one 9 (.one 11 (.fork 10 12 (.one 12 .done) (.one 10 .done)))))) (.one 5 (.one 8 (.one 9 (.one 11 (.fork 10 12 (.one 12 .done) (.one 10 .done))))))))))))) mixed (by kernel_rfl) rfl (fun _ _ _ _ h=>h) ?_
      refine fA aM rfl rfl rfl ?_;refine StillVCA.load1 dC rfl rfl ((o9.cellB 4 rfl _).trans rfl) ?_;refine aDY (by omega) (by omega) ?_;refine aDn rfl cE ?_
      refine⟨?_,?_⟩
      ·skip
       refine dB.callL (fun B' o'=>ih (level+1) (by omega) B' bp z tk _ _ _ o' hR3 (by omega)) ‹_› rfl (fun a2 q4 w4 v I2 h9 hm4 hv hle4 hR4 oq=>?_) (fun e w' h' hm o2=>⟨e,w',hE.trans (aDg hm),rfl,o2⟩)
       obtain⟨c2,rfl,hx2⟩:=hv
       have o7:=oq
       simp only[PSt,pick,lcA,lnA,lgS,lgZ,lgN]at o7
       clear oq
       refine⟨Eq.trans (Own.satK o7 5 rfl) (Eq.symm (Own.satK (x:=box b13 _ _) ‹_› 4 rfl)),?_⟩
       have one2:=fF (Own.satK o7 2 rfl) hx2;(refine aDD o7 cE aU rfl rfl (by decide) ?_);refine aI rfl ?_;intro b5571 m5571 o5571;refine aI ((o5571.boxBlk 5 rfl).trans (o7.boxBlk 5 rfl).symm) ?_;refine aDQ ‹_› 8 rfl cE aU (by decide) (Own.boxArrN ‹_› 9 rfl (n:=1) rfl (by omega)) (by simp[Value.oneCell']) (by simp only[maxLen];omega) (by omega) ?_;intro vA mA oA
       obtain⟨ua,uc,rfl⟩:=oA.rowIs 8 rfl
       refine aDo cE aU (oA.rowArrN 8 rfl) rfl (by omega) (by omega) ?_;refine fA aM rfl rfl rfl ?_
       refine⟨?_,?_⟩
       ·skip
        refine aDq (i:=1) ‹_› 8 rfl aU rfl rfl rfl c2.2 (by decide) (by decide) one2 ?_;intro mB oB
        simp only[lsS,lsZ]at oB
        (refine aDN oB 5 rfl dC rfl (by simp) (aI ⟨rfl,rfl⟩ ?_);intro m5610 o5610)
        refine⟨rfl,?_⟩
        have ef:=eW (cs:=[.int .i64 0,.string ⟨⟨[]⟩⟩,aK,aK,aK,.string ⟨⟨[]⟩⟩,.string ⟨⟨[]⟩⟩,.int .i64 0,.int .i64 0]) (c:=c1) (d:=c2) rfl
        exact⟨a2,q4,w4,c2,I2,ua,uc,hm4,hle4,hR4,hx2,ef▸Own.sel ‹_› [0,1,2,3,4,5,6,7,8] rfl⟩
       ·skip
        (refine aDN oA 5 rfl dC rfl (by simp) (aI ⟨rfl,rfl⟩ ?_);intro m5620 o5620);refine aDq (i:=1) ‹_› 8 rfl aU rfl rfl rfl c2.2 (by decide) (by decide) one2 ?_;intro mB oB
        simp only[lsS,lsZ]at oB
        refine⟨rfl,?_⟩
        have ef:=eW (cs:=[.int .i64 0,.string ⟨⟨[]⟩⟩,aK,aK,aK,.string ⟨⟨[]⟩⟩,.string ⟨⟨[]⟩⟩,.int .i64 0,.int .i64 0]) (c:=c1) (d:=c2) rfl
        exact⟨a2,q4,w4,c2,I2,ua,uc,hm4,hle4,hR4,hx2,ef▸Own.sel ‹_› [0,1,2,3,4,5,6,7,8] rfl⟩
      ·skip
       (refine aDD o9 cE aU rfl rfl (by decide) ?_);refine aI rfl ?_;intro b5691 m5691 o5691;refine aI ((o5691.boxBlk 4 rfl).trans (o9.boxBlk 4 rfl).symm) ?_;refine dB.callL (fun B' o'=>ih (level+1) (by omega) B' bp z tk _ _ _ o' hR3 (by omega)) ‹_› rfl (fun a2 q4 w4 v I2 h9 hm4 hv hle4 hR4 oq=>?_) (fun e w' h' hm o2=>⟨e,w',hE.trans (aDg hm),rfl,o2⟩)
       obtain⟨c2,rfl,hx2⟩:=hv
       have o7:=oq
       simp only[PSt,pick,lcA,lnA,lgS,lgZ,lgN]at o7
       clear oq
       refine⟨Eq.trans (Own.satK o7 5 rfl) (Eq.symm (Own.satK (x:=box b13 _ _) ‹_› 4 rfl)),?_⟩
       have one2:=fF (Own.satK o7 2 rfl) hx2;refine aDQ ‹_› 8 rfl cE aU (by decide) (Own.boxArrN ‹_› 9 rfl (n:=1) rfl (by omega)) (by simp[Value.oneCell']) (by simp only[maxLen];omega) (by omega) ?_;intro vA mA oA
       obtain⟨ua,uc,rfl⟩:=oA.rowIs 8 rfl
       refine aDo cE aU (oA.rowArrN 8 rfl) rfl (by omega) (by omega) ?_;refine fA aM rfl rfl rfl ?_
       refine⟨?_,?_⟩
       ·skip
        refine aDq (i:=1) ‹_› 8 rfl aU rfl rfl rfl c2.2 (by decide) (by decide) one2 ?_;intro mB oB
        simp only[lsS,lsZ]at oB
        (refine aDN oB 5 rfl dC rfl (by simp) (aI ⟨rfl,rfl⟩ ?_);intro m5750 o5750)
        refine⟨rfl,?_⟩
        have ef:=eW (cs:=[.int .i64 0,.string ⟨⟨[]⟩⟩,aK,aK,aK,.string ⟨⟨[]⟩⟩,.string ⟨⟨[]⟩⟩,.int .i64 0,.int .i64 0]) (c:=c1) (d:=c2) rfl
        exact⟨a2,q4,w4,c2,I2,ua,uc,hm4,hle4,hR4,hx2,ef▸Own.sel ‹_› [0,1,2,3,4,5,6,7,8] rfl⟩
       ·skip
        (refine aDN oA 5 rfl dC rfl (by simp) (aI ⟨rfl,rfl⟩ ?_);intro m5760 o5760);refine aDq (i:=1) ‹_› 8 rfl aU rfl rfl rfl c2.2 (by decide) (by decide) one2 ?_;intro mB oB
        simp only[lsS,lsZ]at oB
        refine⟨rfl,?_⟩
        have ef:=eW (cs:=[.int .i64 0,.string ⟨⟨[]⟩⟩,aK,aK,aK,.string ⟨⟨[]⟩⟩,.string ⟨⟨[]⟩⟩,.int .i64 0,.int .i64 0]) (c:=c1) (d:=c2) rfl
        exact⟨a2,q4,w4,c2,I2,ua,uc,hm4,hle4,hR4,hx2,ef▸Own.sel ‹_› [0,1,2,3,4,5,6,7,8] rfl⟩
     ·rintro _ junk3 h9 ⟨a2,q4,w4,c2,I2,ua,uc,hm,hle4,hR4,hx2,o8⟩
      rw[aDf hm,aDu]at hE
      refine aD2 ?_;refine rR (fA cM rfl rfl rfl ?_);refine rR (aDe o8 7 rfl aAj rfl rfl ?_);refine aDV (xD b13 _) ?_;rintro _ h10 ⟨rfl,oc⟩;have o9:=oc.thenE o8;clear oc o8;have e2:eC z 4 (bH ts) [a1,a2] q4=.ok (Ex.mk 6 [] [a1,a2] [] [] [] [] 0 (bH ts),q4):=rfl
      rw[aDf e2]at hE
      (refine aDO o9 aJ aO rfl rfl (by decide) (aI rfl ?_);intro b5840 m5840 o5840);refine aV (ss:=[[41]]) ‹_› rfl ⟨9,by decide,rfl⟩ hR4 (by omega) (by decide) (fun _ q5 w5 v h11 hm5 hv hle5 hR5 oq=>?_) (fun e w' h' hm o2=>⟨e,w',hE.trans (aDg hm),rfl,o2⟩);subst hv
      rw[aDf hm5]at hE
      have o10:=oq
      simp only[PSt,pick,lcA,lnA,lgS,lgZ,lgN]at o10
      clear oq o9;refine rR (aDi o10 5 rfl aU rfl rfl rfl ?_);(refine aDh o10 4 rfl aU rfl (by decide) (aI ⟨rfl,rfl⟩ ?_);intro m5861 o5861)
      first|refine aDt rfl o5861 4 rfl aU rfl rfl ?_|refine aDs rfl o5861 4 rfl aU rfl rfl ?_|refine RetVC.cellTT rfl o5861 4 rfl aU rfl rfl ?_
      have er:[c1,c2].flatMap Subtype.val=c1.1++c2.1:=by simp
      exact⟨_,q5,w5,eK (eK I2 I1) (row (.slice ua 2 uc) 42 9 2 (c1.1++c2.1)),hE,⟨⟨xT 6 [] (.slice ua 2 uc) aK aK [] [] 0 (bH ts),rfl⟩,rfl,by rw[mE];exact⟨_,_,_,rfl,aP,aP,[c1,c2],by rw[er];exact dQ.inr,mE.mono (fun _ (s:(eK (eK _ _) _).sat _)=>s.1.2) _ _ hx1,mE.mono (fun _ (s:(eK (eK _ _) _).sat _)=>s.1.1) _ _ hx2,trivial⟩⟩,by omega,hR5,((Own.sel ‹_› [2,3,8,0,1] rfl).join.join).sel [1,2,0] rfl⟩
end Go.Proofs.YtohlogbnpfofpaaGreatDoor
