/- Part 13 of the proof of gaps,items: FnYh, FnYs, FnYt, FnYi, FnYg, FnXi, FnYq. -/
import Derived.Test.YtohlogbnpfofpaaGreatDoorPA12
set_option linter.all false
set_option maxHeartbeats 100000000
set_option maxRecDepth 100000
namespace Go.Proofs.YtohlogbnpfofpaaGreatDoor
open Go StillVC
def sJ (t:List UInt8):List UInt8×Int:=match mG t with
 | .ok xs=>cB xs
 | .error _=>([],99)
theorem aAu {xs:List It}(h:(cB xs).2=0):(cB xs).1.length≤20000:=by
 obtain⟨ls,_,_,_,_,h5,h6⟩:=rF h
 rw[h6]
 exact h5
theorem kA.isS {h:Heap}{v:Value}{xs:List It}(r:kA h v xs):∃ a c,v=.slice a xs.length c:=by
 obtain⟨ca,q1,_⟩:=r
 exact q1.isS
theorem oZ (t out:List UInt8)(h:Heap)(hl:t.length≤20000)(hm:sJ t=(out,0))(hW:jE h)(hT:iQ h)(hF:fW h) :
  cK Tryz.prog 15 [.string ⟨⟨t⟩⟩] h fun r h'=>r=.string ⟨⟨out⟩⟩∧Own h [] h':=by
 refine Spec.enter Tryz.func15 rfl Tryz.ntmps15 (by kernel_rfl) ?_;have o0:=Own.refl h;refine CallVC.ret (parse_cases hl _ (hW.ext (Own.ext (B:=h) ‹_›))) ?_;rintro _ h2 (⟨e,i,hM,hne,rfl,oc⟩|⟨xs,ts,ua,uc,I,hM,hL,hI,hlen,rfl,hp,oc⟩)
 ·unfold sJ at hm
  rw[hM]at hm
  cases hm
 have hm2:cB xs=(out,0):=by unfold sJ at hm;rw[hM]at hm;exact hm
 have o2:=Own.call ‹_› oc
 simp only[lcA,lnA]at o2
 clear oc
 obtain⟨k1,k2⟩:=parsed_ok hL hI
 (refine RunVC.alloc o2 rL ?_;intro b20 m20 o20);(refine RunVC.aBA o20 1 rfl rL rfl (by decide) (aI ⟨rfl,rfl⟩ ?_);intro m21 o21);refine run (aBB o21 1 rfl rL rfl rfl rfl ?_);refine CallVC.ret (jB xs _ _ (hT.ext (Own.ext (B:=h) ‹_›)) (hF.ext (Own.ext (B:=h) ‹_›)) (by first|exact xT.toH (Own.satK ‹_› 0 rfl) hp|exact xT.toH (Own.satK ‹_› 1 rfl) hp|exact xT.toH (Own.satK ‹_› 2 rfl) hp) k1 k2 (by omega)) ?_;rintro _ h3 ⟨rfl,oc⟩
 rw[hm2]
 have o3:=oc.thenE (B:=h) ‹_›;clear oc;refine Br.ff ?_;refine Br.aBO (fun hc=>absurd (by first|omega|assumption|decide|exact rfl) hc) (fun c40=>?_);refine RetVC.one rfl ?_
 exact⟨rfl,Own.sel ‹_› [] rfl⟩
theorem ag1:sJ [115,111,117,114,99,101,32,32,115,32,116,114,117,115,116,32,48,48,53,32,59]=([115,111,117,114,99,101,32,115,32,116,114,117,115,116,32,53,59,10],0):=by kernel_rfl
theorem ag2:sJ [113,117,101,114,121,32,113,61,112,114,111,106,101,99,116,32,40,32,115,101,108,101,99,116,40,116,32,119,104,101,114,101,32,97,61,45,32,49,43,50,41,32,111,110,32,41,59]=([113,117,101,114,121,32,113,32,61,32,112,114,111,106,101,99,116,40,115,101,108,101,99,116,40,116,32,119,104,101,114,101,32,97,32,61,32,45,49,32,43,32,50,41,32,111,110,41,59,10],0):=by kernel_rfl
theorem ag3:sJ [109,97,116,99,104,32,109,32,111,110,32,116,32,97,116,32,53,32,123,32,97,32,110,101,97,114,32,51,32,108,101,97,115,116,32,50,47,52,32,103,105,118,101,115,32,49,32,116,97,107,101,115,32,48,32,59,32,125]=([109,97,116,99,104,32,109,32,111,110,32,116,32,97,116,32,53,32,123,10,32,32,97,32,110,101,97,114,32,51,32,108,101,97,115,116,32,50,47,52,32,103,105,118,101,115,32,49,59,10,125,10],0):=by kernel_rfl
theorem ag4:sJ [116,97,98,108,101,32,116,40,97,32,116,101,120,116,61,34,120,92,110,34,44,98,32,100,97,121,32,61,32,64,51,41,107,101,121,32,97,44,98,59,100,101,110,121,32,100,32,116,32,120,32,119,104,101,114,101,32,120,46,97,60,61,110,117,108,108,32,97,110,100,32,116,114,117,101,33,61,98,59]=([116,97,98,108,101,32,116,40,97,32,116,101,120,116,32,61,32,34,120,92,110,34,44,32,98,32,100,97,121,32,61,32,64,51,41,32,107,101,121,32,97,44,32,98,59,10,100,101,110,121,32,100,32,116,32,120,32,119,104,101,114,101,32,120,46,97,32,60,61,32,110,117,108,108,32,97,110,100,32,116,114,117,101,32,33,61,32,98,59,10],0):=by kernel_rfl
def xs1:List It:=[{ sC with kind:=2,name:=[49] }]
theorem pr1:cB xs1=([],1):=by kernel_rfl
theorem pr0:cB []=([],0):=by kernel_rfl
theorem xs1_ok:∀ x∈xs1,jX x:=fun x hx=>by
 simp[xs1]at hx
 subst hx;unfold jX
 refine⟨by decide,by decide,by decide,by decide,by simp[sC],by simp[sC],by decide,by decide,by decide,by simp[sC],by decide,by decide,by simp[sC],by simp[sC],by simp[sC],?_,by decide,by decide,by decide,by decide,by decide,by decide⟩
 show gR (.mk 0 [] [] [] [] [] [] 0 0)
 rw[gR]
 exact⟨by omega,by simp,trivial,by simp,by simp,by simp,by simp,by omega,by simp,by simp,by simp⟩
theorem yN (h:Heap)(hW:jE h)(hT:iQ h)(hF:fW h):cK Tryz.prog 9 [] h fun v h'=>v=.bool true∧Own h [] h':=by
 refine Spec.enter Tryz.func9 rfl Tryz.ntmps9 (by kernel_rfl) ?_;have o0:=Own.refl h;refine CallVC.ret (oZ _ _ _ (by decide) ag1 (hW.ext (Own.ext (B:=h) ‹_›)) (hT.ext (Own.ext (B:=h) ‹_›)) (hF.ext (Own.ext (B:=h) ‹_›))) ?_;rintro _ g1 ⟨rfl,oc⟩;have z1:=oc.thenE (B:=h) ‹_›;clear oc;refine Br.tt ?_;refine CallVC.ret (oZ _ _ _ (by decide) ag2 (hW.ext (Own.ext (B:=h) ‹_›)) (hT.ext (Own.ext (B:=h) ‹_›)) (hF.ext (Own.ext (B:=h) ‹_›))) ?_;rintro _ g2 ⟨rfl,oc⟩;have z2:=oc.thenE (B:=h) ‹_›;clear oc;refine CallVC.ret (oZ _ _ _ (by decide) ag3 (hW.ext (Own.ext (B:=h) ‹_›)) (hT.ext (Own.ext (B:=h) ‹_›)) (hF.ext (Own.ext (B:=h) ‹_›))) ?_;rintro _ g3 ⟨rfl,oc⟩;have z3:=oc.thenE (B:=h) ‹_›;clear oc;refine run (aBE aY ?_);refine aI rfl ?_;refine aI rfl ?_;(refine RunVC.aBV z3 oC iG rfl rfl (by decide) ?_);refine aI rfl ?_;intro b402 m402 o402;refine run (aBE lZ ?_);refine aI rfl ?_;have hw:kA m402 (.slice (some ⟨b402,0,none⟩) 1 1) xs1:=by
  have or:=o402.boxRow 0 rfl 25 1 1 rfl (Nat.le_refl _) (by decide);have oa:=or.rowArrN 0 rfl
  refine⟨[⟨_,rfl⟩],by simpa[xs1] using oa,rfl,fun i x hx=>?_⟩
  cases i with
  | succ i=>simp[xs1]at hx
  | zero =>
   simp[xs1]at hx
   subst hx
   refine⟨_,rfl,0,_,_,_,_,_,_,_,_,_,_,_,_,_,_,_,rfl,cR.nil _ _,cR.nil _ _,cR.nil _ _,cR.nil _ _,cR.nil _ _,cR.nil _ _,?_⟩
   show lM m402 _ (.mk 0 [] [] [] [] [] [] 0 0)
   rw[lM]
   exact⟨_,_,_,0,rfl,cR.nil _ _,cR.nil _ _,[],cR.nil _ _,trivial⟩
 refine CallVC.ret (jB xs1 _ _ (hT.ext (Own.ext (B:=h) ‹_›)) (hF.ext (Own.ext (B:=h) ‹_›)) hw xs1_ok (by decide) (by decide)) ?_;rintro _ g4 ⟨rfl,oc⟩
 rw[pr1]
 have z4:=oc.thenE (B:=h) ‹_›;clear oc;refine run (aBE lZ ?_);refine CallVC.ret (jB [] _ _ (hT.ext (Own.ext (B:=h) ‹_›)) (hF.ext (Own.ext (B:=h) ‹_›)) ⟨[],cR.nil _ _,rfl,fun i x hx=>by simp at hx⟩ (by simp) (by simp) (by simp)) ?_;rintro _ g5 ⟨rfl,oc⟩
 rw[pr0]
 have z5:=oc.thenE (B:=h) ‹_›;clear oc;refine CallVC.ret (oZ _ _ _ (by decide) ag4 (hW.ext (Own.ext (B:=h) ‹_›)) (hT.ext (Own.ext (B:=h) ‹_›)) (hF.ext (Own.ext (B:=h) ‹_›))) ?_;rintro _ g6 ⟨rfl,oc⟩;have z6:=oc.thenE (B:=h) ‹_›;clear oc;refine Br.tt ?_;refine Br.tt ?_;refine Br.tt ?_;refine Br.tt ?_;refine Br.tt ?_;refine RetVC.one rfl ?_
 exact⟨rfl,Own.sel ‹_› [] rfl⟩
mutual
def exN:Ex→Nat
 | .mk _ _ ks _ _ _ _ _ _=>1+mS ks
def mS:List Ex→Nat
 | []=>0
 | x::xs=>exN x+mS xs
end
mutual
def lA:Ex→Nat→Bool
 | .mk _ _ ks cs ns _ _ _ _,n=>decide (ks.length≤2∧cs.length≤20∧ns.length≤20)&&(ks.isEmpty||(decide (n≠0)&&jV ks (n - 1)))
def jV:List Ex→Nat→Bool
 | [],_=>true
 | x::xs,n=>lA x n&&jV xs n
end
mutual
theorem yD:∀(x:Ex)(n:Nat),lA x n=true→eU x≤41*exN x
 | .mk k t ks cs ns a s g o,n,h=>by
  rw[lA]at h
  simp only[Bool.and_eq_true,decide_eq_true_eq,Bool.or_eq_true]at h
  rw[eU,exN]
  obtain⟨h1,h2⟩:=h
  rcases h2 with h2|h2
  ·have:ks=[]:=by simpa using h2
   subst this
   rw[eW,mS]
   omega
  ·have:=vS ks (n - 1) h2.2
   omega
theorem vS:∀(l:List Ex)(n:Nat),jV l n=true→eW l≤41*mS l
 | [],_,_=>by rw[eW,mS];omega
 | x::xs,n,h=>by
  rw[jV,Bool.and_eq_true]at h
  have h1:=yD x n h.1;have h2:=vS xs n h.2
  rw[eW,mS]
  omega
end
theorem aAK:∀ {l:List Ex}{i:Nat}{x:Ex},l[i]?=some x→mS (l.take (i+1))=mS (l.take i)+exN x
 | [],_,_,h=>by simp at h
 | y::l,0,x,h=>by simp at h;subst h;simp[mS]
 | y::l,i+1,x,h=>by
  have:=aAK (l:=l) (i:=i) (x:=x) (by simpa using h)
  rw[List.take_succ_cons,List.take_succ_cons,mS,mS,this]
  omega
theorem aBo (l:List Ex)(i:Nat):mS (l.take i)≤mS l:=by
 induction l generalizing i with
 | nil=>simp
 | cons x l ih =>
  cases i with
  | zero=>simp[mS]
  | succ i=>rw[List.take_succ_cons,mS,mS];have:=ih i;omega
theorem qL:∀ {l:List Ex}{n:Nat},jV l n=true↔∀ x∈l,lA x n=true
 | [],n=>by simp[jV]
 | y::l,n=>by rw[jV,Bool.and_eq_true,qL (l:=l)];simp
theorem tP:∀(n:Nat)(x:Ex)(c:List Value)(h:Heap)(most:Int)(_:iD x≤n)(_:gR x)(_:lM h c x)(_:0≤most∧most≤100000),
  cK Tryz.prog 16 [.agg ⟨c⟩,.int .i64 most] h fun r h'=>r=.int .i64 (min (exN x) (most+1))∧Own h [] h'
 | 0,.mk _ _ _ _ _ _ _ _ _,_,_,_,hd,_,_,_=>absurd hd (by rw[iD];omega)
 | n+1,.mk k t ks cs ns a s g o,c,h,most,hd,hB,hc,hm=>by
  rw[iD]at hd
  rw[gR]at hB
  rw[lM]at hc
  obtain⟨_,_,hOK,_,_,_,_,_,hkl,_,_⟩:=hB
  obtain⟨vk,vc,vn,z,rfl,r1,r2,xs,r3,rk⟩:=hc
  unfold qS
  obtain⟨y1,z1,rfl⟩:=cR.isS r3
  refine Spec.enter Tryz.func16 rfl Tryz.ntmps16 (by kernel_rfl) ?_;have o0:=Own.refl h
  rw[exN]
  (refine RunVC.aBS o0 rfl ?_;intro b10 m10 o10);refine LoopVC.intro [5,6,7,8,9,10,11,12,13,14,15,16,17,18,19,20,21,22,23,24,25,26,27,28,29] [5,6] (fun vs hh=>∃(i:Nat),i≤ks.length∧vs=[.int .i64 (min ((1+mS (ks.take i):Nat):Int) (most+1)),.int .i64 i]∧Own h [box b10 [.int .i64 k,.string ⟨⟨t⟩⟩,.slice y1 ks.length z1,vc,vn,.string ⟨⟨a⟩⟩,.string ⟨⟨s⟩⟩,.int .i64 g,.int .i64 z] 42] hh) (fun vs _=>match vs with|[_,.int _ i]=>ks.length - i.toNat|_=>0) ?_ ?_
  ·refine⟨0,by omega,?_,o10⟩
   have:min ((1+mS (ks.take 0):Nat):Int) (most+1)=1:=by simp[mS];omega
   rw[this]
   rfl
  rintro vs junk hh ⟨i,hi,rfl,oh⟩;clear o10;have hle:=aBo ks i;by_cases hlt:i<ks.length
  ·by_cases hm1:((1+mS (ks.take i):Nat):Int)≤most
   ·obtain⟨kx,hkx⟩:=getx hlt
    obtain⟨cx,hcx,hrx⟩:=kW rk hkx
    have hdx:=iB hkx;have htk:=aAK hkx
    rw[show min ((1+mS (ks.take i):Nat):Int) (most+1)=((1+mS (ks.take i):Nat):Int) by omega]
    refine run (fA aO rfl rfl rfl ?_);refine run (aBx oh 0 rfl cX rfl rfl ?_);refine run (aBH rfl bY ?_);refine Br.dec (fun c53=>?_) (fun hc=>absurd (by omega) hc);refine Br.dec (fun c54=>?_) (fun hc=>absurd (by omega) hc);refine run (fA aO rfl rfl rfl ?_);refine run (aBx oh 0 rfl cX rfl rfl ?_);refine run (aBJ bY aT (r3.ext oh.ext) rfl (by omega) (by omega) ?_);refine run (aBN aT (r3.ext oh.ext) (fun y:cV=>y.2) (by decide) rfl ‹_› ?_);refine Ar.i64 (by omega) (by omega) ?_;refine CallVC.ret (tP n kx cx.1 _ _ (Nat.le_trans hdx (by omega)) (jL hOK hkx) (lM.ext oh.ext _ _ hrx) (by omega)) ?_;rintro _ m3 ⟨rfl,oc⟩;have o3:=oc.thenE oh;refine Ar.i64 (by omega) (by omega) ?_;refine Ar.i64 (by omega) (by omega) ?_
    refine⟨rfl,?_⟩
    refine⟨⟨i+1,by omega,?_,Own.sel ‹_› [0] rfl⟩,by simp;omega⟩
    rw[htk]
    congr 2
    omega
   ·refine run (fA aO rfl rfl rfl ?_)
    refine run (aBx oh 0 rfl cX rfl rfl ?_);refine run (aBH rfl bY ?_);refine Br.dec (fun c153=>?_) (fun hc=>absurd (by omega) hc);refine Br.dec (fun hc=>absurd hc (by omega)) (fun c154=>?_);refine RetVC.one rfl ?_
    exact⟨congrArg (Value.int .i64) (by omega),Own.sel ‹_› [] rfl⟩
  ·have hd:ks.take i=ks:=List.take_of_length_le (by omega)
   rw[hd]
   refine run (fA aO rfl rfl rfl ?_);refine run (aBx oh 0 rfl cX rfl rfl ?_);refine run (aBH rfl bY ?_);refine Br.dec (fun hc=>absurd hc (by omega)) (fun c203=>?_);refine Br.ff ?_;refine RetVC.one rfl ?_
   exact⟨rfl,Own.sel ‹_› [] rfl⟩
theorem light_iff (k:Int)(t:List UInt8)(ks:List Ex)(cs:List Cnd)(ns:List (List UInt8))(a s:List UInt8)(g:Int)(o n:Nat):lA (.mk k t ks cs ns a s g o) n=(decide (ks.length≤2∧cs.length≤20∧ns.length≤20)&&(ks.isEmpty||(decide (n≠0)&&jV ks (n - 1)))):=by rw[lA]
theorem tI:∀(n:Nat)(x:Ex)(c:List Value)(h:Heap)(lev:Nat)(_:iD x≤n)(_:gR x)(_:lM h c x)(_:lev≤1000),
  cK Tryz.prog 17 [.agg ⟨c⟩,.int .i64 lev] h fun r h'=>r=.bool (lA x lev)∧Own h [] h'
 | 0,.mk _ _ _ _ _ _ _ _ _,_,_,_,hd,_,_,_=>absurd hd (by rw[iD];omega)
 | n+1,.mk k t ks cs ns a s g o,c,h,lev,hd,hB,hc,hm=>by
  rw[iD]at hd
  rw[gR]at hB
  rw[lM]at hc
  obtain⟨_,_,hOK,_,_,_,_,_,hkl,hcl,hnl⟩:=hB
  obtain⟨vk,vc,vn,z,rfl,r1,r2,xs,r3,rk⟩:=hc
  obtain⟨y1,z1,rfl⟩:=cR.isS r3
  obtain⟨y2,z2,rfl⟩:=cR.isS r1
  obtain⟨y3,z3,rfl⟩:=cR.isS r2
  unfold qS;refine Spec.enter Tryz.func17 rfl Tryz.ntmps17 (by kernel_rfl) ?_;have o0:=Own.refl h
  rw[light_iff]
  (refine RunVC.aBS o0 rfl ?_;intro b10 m10 o10);refine LoopVC.intro [4,5,6,7,8,9,10,11,12,13,14,15,16,17,18,19,20,21,22,23,24,25] [5] (fun vs hh=>∃(i:Nat),i≤ks.length∧vs=[.int .i64 i]∧(∀(j:Nat) (x:Ex),j<i→ks[j]?=some x→lev≠0∧lA x (lev - 1)=true)∧Own h [box b10 [.int .i64 k,.string ⟨⟨t⟩⟩,.slice y1 ks.length z1,.slice y2 cs.length z2,.slice y3 ns.length z3,.string ⟨⟨a⟩⟩,.string ⟨⟨s⟩⟩,.int .i64 g,.int .i64 z] 42] hh) (fun vs _=>match vs with|[.int _ i]=>ks.length - i.toNat|_=>0) ?_ ?_
  ·exact⟨0,by omega,rfl,fun j x hj=>by omega,o10⟩
  rintro vs junk hh ⟨i,hi,rfl,hpre,oh⟩;clear o10;by_cases hlt:i<ks.length
  ·obtain⟨kx,hkx⟩:=getx hlt
   obtain⟨cx,hcx,hrx⟩:=kW rk hkx
   have hdx:=iB hkx;have hne:ks.isEmpty=false:=by cases ks<;>simp_all
   by_cases hl0:lev=0
   ·subst hl0
    refine run (fA aO rfl rfl rfl ?_);refine run (aBx oh 0 rfl cX rfl rfl ?_);refine run (aBH rfl bY ?_);refine Br.dec (fun c53=>?_) (fun hc=>absurd (by omega) hc);refine Br.tt ?_;refine Br.tt ?_;refine RetVC.one rfl ?_
    refine⟨congrArg Value.bool ?_,Own.sel ‹_› [] rfl⟩
    rw[hne]
    simp
   ·refine run (fA aO rfl rfl rfl ?_)
    refine run (aBx oh 0 rfl cX rfl rfl ?_);refine run (aBH rfl bY ?_);refine Br.dec (fun c103=>?_) (fun hc=>absurd (by omega) hc);refine Br.dec (fun hc=>absurd hc (by omega)) (fun c104=>?_);refine run (fA aO rfl rfl rfl ?_);refine run (aBx oh 0 rfl cX rfl rfl ?_);refine run (aBJ bY aT (r3.ext oh.ext) rfl (by omega) (by omega) ?_);refine run (aBN aT (r3.ext oh.ext) (fun y:cV=>y.2) (by decide) rfl ‹_› ?_);refine Ar.i64 (by omega) (by omega) ?_
    rw[show(lev:Int) - 1=((lev - 1:Nat):Int) by omega]
    refine CallVC.ret (tI n kx cx.1 _ _ (Nat.le_trans hdx (by omega)) (jL hOK hkx) (lM.ext oh.ext _ _ hrx) (by omega)) ?_;rintro _ m3 ⟨rfl,oc⟩;have o3:=oc.thenE oh;cases hb:lA kx (lev - 1) with
    | true =>
     refine Br.ff ?_;refine Ar.i64 (by omega) (by omega) ?_
     refine⟨rfl,?_⟩
     refine⟨⟨i+1,by omega,rfl,fun j x hj hx=>?_,Own.sel ‹_› [0] rfl⟩,by simp;omega⟩
     by_cases e:j=i
     ·subst e
      rw[hkx]at hx
      cases hx
      exact⟨hl0,hb⟩
     ·exact hpre j x (by omega) hx
    | false =>
     refine Br.tt ?_;refine RetVC.one rfl ?_
     refine⟨congrArg Value.bool ?_,Own.sel ‹_› [] rfl⟩
     have hls:jV ks (lev - 1)=false:=by
      rw[Bool.eq_false_iff]
      intro hh
      have:=qL.1 hh kx (List.mem_of_getElem? hkx)
      rw[hb]at this
      cases this
     rw[hne,hls]
     simp
  ·have hall:(ks.isEmpty||(decide (lev≠0)&&jV ks (lev - 1)))=true:=by
    cases hks:ks with
    | nil=>rfl
    | cons y r =>
     have h0:=hpre 0 y (by rw[hks]at hlt;simp at hlt;omega) (by rw[hks];rfl)
     have:jV (y::r) (lev - 1)=true:=qL.2 fun x hx=>by
      obtain⟨j,hj⟩:=List.mem_iff_getElem?.1 hx
      rw[← hks]at hj
      exact(hpre j x (by have:=(List.getElem?_eq_some_iff.1 hj).1;omega) hj).2
     rw[this]
     simp[h0.1]
   rw[hall,Bool.and_true]
   refine run (fA aO rfl rfl rfl ?_);refine run (aBx oh 0 rfl cX rfl rfl ?_);refine run (aBH rfl bY ?_);refine Br.dec (fun hc=>absurd hc (by omega)) (fun c253=>?_);refine run (fA aO rfl rfl rfl ?_);refine run (aBx oh 0 rfl cX rfl rfl ?_);refine run (aBH rfl bY ?_);refine Br.dec (fun c257=>?_) (fun c257=>?_);refine run (fA aO rfl rfl rfl ?_);refine run (aBx oh 0 rfl nM rfl rfl ?_);refine run (aBH rfl mZ ?_);refine Br.dec (fun c261=>?_) (fun c261=>?_);refine run (fA aO rfl rfl rfl ?_);refine run (aBx oh 0 rfl eZ rfl rfl ?_);refine run (aBH rfl aH ?_);refine RetVC.one rfl ?_
   rotate_left
   refine RetVC.one rfl ?_
   rotate_left
   refine RetVC.one rfl ?_
   all_goals first
    | exact⟨congrArg Value.bool (decide_eq_false (fun h=>by omega)).symm,Own.sel ‹_› [] rfl⟩
    | exact⟨congrArg Value.bool (decide_eq_decide.2 ⟨fun h=>by omega,fun h=>by omega⟩),Own.sel ‹_› [] rfl⟩
def oD (x:It):Bool:=decide ((x.cols.length:Int)+x.names.length+x.terms.length+x.fixed.length+x.vars.length+x.conds.length≤60∧exN x.expr≤300)&&lA x.expr 20
def pS (xs:List It):Bool:=xs.all oD&&decide (xs.length≤210)
theorem short_size {x:It}(h:oD x=true):eC x≤50000000:=by
 unfold oD at h
 simp only[Bool.and_eq_true,decide_eq_true_eq]at h
 have:=yD x.expr 20 h.2
 unfold eC
 omega
theorem sU (xs:List It)(va:Value)(h:Heap)(hOK:∀ x∈xs,jX x)(hl:xs.length≤1000000000000000)(hP:kA h va xs) :
  cK Tryz.prog 10 [.agg ⟨[va]⟩] h fun r h'=>r=.bool (pS xs)∧Own h [] h':=by
 obtain⟨ca,q1,q2,q3⟩:=hP
 obtain⟨ya,yc,rfl⟩:=q1.isS
 refine Spec.enter Tryz.func10 rfl Tryz.ntmps10 (by kernel_rfl) ?_;have o0:=Own.refl h;(refine RunVC.aBS o0 rfl ?_;intro b10 m10 o10);refine LoopVC.intro [2,3,4,5,6,7,8,9,10,11,12,13,14,15,16,17,18,19,20,21,22,23,24,25,26,27,28,29,30,31,32,33,34,35,36,37,38,39,40,41,42,43,44,45,46,47,48,49,50,51,52] [3] (fun vs hh=>∃(i:Nat),i≤xs.length∧vs=[.int .i64 i]∧(∀(j:Nat) (x:It),j<i→xs[j]?=some x→oD x=true)∧Own h [box b10 [.slice ya xs.length yc] 24] hh) (fun vs _=>match vs with|[.int _ i]=>xs.length - i.toNat|_=>0) ?_ ?_
 ·exact⟨0,by omega,rfl,fun j x hj=>by omega,o10⟩
 rintro vs junk hh ⟨i,hi,rfl,hpre,oh⟩;clear o10;by_cases hlt:i<xs.length
 ·obtain⟨x,hx⟩:=getx hlt
  obtain⟨cx,hcx,hrx⟩:=q3 i x hx
  have hxOK:=hOK x (List.mem_of_getElem? hx);have hbx:gR x.expr:=hxOK.2.2.2.2.2.2.2.2.2.2.2.2.2.2.2.1;have hll:=hxOK.2.2.2.2.2.2.2.2.2.2.2.2.2.2.2.2
  obtain⟨cxv,hcl⟩:=cx
  obtain⟨z,vc,vn,vt,vf,vv,vd,e0,e1,e2,e3,e4,e5,e6,e7,e8,hcv,w1,w2,w3,w4,w5,w6,rx⟩:=hrx
  dsimp only at hcv;subst hcv;have rx2:=rx;cases hex:x.expr with
  | mk xk xt xks xcs xns xa xs_ xg xo =>
  rw[hex,lM]at rx2
  obtain⟨wk,wc,wn,wz,hcv,g1,g2,gx,g3,_⟩:=rx2
  obtain⟨h1,h2,rfl⟩:=g1.isS
  obtain⟨h3,h4,rfl⟩:=g2.isS
  obtain⟨h5,h6,rfl⟩:=g3.isS
  unfold qS at hcv
  simp only[List.cons.injEq,and_true]at hcv
  obtain⟨rfl,rfl,rfl,rfl,rfl,rfl,rfl,rfl,rfl⟩:=hcv
  obtain⟨i1,j1,rfl⟩:=w1.isS
  obtain⟨i2,j2,rfl⟩:=w2.isS
  obtain⟨i3,j3,rfl⟩:=w3.isS
  obtain⟨i4,j4,rfl⟩:=w4.isS
  obtain⟨i5,j5,rfl⟩:=w5.isS
  obtain⟨i6,j6,rfl⟩:=w6.isS
  unfold fF at hcx hcl;clear w1 w2 w3 w4 w5 w6 g1 g2 g3
  try rw[hex]at rx hbx
  have hno:oD x=false→pS xs=false:=fun hs=>by
   unfold pS
   have:xs.all oD=false:=by
    rw[Bool.eq_false_iff]
    intro hh
    have:=List.all_eq_true.1 hh x (List.mem_of_getElem? hx)
    rw[hs]at this
    cases this
   rw[this]
   rfl
  have hsh:oD x=(decide ((x.cols.length:Int)+x.names.length+x.terms.length+x.fixed.length+x.vars.length+x.conds.length≤60∧exN (.mk xk xt xks xcs xns xa xs_ xg xo)≤300)&&lA (.mk xk xt xks xcs xns xa xs_ xg xo) 20):=by unfold oD;rw[hex]
  by_cases h60:(x.cols.length:Int)+x.names.length+x.terms.length+x.fixed.length+x.vars.length+x.conds.length≤60
  case neg =>
   refine run (fA lZ rfl rfl rfl ?_);refine run (aBx oh 0 rfl pN rfl rfl ?_);refine run (aBH rfl oC ?_);refine Br.dec (fun c103=>?_) (fun hc=>absurd (by omega) hc);refine run (fA lZ rfl rfl rfl ?_);refine run (aBx oh 0 rfl pN rfl rfl ?_);refine run (aBJ oC iG (q1.ext oh.ext) rfl (by omega) (by omega) ?_);refine run (aBN iG (q1.ext oh.ext) (fun y:iY=>y.2) (by decide) rfl ‹_› ?_);(refine RunVC.alloc oh iG ?_;intro b108 m108 o108);(refine RunVC.aBA o108 1 rfl iG rfl (by decide) (aI ⟨rfl,rfl⟩ ?_);intro m109 o109);refine run (fA aY rfl rfl rfl ?_);refine run (aBx o109 1 rfl ty34 rfl rfl ?_);refine run (aBH rfl xK ?_);refine run (fA aY rfl rfl rfl ?_);refine run (aBx o109 1 rfl eZ rfl rfl ?_);refine run (aBH rfl aH ?_);refine Ar.i64 (by omega) (by omega) ?_;refine run (fA aY rfl rfl rfl ?_);refine run (aBx o109 1 rfl ty36 rfl rfl ?_);refine run (aBH rfl sl36 ?_);refine Ar.i64 (by omega) (by omega) ?_;refine run (fA aY rfl rfl rfl ?_);refine run (aBx o109 1 rfl ty37 rfl rfl ?_);refine run (aBH rfl sl37 ?_);refine Ar.i64 (by omega) (by omega) ?_;refine run (fA aY rfl rfl rfl ?_);refine run (aBx o109 1 rfl ty38 rfl rfl ?_);refine run (aBH rfl xJ ?_);refine Ar.i64 (by omega) (by omega) ?_;refine run (fA aY rfl rfl rfl ?_);refine run (aBx o109 1 rfl nM rfl rfl ?_);refine run (aBH rfl mZ ?_);refine Ar.i64 (by omega) (by omega) ?_;refine Br.dec (fun c128=>?_) (fun hc=>absurd (by omega) hc);refine Br.tt ?_;refine RetVC.one rfl ?_
   refine⟨congrArg Value.bool (hno ?_).symm,Own.sel ‹_› [] rfl⟩
   rw[hsh,decide_eq_false (fun hh=>h60 hh.1)]
   rfl
  refine run (fA lZ rfl rfl rfl ?_);refine run (aBx oh 0 rfl pN rfl rfl ?_);refine run (aBH rfl oC ?_);refine Br.dec (fun c153=>?_) (fun hc=>absurd (by omega) hc);refine run (fA lZ rfl rfl rfl ?_);refine run (aBx oh 0 rfl pN rfl rfl ?_);refine run (aBJ oC iG (q1.ext oh.ext) rfl (by omega) (by omega) ?_);refine run (aBN iG (q1.ext oh.ext) (fun y:iY=>y.2) (by decide) rfl ‹_› ?_);(refine RunVC.alloc oh iG ?_;intro b158 m158 o158);(refine RunVC.aBA o158 1 rfl iG rfl (by decide) (aI ⟨rfl,rfl⟩ ?_);intro m159 o159);refine run (fA aY rfl rfl rfl ?_);refine run (aBx o159 1 rfl ty34 rfl rfl ?_);refine run (aBH rfl xK ?_);refine run (fA aY rfl rfl rfl ?_);refine run (aBx o159 1 rfl eZ rfl rfl ?_);refine run (aBH rfl aH ?_);refine Ar.i64 (by omega) (by omega) ?_;refine run (fA aY rfl rfl rfl ?_);refine run (aBx o159 1 rfl ty36 rfl rfl ?_);refine run (aBH rfl sl36 ?_);refine Ar.i64 (by omega) (by omega) ?_;refine run (fA aY rfl rfl rfl ?_);refine run (aBx o159 1 rfl ty37 rfl rfl ?_);refine run (aBH rfl sl37 ?_);refine Ar.i64 (by omega) (by omega) ?_;refine run (fA aY rfl rfl rfl ?_);refine run (aBx o159 1 rfl ty38 rfl rfl ?_);refine run (aBH rfl xJ ?_);refine Ar.i64 (by omega) (by omega) ?_;refine run (fA aY rfl rfl rfl ?_);refine run (aBx o159 1 rfl nM rfl rfl ?_);refine run (aBH rfl mZ ?_);refine Ar.i64 (by omega) (by omega) ?_;refine Br.dec (fun hc=>absurd hc (by omega)) (fun c178=>?_);refine run (fA aY rfl rfl rfl ?_);refine run (aBB o159 1 rfl aT rfl rfl rfl ?_);refine CallVC.ret (tP _ (.mk xk xt xks xcs xns xa xs_ xg xo) _ _ 300 (Nat.le_refl _) hbx (lM.ext (Own.ext (B:=h) ‹_›) _ _ rx) (by omega)) ?_
  rintro _ m3 ⟨rfl,oc⟩;have o3:=oc.thenE (B:=h) ‹_›;by_cases h300:exN (.mk xk xt xks xcs xns xa xs_ xg xo)≤300
  case neg =>
   refine Br.dec (fun c200=>?_) (fun hc=>absurd (by omega) hc);refine Br.tt ?_;refine RetVC.one rfl ?_
   refine⟨congrArg Value.bool (hno ?_).symm,Own.sel ‹_› [] rfl⟩
   rw[hsh,decide_eq_false (fun hh=>h300 hh.2)]
   rfl
  refine Br.dec (fun hc=>absurd hc (by omega)) (fun c250=>?_);refine run (fA aY rfl rfl rfl ?_);refine run (aBB o3 1 rfl aT rfl rfl rfl ?_);refine CallVC.ret (tI _ (.mk xk xt xks xcs xns xa xs_ xg xo) _ _ 20 (Nat.le_refl _) hbx (lM.ext (Own.ext (B:=h) ‹_›) _ _ rx) (by omega)) ?_;rintro _ m4 ⟨rfl,oc4⟩;have o4:=oc4.thenE (B:=h) ‹_›;cases hb:lA (.mk xk xt xks xcs xns xa xs_ xg xo) 20 with
  | true =>
   refine Br.ff ?_;refine Ar.i64 (by omega) (by omega) ?_
   refine⟨rfl,?_⟩
   refine⟨⟨i+1,by omega,rfl,fun j y hj hy=>?_,Own.sel ‹_› [0] rfl⟩,by simp;omega⟩
   by_cases e:j=i
   ·subst e
    rw[hx]at hy
    cases hy
    rw[hsh,hb,decide_eq_true ⟨h60,h300⟩]
    rfl
   ·exact hpre j y (by omega) hy
  | false =>
   refine Br.tt ?_;refine RetVC.one rfl ?_
   refine⟨congrArg Value.bool (hno ?_).symm,Own.sel ‹_› [] rfl⟩
   rw[hsh,hb,Bool.and_false]
 ·refine run (fA lZ rfl rfl rfl ?_)
  refine run (aBx oh 0 rfl pN rfl rfl ?_);refine run (aBH rfl oC ?_);refine Br.dec (fun hc=>absurd hc (by omega)) (fun c403=>?_);refine run (fA lZ rfl rfl rfl ?_);refine run (aBx oh 0 rfl pN rfl rfl ?_);refine run (aBH rfl oC ?_);refine RetVC.one rfl ?_;have hall:xs.all oD=true:=List.all_eq_true.2 fun x hx=>by
   obtain⟨j,hj⟩:=List.mem_iff_getElem?.1 hx
   exact hpre j x (by have:=(List.getElem?_eq_some_iff.1 hj).1;omega) hj
  refine⟨congrArg Value.bool ?_,Own.sel ‹_› [] rfl⟩
  unfold pS
  rw[hall,Bool.true_and]
  exact decide_eq_decide.2 (by omega)
theorem aAp {xs:List It}(h:pS xs=true):(∀ x∈xs,eC x≤50000000)∧xs.length≤210:=by
 unfold pS at h
 simp only[Bool.and_eq_true,decide_eq_true_eq]at h
 exact⟨fun x hx=>short_size (List.all_eq_true.1 h.1 x hx),h.2⟩
theorem gaps9_spec (xs:List It)(va:Value)(h:Heap)(hP:kA h va xs)(hOK:∀ x∈xs,jX x)(hl:xs.length≤140737488351232)(hW:jE h)(hT:iQ h)(hF:fW h) :
  cK Tryz.prog 8 [.agg ⟨[va]⟩] h fun v h'=>v=.bool true∧Own h [] h':=by
 obtain⟨ya,yc,rfl⟩:=hP.isS
 refine Spec.enter Tryz.func8 rfl Tryz.ntmps8 (by kernel_rfl) ?_;have o0:=Own.refl h;(refine RunVC.aBS o0 rfl ?_;intro b10 m10 o10);refine CallVC.ret (yN _ (hW.ext (Own.ext (B:=h) ‹_›)) (hT.ext (Own.ext (B:=h) ‹_›)) (hF.ext (Own.ext (B:=h) ‹_›))) ?_;rintro _ h1 ⟨rfl,oc⟩;have z1:=oc.thenE (B:=h) ‹_›;clear oc;refine run (aBB z1 0 rfl rL rfl rfl rfl ?_);refine CallVC.ret (sU xs _ _ hOK (by omega) (hP.ext (Own.ext (B:=h) ‹_›))) ?_;rintro _ g2 ⟨rfl,oc⟩;have s2:=oc.thenE (B:=h) ‹_›;clear oc;cases hs:pS xs with
 | false =>
  refine Br.tt ?_;refine RetVC.one rfl ?_
  exact⟨rfl,Own.sel ‹_› [] rfl⟩
 | true =>
  obtain⟨hsz,hn⟩:=aAp hs
  refine Br.ff ?_;refine run (aBB s2 0 rfl rL rfl rfl rfl ?_);refine CallVC.ret (jB xs _ _ (hT.ext (Own.ext (B:=h) ‹_›)) (hF.ext (Own.ext (B:=h) ‹_›)) (hP.ext (Own.ext (B:=h) ‹_›)) hOK hsz hn) ?_;rintro _ h3 ⟨rfl,oc⟩;have z3:=oc.thenE (B:=h) ‹_›;clear oc
  rcases sY xs with p0|⟨p1,p2,_⟩|⟨p1,p2,_⟩
  case inr.inl =>
   rw[p1,p2]
   refine Br.tt ?_;refine Br.tt ?_;refine Br.tt ?_;refine Br.tt ?_;refine RetVC.one rfl ?_
   exact⟨rfl,Own.sel ‹_› [] rfl⟩
  case inr.inr =>
   rw[p1,p2]
   refine Br.tt ?_;refine Br.tt ?_;refine Br.tt ?_;refine Br.tt ?_;refine RetVC.one rfl ?_
   exact⟨rfl,Own.sel ‹_› [] rfl⟩
  obtain⟨hg,hnil,hlf⟩:=gaps_plain p0
  have hlen:=aAu p0
  rw[p0]
  generalize hout:(cB xs).1=s at hg hnil hlf hlen
  by_cases hs0:s=[]
  ·have hx0:=hnil.1 hs0
   subst hs0;subst hx0;refine Br.ff ?_;refine Br.tt ?_;refine Br.tt ?_;refine Br.ff ?_;refine run (fA lZ rfl rfl rfl ?_);refine run (aBx z3 0 rfl pN rfl rfl ?_);refine run (aBH rfl oC ?_);refine RetVC.one rfl ?_
   exact⟨rfl,Own.sel ‹_› [] rfl⟩
  obtain⟨sl,hsl⟩:=hlf hs0
  refine Br.ff ?_;refine Br.dec (fun hc=>absurd hc (by omega)) (fun c250=>?_);refine LoopVC.intro [2,6,7,35,36,37,38,39,40,41,42,43,44,45,46,47,48,49,50,51,52,53,54,55,56,57,58,59,60,61,62,63,64,65,66,67,68,69,70,71,72,73,74,75,76,77,78,79,80,81,82,83,84,85,86,87,88,89,90,91,92,93,94,95,96,97,98,99,100,101,102,103,104,105,106,107,108,109,110,111,112,113,114,115,116] [6,7] (fun vs hh=>∃(i:Nat) (b:Bool),i≤s.length∧vs=[.bool b,.int .i64 i]∧gE (if b then 1 else 0) (s.take i).reverse (s.drop i)=some 0∧Own h [] hh) (fun vs _=>match vs with|[_,.int _ i]=>s.length - i.toNat|_=>0) ?_ ?_
  ·exact⟨0,false,by omega,rfl,by simpa using hg,Own.sel ‹_› [] rfl⟩
  rintro vs junk hh ⟨i,b,hi,rfl,hG,oh⟩;by_cases hlt:i<s.length
  case neg =>
   obtain rfl:i=s.length:=by omega
   rw[List.drop_length]at hG
   have hb:b=false:=by cases b with|false=>rfl|true=>cases hG
   subst hb;have hlast:s[((s.length:Int) - 1).toNat]?=some 10:=by
    have e:((s.length:Int) - 1).toNat=sl.length:=by rw[hsl,List.length_append,List.length_singleton];omega
    rw[e,hsl]
    simp
   have hpos:0<s.length:=List.length_pos_iff.2 hs0;refine run (aBR rfl bN ?_);refine Br.dec (fun hc=>absurd hc (by omega)) (fun c301=>?_);refine Br.tt ?_;refine Br.tt ?_;refine run (aBR rfl bN ?_);refine Ar.i64 (by omega) (by omega) ?_;refine run (aBG rfl rfl bN (by omega) ‹_› ?_);refine RetVC.one rfl ?_
   exact⟨rfl,Own.sel ‹_› [] rfl⟩
  obtain⟨c,hc⟩:=getx hlt
  have hdr:s.drop i=c::s.drop (i+1):=by
   obtain⟨_,e⟩:=List.getElem?_eq_some_iff.1 hc
   rw[List.drop_eq_getElem_cons hlt,e]
  have htk:(s.take (i+1)).reverse=c::(s.take i).reverse:=by rw[List.take_add_one,hc];simp
  rw[hdr]at hG
  have nx:∀ k:Nat,k<256→(c.toNat=k↔c=UInt8.ofNat k):=fun k hk=>by
   constructor
   ·intro e
    rw[← e,UInt8.ofNat_toNat]
   ·intro e
    rw[e,UInt8.toNat_ofNat']
    omega
  have n92:=nx 92 (by decide);have n34:=nx 34 (by decide);have n9:=nx 9 (by decide);have n35:=nx 35 (by decide);have n10:=nx 10 (by decide);have n32:=nx 32 (by decide);cases b with
  | true =>
   have hG:gE 1 (s.take i).reverse (c::s.drop (i+1))=some 0:=hG;by_cases c92:c.toNat=92
   ·have hc92:=n92.1 c92
    rw[gE,if_neg (by decide),if_pos ⟨rfl,hc92⟩]at hG
    have hlt2:i+1<s.length:=by
     by_cases h2:i+1<s.length
     ·exact h2
     ·rw[List.drop_eq_nil_of_le (by omega)]at hG
      cases hG
    obtain⟨d,hd⟩:=getx hlt2
    have hdr2:s.drop (i+1)=d::s.drop (i+2):=by
     obtain⟨_,e⟩:=List.getElem?_eq_some_iff.1 hd
     rw[List.drop_eq_getElem_cons hlt2,e]
    have htk2:(s.take (i+2)).reverse=d::(s.take (i+1)).reverse:=by rw[show i+2=i+1+1 from rfl,List.take_add_one,hd];simp
    rw[hdr2,gE,if_pos rfl,← htk,← htk2]at hG
    refine run (aBR rfl bN ?_);refine Br.dec (fun c321=>?_) (fun hc=>absurd (by omega) hc);refine Br.tt ?_;refine run (aBG rfl rfl bN (by omega) ‹_› ?_);refine Br.dec (fun c323=>?_) (fun hc=>absurd (by omega) hc);refine Ar.i64 (by omega) (by omega) ?_;refine Ar.i64 (by omega) (by omega) ?_
    refine⟨rfl,?_⟩
    exact⟨⟨i+2,true,by omega,by simp;omega,hG,oh⟩,by simp;omega⟩
   ·have hc92:¬ c=92:=fun e=>c92 (n92.2 e)
    by_cases c34:c.toNat=34
    ·have hc34:=n34.1 c34
     subst hc34
     rw[gE,if_neg (by decide),if_neg (by decide),if_neg (by decide)]at hG
     split at hG
     ·cases hG
     rw[← htk]at hG
     refine run (aBR rfl bN ?_);refine Br.dec (fun c341=>?_) (fun hc=>absurd (by omega) hc);refine Br.tt ?_;refine run (aBG rfl rfl bN (by omega) ‹_› ?_);refine Br.ff ?_;refine run (aBG rfl rfl bN (by omega) ‹_› ?_);refine Br.tt ?_;refine Br.ff ?_;refine run (aBG rfl rfl bN (by omega) ‹_› ?_);refine Br.ff ?_;refine run (aBG rfl rfl bN (by omega) ‹_› ?_);refine Br.ff ?_;refine run (aBG rfl rfl bN (by omega) ‹_› ?_);refine Br.ff ?_;refine Br.ff ?_;refine run (aBG rfl rfl bN (by omega) ‹_› ?_);refine Br.ff ?_;refine Br.ff ?_;refine Ar.i64 (by omega) (by omega) ?_
     refine⟨rfl,?_⟩
     all_goals exact⟨⟨i+1,false,by omega,by simp,hG,oh⟩,by simp;omega⟩
    ·have hc34:¬ c=34:=fun e=>c34 (n34.2 e)
     rw[gE,if_neg (by decide),if_neg (fun hh=>hc92 hh.2),if_pos (by rw[if_neg hc34]),← htk]at hG
     refine run (aBR rfl bN ?_);refine Br.dec (fun c381=>?_) (fun hc=>absurd (by omega) hc);refine Br.tt ?_;refine run (aBG rfl rfl bN (by omega) ‹_› ?_);refine Br.dec (fun hc=>absurd hc (by omega)) (fun c383=>?_);refine run (aBG rfl rfl bN (by omega) ‹_› ?_);refine Br.dec (fun hc=>absurd hc (by omega)) (fun c385=>?_);refine Br.tt ?_;refine Ar.i64 (by omega) (by omega) ?_
     refine⟨rfl,?_⟩
     exact⟨⟨i+1,true,by omega,by simp,hG,oh⟩,by simp;omega⟩
  | false =>
   have hG:gE 0 (s.take i).reverse (c::s.drop (i+1))=some 0:=hG;by_cases c34:c.toNat=34
   ·have hc34:=n34.1 c34
    subst hc34
    rw[gE,if_neg (by decide),if_neg (by decide),if_pos (by decide),← htk]at hG
    refine run (aBR rfl bN ?_);refine Br.dec (fun c421=>?_) (fun hc=>absurd (by omega) hc);refine Br.ff ?_;refine Br.ff ?_;refine run (aBG rfl rfl bN (by omega) ‹_› ?_);refine Br.tt ?_;refine Br.tt ?_;refine Ar.i64 (by omega) (by omega) ?_
    refine⟨rfl,?_⟩
    exact⟨⟨i+1,true,by omega,by simp,hG,oh⟩,by simp;omega⟩
   ·have hc34:¬ c=34:=fun e=>c34 (n34.2 e)
    rw[gE,if_neg (by decide),if_neg (by rintro⟨e,_⟩;cases e),if_neg (by rw[if_neg hc34];decide)]at hG
    split at hG
    ·cases hG
    rename_i hbad
    rw[← htk]at hG
    have hbad:¬ (c=9∨c=35∨(c=10∧((s.take i).reverse=[]∨(s.take i).reverse[0]?=some 10∨(s.take i).reverse[0]?=some 32))∨(c=32∧((s.take i).reverse=[]∨((s.take i).reverse[0]?=some 32∧(s.take i).reverse[1]?≠some 10)))):=fun hh=>hbad (decide_eq_true hh);have b9:¬ c.toNat=9:=fun e=>hbad (.inl (n9.1 e));have b35:¬ c.toNat=35:=fun e=>hbad (.inr (.inl (n35.1 e)));have p0:∀ d,0<i→s[i - 1]?=some d→(s.take i).reverse[0]?=some d:=fun d h0 hd=>by
     rw[List.getElem?_reverse (by simp;omega),List.length_take,Nat.min_eq_left (by omega),List.getElem?_take,if_pos (by omega)]
     exact hd
    have p1:∀ d,1<i→s[i - 2]?=some d→(s.take i).reverse[1]?=some d:=fun d h0 hd=>by
     rw[List.getElem?_reverse (by simp;omega),List.length_take,Nat.min_eq_left (by omega),List.getElem?_take,if_pos (by omega)]
     exact hd
    have pn:i=0→(s.take i).reverse=[]:=fun e=>by subst e;rfl
    have E:∀(d:UInt8) (k:Nat),k<256→(d.toNat=k↔d=UInt8.ofNat k):=fun d k hk=>by
     constructor
     ·intro e
      rw[← e,UInt8.ofNat_toNat]
     ·intro e
      rw[e,UInt8.toNat_ofNat']
      omega
    by_cases c10:c.toNat=10
    ·have hc10:=n10.1 c10
     have hi0:0<i:=Nat.pos_of_ne_zero fun e=>hbad (.inr (.inr (.inl ⟨hc10,.inl (pn e)⟩)))
     obtain⟨d,hd⟩:=getx (show i - 1<s.length by omega)
     have hd':s[((i:Int) - 1).toNat]?=some d:=by rw[show((i:Int) - 1).toNat=i - 1 by omega];exact hd
     have d10:¬ d.toNat=10:=fun e=>hbad (.inr (.inr (.inl ⟨hc10,.inr (.inl (by rw[p0 d hi0 hd,(E d 10 (by decide)).1 e];rfl))⟩)));have d32:¬ d.toNat=32:=fun e=>hbad (.inr (.inr (.inl ⟨hc10,.inr (.inr (by rw[p0 d hi0 hd,(E d 32 (by decide)).1 e];rfl))⟩)));refine run (aBR rfl bN ?_);refine Br.dec (fun c461=>?_) (fun hc=>absurd (by omega) hc);refine Br.ff ?_;refine Br.ff ?_;refine run (aBG rfl rfl bN (by omega) ‹_› ?_);refine Br.dec (fun hc=>absurd hc (by omega)) (fun c463=>?_);refine Br.ff ?_;refine run (aBG rfl rfl bN (by omega) ‹_› ?_);refine Br.dec (fun hc=>absurd hc (by omega)) (fun c465=>?_);refine run (aBG rfl rfl bN (by omega) ‹_› ?_);refine Br.dec (fun hc=>absurd hc (by omega)) (fun c467=>?_);refine run (aBG rfl rfl bN (by omega) ‹_› ?_);refine Br.dec (fun c469=>?_) (fun hc=>absurd (by omega) hc);refine Br.dec (fun hc=>absurd hc (by omega)) (fun c470=>?_);refine Ar.i64 (by omega) (by omega) ?_;refine run (aBG rfl rfl bN (by omega) ‹_› ?_);refine Br.dec (fun hc=>absurd hc (by omega)) (fun c472=>?_);refine Ar.i64 (by omega) (by omega) ?_;refine run (aBG rfl rfl bN (by omega) ‹_› ?_);refine Br.dec (fun hc=>absurd hc (by omega)) (fun c474=>?_);refine run (aBG rfl rfl bN (by omega) ‹_› ?_);refine Br.dec (fun hc=>absurd hc (by omega)) (fun c476=>?_);refine Br.ff ?_;refine Ar.i64 (by omega) (by omega) ?_
     refine⟨rfl,?_⟩
     exact⟨⟨i+1,false,by omega,by simp,hG,oh⟩,by simp;omega⟩
    by_cases c32:c.toNat=32
    ·have hc32:=n32.1 c32
     have hi0:0<i:=Nat.pos_of_ne_zero fun e=>hbad (.inr (.inr (.inr ⟨hc32,.inl (pn e)⟩)))
     obtain⟨d,hd⟩:=getx (show i - 1<s.length by omega)
     have hd':s[((i:Int) - 1).toNat]?=some d:=by rw[show((i:Int) - 1).toNat=i - 1 by omega];exact hd
     by_cases d32:d.toNat=32
     ·have key:(s.take i).reverse[1]?=some 10:=Classical.byContradiction fun hh=>hbad (.inr (.inr (.inr ⟨hc32,.inr ⟨by rw[p0 d hi0 hd,(E d 32 (by decide)).1 d32];rfl,hh⟩⟩)))
      have hi1:1<i:=by
       have:=(List.getElem?_eq_some_iff.1 key).1
       simp at this
       omega
      obtain⟨f,hf⟩:=getx (show i - 2<s.length by omega)
      have hf':s[((i:Int) - 2).toNat]?=some f:=by rw[show((i:Int) - 2).toNat=i - 2 by omega];exact hf
      have f10:f.toNat=10:=by
       have:=p1 f hi1 hf
       rw[key]at this
       cases this
       rfl
      refine run (aBR rfl bN ?_);refine Br.dec (fun c521=>?_) (fun hc=>absurd (by omega) hc);refine Br.ff ?_;refine Br.ff ?_;refine run (aBG rfl rfl bN (by omega) ‹_› ?_);refine Br.dec (fun hc=>absurd hc (by omega)) (fun c523=>?_);refine Br.ff ?_;refine run (aBG rfl rfl bN (by omega) ‹_› ?_);refine Br.dec (fun hc=>absurd hc (by omega)) (fun c525=>?_);refine run (aBG rfl rfl bN (by omega) ‹_› ?_);refine Br.dec (fun hc=>absurd hc (by omega)) (fun c527=>?_);refine run (aBG rfl rfl bN (by omega) ‹_› ?_);refine Br.dec (fun hc=>absurd hc (by omega)) (fun c529=>?_);refine Br.ff ?_;refine run (aBG rfl rfl bN (by omega) ‹_› ?_);refine Br.dec (fun c531=>?_) (fun hc=>absurd (by omega) hc);refine Br.dec (fun hc=>absurd hc (by omega)) (fun c532=>?_);refine Ar.i64 (by omega) (by omega) ?_;refine run (aBG rfl rfl bN (by omega) ‹_› ?_);refine Br.dec (fun c534=>?_) (fun hc=>absurd (by omega) hc);refine Br.dec (fun hc=>absurd hc (by omega)) (fun c535=>?_);refine Ar.i64 (by omega) (by omega) ?_;refine run (aBG rfl rfl bN (by omega) ‹_› ?_);refine Br.aBO (fun hc=>absurd (by first|omega|assumption|decide|exact rfl) hc) (fun c537=>?_);refine Ar.i64 (by omega) (by omega) ?_
      refine⟨rfl,?_⟩
      exact⟨⟨i+1,false,by omega,by simp,hG,oh⟩,by simp;omega⟩
     ·refine run (aBR rfl bN ?_)
      refine Br.dec (fun c581=>?_) (fun hc=>absurd (by omega) hc);refine Br.ff ?_;refine Br.ff ?_;refine run (aBG rfl rfl bN (by omega) ‹_› ?_);refine Br.dec (fun hc=>absurd hc (by omega)) (fun c583=>?_);refine Br.ff ?_;refine run (aBG rfl rfl bN (by omega) ‹_› ?_);refine Br.dec (fun hc=>absurd hc (by omega)) (fun c585=>?_);refine run (aBG rfl rfl bN (by omega) ‹_› ?_);refine Br.dec (fun hc=>absurd hc (by omega)) (fun c587=>?_);refine run (aBG rfl rfl bN (by omega) ‹_› ?_);refine Br.dec (fun hc=>absurd hc (by omega)) (fun c589=>?_);refine Br.ff ?_;refine run (aBG rfl rfl bN (by omega) ‹_› ?_);refine Br.dec (fun c591=>?_) (fun hc=>absurd (by omega) hc);refine Br.dec (fun hc=>absurd hc (by omega)) (fun c592=>?_);refine Ar.i64 (by omega) (by omega) ?_;refine run (aBG rfl rfl bN (by omega) ‹_› ?_);refine Br.dec (fun hc=>absurd hc (by omega)) (fun c594=>?_);refine Br.ff ?_;refine Ar.i64 (by omega) (by omega) ?_
      refine⟨rfl,?_⟩
      exact⟨⟨i+1,false,by omega,by simp,hG,oh⟩,by simp;omega⟩
    ·refine run (aBR rfl bN ?_)
     refine Br.dec (fun c641=>?_) (fun hc=>absurd (by omega) hc);refine Br.ff ?_;refine Br.ff ?_;refine run (aBG rfl rfl bN (by omega) ‹_› ?_);refine Br.dec (fun hc=>absurd hc (by omega)) (fun c643=>?_);refine Br.ff ?_;refine run (aBG rfl rfl bN (by omega) ‹_› ?_);refine Br.dec (fun hc=>absurd hc (by omega)) (fun c645=>?_);refine run (aBG rfl rfl bN (by omega) ‹_› ?_);refine Br.dec (fun hc=>absurd hc (by omega)) (fun c647=>?_);refine run (aBG rfl rfl bN (by omega) ‹_› ?_);refine Br.dec (fun hc=>absurd hc (by omega)) (fun c649=>?_);refine Br.ff ?_;refine run (aBG rfl rfl bN (by omega) ‹_› ?_);refine Br.dec (fun hc=>absurd hc (by omega)) (fun c651=>?_);refine Br.ff ?_;refine Ar.i64 (by omega) (by omega) ?_
     refine⟨rfl,?_⟩
     exact⟨⟨i+1,false,by omega,by simp,hG,oh⟩,by simp;omega⟩
end Go.Proofs.YtohlogbnpfofpaaGreatDoor
namespace Go.Proofs.YtohlogbnpfofpaaGreatDoor
open Go Go.ChangeShapes Go.WideShapes Go.ChangeAt Go.RowKit Go.WideElems Go.Joins Go.Deep
section
variable {H : Type} {enc : TypeId × Value → H} {P : Program} {W : World}
def wOK (P:Program)(t:TypeId)(d:DataW H):Prop:=(d.weights P t).all (·≤reachBytes)=true
def fieldsAt (P:Program)(fs:Array Field)(l:List (TypeId×Nat×Nat)):Bool:=fs.toList.map (fun f=>(f.type,f.offset,P.cellsOf f.type)) == l
theorem pK:∀ {ts:List TypeId}{ds:List (DataW H)},(DataW.weightsEach P ts ds).all (·≤reachBytes)=true→∀ {j:Nat}{t:TypeId}{d:DataW H},ts[j]?=some t→ds[j]?=some d→wOK P t d
 | [],_,_,_,_,_,hj,_=>by simp at hj
 | _::_,[],_,_,_,_,_,hd=>by simp at hd
 | t::ts,d::ds,h,0,_,_,hj,hd=>by
  simp only[DataW.weightsEach,List.all_append,Bool.and_eq_true]at h
  simp at hj hd
  subst hj;subst hd;exact h.1
 | t::ts,d::ds,h,j+1,_,_,hj,hd=>by
  simp only[DataW.weightsEach,List.all_append,Bool.and_eq_true]at h
  exact pK h.2 (by simpa using hj) (by simpa using hd)
theorem rN {e:TypeId}:∀ {l:List (DataW H)},(DataW.weightsAll P e l).all (·≤reachBytes)=true→∀ {j:Nat}{d:DataW H},l[j]?=some d→(d.weights P e).all (·≤reachBytes)=true
 | [],_,_,_,hj=>by simp at hj
 | x::l,h,0,d,hj=>by
  simp only[DataW.weightsAll,List.all_append,Bool.and_eq_true]at h
  simp at hj
  subst hj;exact h.1
 | x::l,h,j+1,d,hj=>by
  simp only[DataW.weightsAll,List.all_append,Bool.and_eq_true]at h
  exact rN h.2 (by simpa using hj)
theorem dZ {t:TypeId}{fs:Array Field}{l:List (TypeId×Nat×Nat)}{fuel:Nat}{cs:List Value}{x:DataW H×List MemPlace}(ht:P.underlying t=some (.struct fs))(hl:fieldsAt P fs l=true)
  (h:DataW.trod enc P W 0 (fun _=>true) true fuel t cs=some x) (hw:wOK P t x.1):∃ n,fuel=n+1∧cs.length=P.cellsOf t ∧
   ∀(i:Nat) (ty:TypeId) (o sz:Nat),l[i]?=some (ty,o,sz)→∃ y,DataW.trod enc P W 0 (fun _=>true) true n ty ((cs.drop o).take sz)=some y∧wOK P ty y.1:=by
 obtain⟨xs,n,rfl,hx,hlen,hsz,hf⟩:=DataW.trod_struct ht h
 refine⟨n,rfl,hlen,fun i ty o sz hi=>?_⟩
 have hl:=eq_of_beq hl
 rw[← hl,List.getElem?_map]at hi
 obtain⟨f,hfi,he⟩:=Option.map_eq_some_iff.1 hi
 cases he
 have hfi2:fs[i]?=some f:=by simpa using hfi
 have h1:=hf i f hfi2;have hil:i<xs.length:=by rw[hsz];exact(Array.getElem?_eq_some_iff.1 hfi2).1
 obtain⟨y,hy⟩:=getx hil
 rw[hy]at h1
 refine⟨y,h1,?_⟩
 have hd:x.1=.agg (xs.map (·.1)):=congrArg Prod.fst hx
 rw[hd]at hw
 unfold wOK at hw
 simp only[DataW.weights,ht]at hw
 exact pK hw (j:=i) (by rw[List.getElem?_map,hfi];rfl) (by rw[List.getElem?_map,hy];rfl)
theorem qW {α β:Type}{ψ:α→β→Prop}:∀ {l:List α},(∀ c∈l,∃ x,ψ c x)→∃ xs:List β,l.length=xs.length∧∀(i:Nat)(x:β),xs[i]?=some x→∃ c,l[i]?=some c∧ψ c x
 | [],_=>⟨[],rfl,fun i x h=>by simp at h⟩
 | c::l,h=>by
  obtain⟨x,hx⟩:=h c (by simp)
  obtain⟨xs,h1,h2⟩:=qW (l:=l) fun c hc=>h c (by simp[hc])
  refine⟨x::xs,by simp[h1],fun i y hy=>?_⟩
  cases i with
  | zero=>simp at hy;subst hy;exact⟨c,rfl,hx⟩
  | succ i=>exact h2 i y (by simpa using hy)
theorem gN {t e:TypeId}{fuel sz:Nat}{cs:List Value}{x:DataW H×List MemPlace}{α:Type}{f:α→List Value}{ψ:α→Prop}(ht:P.underlying t=some (.slice e))(hsz:P.cellsOf e=sz)(hf:∀ y,(f y).length=sz)(hpos:0<sz)(hby:0<P.bytesOf e)
  (hel:∀ n,n<fuel→∀ cs x,DataW.trod enc P W 0 (fun _=>true) true n e cs=some x→wOK P e x.1→∃ y,cs=f y∧ψ y)
  (h:DataW.trod enc P W 0 (fun _=>true) true fuel t cs=some x) (hw:wOK P t x.1):∃(v:Value) (ys:List α),cs=[v]∧cR sz W.heap v ys.length (ys.flatMap f)∧(∀ y∈ys,ψ y)∧ys.length≤140737488351232:=by
 subst hsz
 rcases DataW.trod_slice ht h with ⟨hcs,hx⟩|⟨a,len,cap,elems,rest,n,rfl,hcs,hx,hb,hl,hm,hlen,hel',hsp,hns⟩
 ·exact⟨_,[],hcs,cR.nil _ _,by simp,by simp⟩
 ·have hd:x.1=_:=congrArg Prod.fst hx
  rw[hd]at hw
  unfold wOK at hw
  simp only[DataW.weights,ht,List.all_cons,Bool.and_eq_true,List.all_append,List.length_map,decide_eq_true_eq]at hw
  have each:∀ j,j<len→∃ y:α,(∀ r u,(f y)[r]?=some u→W.cell? ((a.add (j*P.cellsOf e)).add r)=some u)∧ψ y:=by
   intro j hj;have h1:=hel' j hj
   obtain⟨d,hd⟩:=getx (l:=elems) (i:=j) (by omega)
   rw[hd]at h1
   obtain⟨cs',g1,g2⟩:=Option.bind_eq_some_iff.1 h1
   have wj:wOK P e d.1:=rN hw.2.1 (j:=j) (by rw[List.getElem?_map,hd];rfl)
   obtain⟨y,rfl,hy⟩:=hel n (Nat.lt_succ_self n) cs' d g2 wj
   obtain⟨_,hlen',hcell⟩:=World.cells?_some g1
   refine⟨y,fun r u hu=>?_,hy⟩
   have hr:r<P.cellsOf e:=by
    have:=(List.getElem?_eq_some_iff.1 hu).1
    rw[hf]at this
    exact this
   rw[hcell r hr]
   exact hu
  obtain⟨ys,hl1,hl2⟩:=qW (l:=List.range len) (fun c hc=>each c (List.mem_range.1 hc))
  have hlen2:ys.length=len:=by rw[← hl1,List.length_range]
  have at_:∀(j:Nat) (y:α),ys[j]?=some y→(∀ r u,(f y)[r]?=some u→W.cell? ((a.add (j*P.cellsOf e)).add r)=some u)∧ψ y:=fun j y hy=>by
   obtain⟨c,hc,h⟩:=hl2 j y hy
   have hj:c=j:=by
    obtain⟨hj,e⟩:=List.getElem?_eq_some_iff.1 hc
    simpa using e.symm
   subst hj;exact h
  refine⟨_,ys,hcs,?_,fun y hy=>?_,?_⟩
  ·rw[hlen2]
   exact aAa (f:=f) hf hpos hlen2 hl (fun j y hy r u hu=>(at_ j y hy).1 r u hu)
  ·obtain⟨j,hj⟩:=List.mem_iff_getElem?.1 hy
   exact(at_ j y hj).2
  ·have h1:=hw.1
   simp only[reachBytes]at h1
   have h2:len≤(elems.length+rest.length)*P.bytesOf e:=Nat.le_trans (by omega) (Nat.le_mul_of_pos_right _ hby)
   rw[hlen2]
   omega
theorem gX {t:TypeId}{fuel:Nat}{cs:List Value}{x:DataW H×List MemPlace}(ht:P.underlying t=some .string)(h:DataW.trod enc P W 0 (fun _=>true) true fuel t cs=some x)(hw:wOK P t x.1):∃ l:List UInt8,cs=[.string ⟨⟨l⟩⟩]∧l.length≤1000000000000000:=by
 obtain⟨⟨⟨l⟩⟩,e1,hx1,_⟩:=DataW.trod_string ht h
 refine⟨l,e1,?_⟩
 unfold wOK at hw
 rw[hx1]at hw
 have:=List.all_eq_true.1 hw l.length (by simp[DataW.weights])
 have:=of_decide_eq_true this
 simp only[reachBytes]at this
 omega
theorem gA {t:TypeId}{fuel:Nat}{cs:List Value}{x:DataW H×List MemPlace}(ht:P.underlying t=some (.int .i64))(h:DataW.trod enc P W 0 (fun _=>true) true fuel t cs=some x):∃ n:Int,cs=[.int .i64 n]∧(-9223372036854775808≤n∧n≤9223372036854775807):=by
 obtain⟨n,e,_,w⟩:=DataW.trod_int ht h
 exact⟨n,e,by simpa[Lit.wf,IntKind.min,IntKind.max,IntKind.signed,IntKind.bits] using w⟩
end
section
variable {H : Type} {enc : TypeId × Value → H} {W : World}
theorem tr_vl {fuel:Nat}{cs:List Value}{x:DataW H×List MemPlace}(h:DataW.trod enc Tryz.prog W 0 (fun _=>true) true fuel 93 cs=some x)(hw:wOK Tryz.prog 93 x.1):∃ y:Vl,cs=vlC y∧aBt y:=by
 obtain⟨n,rfl,hlen,hf⟩:=dZ (l:=[(3,0,1),(3,1,1),(9,2,1)]) Tryz.underlying93 (by kernel_rfl) h hw
 have hlen:cs.length=3:=hlen.trans (by kernel_rfl)
 match cs,hlen with
 | [c0,c1,c2],_ =>
  obtain⟨y0,t0,w0⟩:=hf 0 _ _ _ rfl
  obtain⟨y1,t1,w1⟩:=hf 1 _ _ _ rfl
  obtain⟨y2,t2,w2⟩:=hf 2 _ _ _ rfl
  obtain⟨a0,e0,b0⟩:=gA Tryz.underlying3 t0
  obtain⟨a1,e1,b1⟩:=gA Tryz.underlying3 t1
  obtain⟨a2,e2,b2⟩:=gX Tryz.underlying9 t2 w2
  cases e0;cases e1;cases e2
  exact⟨⟨a0,a1,a2⟩,rfl,b0,b1,b2⟩
theorem tr_opd {fuel:Nat}{cs:List Value}{x:DataW H×List MemPlace}(h:DataW.trod enc Tryz.prog W 0 (fun _=>true) true fuel 140 cs=some x)(hw:wOK Tryz.prog 140 x.1):∃ y:Opd,cs=opdC y∧aAT y:=by
 obtain⟨n,rfl,hlen,hf⟩:=dZ (l:=[(9,0,1),(9,1,1),(4,2,1),(93,3,3)]) Tryz.underlying140 (by kernel_rfl) h hw
 have hlen:cs.length=6:=hlen.trans (by kernel_rfl)
 match cs,hlen with
 | [c0,c1,c2,c3,c4,c5],_ =>
  obtain⟨y0,t0,w0⟩:=hf 0 _ _ _ rfl
  obtain⟨y1,t1,w1⟩:=hf 1 _ _ _ rfl
  obtain⟨y2,t2,w2⟩:=hf 2 _ _ _ rfl
  obtain⟨y3,t3,w3⟩:=hf 3 _ _ _ rfl
  obtain⟨a0,e0,b0⟩:=gX Tryz.underlying9 t0 w0
  obtain⟨a1,e1,b1⟩:=gX Tryz.underlying9 t1 w1
  obtain⟨a2,e2,b2⟩:=DataW.trod_bool Tryz.underlying4 t2
  obtain⟨a3,e3,b3⟩:=tr_vl t3 w3
  cases e0;cases e1;cases e2;cases e3
  exact⟨⟨a0,a1,a2,a3⟩,rfl,b0,b1,b3⟩
theorem tr_cnd {fuel:Nat}{cs:List Value}{x:DataW H×List MemPlace}(h:DataW.trod enc Tryz.prog W 0 (fun _=>true) true fuel 142 cs=some x)(hw:wOK Tryz.prog 142 x.1):∃ y:Cnd,cs=oW y∧wI y:=by
 obtain⟨n,rfl,hlen,hf⟩:=dZ (l:=[(140,0,6),(3,6,1),(140,7,6),(3,13,1)]) Tryz.underlying142 (by kernel_rfl) h hw
 have hlen:cs.length=14:=hlen.trans (by kernel_rfl)
 match cs,hlen with
 | [c0,c1,c2,c3,c4,c5,c6,c7,c8,c9,c10,c11,c12,c13],_ =>
  obtain⟨y0,t0,w0⟩:=hf 0 _ _ _ rfl
  obtain⟨y1,t1,w1⟩:=hf 1 _ _ _ rfl
  obtain⟨y2,t2,w2⟩:=hf 2 _ _ _ rfl
  obtain⟨y3,t3,w3⟩:=hf 3 _ _ _ rfl
  obtain⟨a0,e0,b0⟩:=tr_opd t0 w0
  obtain⟨a1,e1,b1⟩:=gA Tryz.underlying3 t1
  obtain⟨a2,e2,b2⟩:=tr_opd t2 w2
  obtain⟨a3,e3,b3⟩:=gA Tryz.underlying3 t3
  cases e0;cases e1;cases e2;cases e3
  exact⟨⟨a0,a1,a2,a3⟩,rfl,b0,b1,b2,b3⟩
theorem tr_col {fuel:Nat}{cs:List Value}{x:DataW H×List MemPlace}(h:DataW.trod enc Tryz.prog W 0 (fun _=>true) true fuel 132 cs=some x)(hw:wOK Tryz.prog 132 x.1):∃ y:Col,cs=wO y∧ColOK y:=by
 obtain⟨n,rfl,hlen,hf⟩:=dZ (l:=[(9,0,1),(3,1,1),(93,2,3)]) Tryz.underlying132 (by kernel_rfl) h hw
 have hlen:cs.length=5:=hlen.trans (by kernel_rfl)
 match cs,hlen with
 | [c0,c1,c2,c3,c4],_ =>
  obtain⟨y0,t0,w0⟩:=hf 0 _ _ _ rfl
  obtain⟨y1,t1,w1⟩:=hf 1 _ _ _ rfl
  obtain⟨y2,t2,w2⟩:=hf 2 _ _ _ rfl
  obtain⟨a0,e0,b0⟩:=gX Tryz.underlying9 t0 w0
  obtain⟨a1,e1,b1⟩:=gA Tryz.underlying3 t1
  obtain⟨a2,e2,b2⟩:=tr_vl t2 w2
  cases e0;cases e1;cases e2
  exact⟨⟨a0,a1,a2⟩,rfl,b0,b1,b2⟩
theorem tr_trm {fuel:Nat}{cs:List Value}{x:DataW H×List MemPlace}(h:DataW.trod enc Tryz.prog W 0 (fun _=>true) true fuel 136 cs=some x)(hw:wOK Tryz.prog 136 x.1):∃ y:Trm,cs=zV y∧TrmOK y:=by
 obtain⟨n,rfl,hlen,hf⟩:=dZ (l:=[(9,0,1),(3,1,1),(3,2,1),(134,3,2),(3,5,1),(3,6,1)]) Tryz.underlying136 (by kernel_rfl) h hw
 have hlen:cs.length=7:=hlen.trans (by kernel_rfl)
 match cs,hlen with
 | [c0,c1,c2,c3,c4,c5,c6],_ =>
  obtain⟨y0,t0,w0⟩:=hf 0 _ _ _ rfl
  obtain⟨y1,t1,w1⟩:=hf 1 _ _ _ rfl
  obtain⟨y2,t2,w2⟩:=hf 2 _ _ _ rfl
  obtain⟨y3,t3,w3⟩:=hf 3 _ _ _ rfl
  obtain⟨y5,t5,w5⟩:=hf 4 _ _ _ rfl
  obtain⟨y6,t6,w6⟩:=hf 5 _ _ _ rfl
  obtain⟨k,rfl,_,hg⟩:=dZ (l:=[(3,0,1),(3,1,1)]) Tryz.underlying134 (by kernel_rfl) t3 w3
  obtain⟨z0,s0,u0⟩:=hg 0 _ _ _ rfl
  obtain⟨z1,s1,u1⟩:=hg 1 _ _ _ rfl
  obtain⟨a0,e0,b0⟩:=gX Tryz.underlying9 t0 w0
  obtain⟨a1,e1,b1⟩:=gA Tryz.underlying3 t1
  obtain⟨a2,e2,b2⟩:=gA Tryz.underlying3 t2
  obtain⟨a3,e3,b3⟩:=gA Tryz.underlying3 s0
  obtain⟨a4,e4,b4⟩:=gA Tryz.underlying3 s1
  obtain⟨a5,e5,b5⟩:=gA Tryz.underlying3 t5
  obtain⟨a6,e6,b6⟩:=gA Tryz.underlying3 t6
  cases e0;cases e1;cases e2;cases e3;cases e4;cases e5;cases e6
  exact⟨⟨a0,a1,a2,a3,a4,a5,a6⟩,rfl,b0,b1,b2,b3,b4,b5,b6⟩
theorem tr_nmd {fuel:Nat}{cs:List Value}{x:DataW H×List MemPlace}(h:DataW.trod enc Tryz.prog W 0 (fun _=>true) true fuel 95 cs=some x)(hw:wOK Tryz.prog 95 x.1):∃ y:Nmd,cs=wN y∧NmdOK y:=by
 obtain⟨n,rfl,hlen,hf⟩:=dZ (l:=[(9,0,1),(93,1,3)]) Tryz.underlying95 (by kernel_rfl) h hw
 have hlen:cs.length=4:=hlen.trans (by kernel_rfl)
 match cs,hlen with
 | [c0,c1,c2,c3],_ =>
  obtain⟨y0,t0,w0⟩:=hf 0 _ _ _ rfl
  obtain⟨y1,t1,w1⟩:=hf 1 _ _ _ rfl
  obtain⟨a0,e0,b0⟩:=gX Tryz.underlying9 t0 w0
  obtain⟨a1,e1,b1⟩:=tr_vl t1 w1
  cases e0;cases e1
  exact⟨⟨a0,a1⟩,rfl,b0,b1⟩
theorem tr_vr {fuel:Nat}{cs:List Value}{x:DataW H×List MemPlace}(h:DataW.trod enc Tryz.prog W 0 (fun _=>true) true fuel 98 cs=some x)(hw:wOK Tryz.prog 98 x.1):∃ y:Vr,cs=vrC y∧VrOK y:=by
 obtain⟨n,rfl,hlen,hf⟩:=dZ (l:=[(9,0,1),(9,1,1)]) Tryz.underlying98 (by kernel_rfl) h hw
 have hlen:cs.length=2:=hlen.trans (by kernel_rfl)
 match cs,hlen with
 | [c0,c1],_ =>
  obtain⟨y0,t0,w0⟩:=hf 0 _ _ _ rfl
  obtain⟨y1,t1,w1⟩:=hf 1 _ _ _ rfl
  obtain⟨a0,e0,b0⟩:=gX Tryz.underlying9 t0 w0
  obtain⟨a1,e1,b1⟩:=gX Tryz.underlying9 t1 w1
  cases e0;cases e1
  exact⟨⟨a0,a1⟩,rfl,b0,b1⟩
theorem tr_strC {fuel:Nat}{cs:List Value}{x:DataW H×List MemPlace}(h:DataW.trod enc Tryz.prog W 0 (fun _=>true) true fuel 9 cs=some x)(hw:wOK Tryz.prog 9 x.1):∃ y:List UInt8,cs=rV y∧y.length≤1000000000000000:=gX Tryz.underlying9 h hw
theorem exsOf {W:Heap}{ys:List cV}{ψ:cV→Ex→Prop}(hψ:∀ c x,ψ c x→lM W c.1 x∧gR x):∀ {l:List cV},(∀ c∈l,∃ x,ψ c x)→∃ xs:List Ex,l.length=xs.length∧mT W l xs∧rR xs
 | [],_=>⟨[],rfl,trivial,trivial⟩
 | c::l,h=>by
  obtain⟨x,hx⟩:=h c (by simp)
  obtain⟨xs,h1,h2,h3⟩:=exsOf (ys:=ys) hψ (l:=l) fun c hc=>h c (by simp[hc])
  obtain⟨h4,h5⟩:=hψ c x hx
  exact⟨x::xs,by simp[h1],by rw[mT];exact⟨h4,h2⟩,by rw[rR];exact⟨h5,h3⟩⟩
theorem tr_ex:∀(fuel:Nat) {cs:List Value}{x:DataW H×List MemPlace}(_:DataW.trod enc Tryz.prog W 0 (fun _=>true) true fuel 42 cs=some x)(_:wOK Tryz.prog 42 x.1),cs.length=9∧∃ y:Ex,lM W.heap cs y∧gR y
 | 0,_,_,h,_=>by simp[DataW.trod]at h
 | m+1,cs,x,h,hw=>by
  obtain⟨n,hn,hlen,hf⟩:=dZ (l:=[(3,0,1),(9,1,1),(40,2,1),(39,3,1),(35,4,1),(9,5,1),(9,6,1),(3,7,1),(3,8,1)]) Tryz.underlying42 (by kernel_rfl) h hw
  have hlen:cs.length=9:=hlen.trans (by kernel_rfl);obtain rfl:m=n:=Nat.succ.inj hn
  refine⟨hlen,?_⟩
  match cs,hlen with
  | [c0,c1,c2,c3,c4,c5,c6,c7,c8],_ =>
   obtain⟨y0,t0,w0⟩:=hf 0 _ _ _ rfl
   obtain⟨y1,t1,w1⟩:=hf 1 _ _ _ rfl
   obtain⟨y2,t2,w2⟩:=hf 2 _ _ _ rfl
   obtain⟨y3,t3,w3⟩:=hf 3 _ _ _ rfl
   obtain⟨y4,t4,w4⟩:=hf 4 _ _ _ rfl
   obtain⟨y5,t5,w5⟩:=hf 5 _ _ _ rfl
   obtain⟨y6,t6,w6⟩:=hf 6 _ _ _ rfl
   obtain⟨y7,t7,w7⟩:=hf 7 _ _ _ rfl
   obtain⟨y8,t8,w8⟩:=hf 8 _ _ _ rfl
   obtain⟨a0,e0,b0⟩:=gA Tryz.underlying3 t0
   obtain⟨a1,e1,b1⟩:=gX Tryz.underlying9 t1 w1
   obtain⟨v2,ks,e2,r2,p2,q2⟩:=gN (sz:=9) (f:=Subtype.val) (ψ:=fun c:cV=>∃ y:Ex,lM W.heap c.1 y∧gR y) Tryz.underlying40 (by kernel_rfl) (fun y:cV=>y.2) (by decide) (by decide +kernel)
    (fun n hn cs x h hw=>by
     have:=tr_ex n h hw
     exact⟨⟨cs,this.1⟩,rfl,this.2⟩) t2 w2
   obtain⟨v3,cds,e3,r3,p3,q3⟩:=gN (sz:=14) (f:=oW) Tryz.underlying39 (by kernel_rfl) (fun _=>rfl) (by decide) (by decide +kernel) (fun n hn cs x h hw=>tr_cnd h hw) t3 w3
   obtain⟨v4,nms,e4,r4,p4,q4⟩:=gN (sz:=1) (f:=rV) Tryz.underlying35 (by kernel_rfl) (fun _=>rfl) (by decide) (by decide +kernel) (fun n hn cs x h hw=>tr_strC h hw) t4 w4
   obtain⟨a5,e5,b5⟩:=gX Tryz.underlying9 t5 w5
   obtain⟨a6,e6,b6⟩:=gX Tryz.underlying9 t6 w6
   obtain⟨a7,e7,b7⟩:=gA Tryz.underlying3 t7
   obtain⟨a8,e8,b8⟩:=gA Tryz.underlying3 t8
   cases e0;cases e1;cases e2;cases e3;cases e4;cases e5;cases e6;cases e7;cases e8
   obtain⟨xs,h1,h2,h3⟩:=exsOf (W:=W.heap) (ys:=ks) (ψ:=fun c y=>lM W.heap c.1 y∧gR y) (fun c x h=>h) p2
   refine⟨.mk a0 a1 xs cds nms a5 a6 a7 0,?_,?_⟩
   ·rw[lM]
    exact⟨_,_,_,a8,rfl,r3,r4,ks,by rw[← h1];exact r2,h2⟩
   ·rw[gR]
    exact⟨b0,b1,h3,p3,p4,b5,b6,b7,by omega,by omega,by omega⟩
theorem tr_it {fuel:Nat}{cs:List Value}{x:DataW H×List MemPlace}(h:DataW.trod enc Tryz.prog W 0 (fun _=>true) true fuel 44 cs=some x)(hw:wOK Tryz.prog 44 x.1):cs.length=25∧∃ y:It,itH W.heap cs y∧jX y:=by
 obtain⟨n,rfl,hlen,hf⟩:=dZ (l:=[(3,0,1),(9,1,1),(3,2,1),(9,3,1),(9,4,1),(34,5,1),(35,6,1),(3,7,1),(3,8,1),(3,9,1),(36,10,1),(9,11,1),(9,12,1),(37,13,1),(38,14,1),(39,15,1),(42,16,9)]) Tryz.underlying44 (by kernel_rfl) h hw
 have hlen:cs.length=25:=hlen.trans (by kernel_rfl)
 refine⟨hlen,?_⟩
 match cs,hlen with
 | [c0,c1,c2,c3,c4,c5,c6,c7,c8,c9,c10,c11,c12,c13,c14,c15,c16,c17,c18,c19,c20,c21,c22,c23,c24],_ =>
  obtain⟨y0,t0,w0⟩:=hf 0 _ _ _ rfl
  obtain⟨y1,t1,w1⟩:=hf 1 _ _ _ rfl
  obtain⟨y2,t2,w2⟩:=hf 2 _ _ _ rfl
  obtain⟨y3,t3,w3⟩:=hf 3 _ _ _ rfl
  obtain⟨y4,t4,w4⟩:=hf 4 _ _ _ rfl
  obtain⟨y5,t5,w5⟩:=hf 5 _ _ _ rfl
  obtain⟨y6,t6,w6⟩:=hf 6 _ _ _ rfl
  obtain⟨y7,t7,w7⟩:=hf 7 _ _ _ rfl
  obtain⟨y8,t8,w8⟩:=hf 8 _ _ _ rfl
  obtain⟨y9,t9,w9⟩:=hf 9 _ _ _ rfl
  obtain⟨y10,t10,w10⟩:=hf 10 _ _ _ rfl
  obtain⟨y11,t11,w11⟩:=hf 11 _ _ _ rfl
  obtain⟨y12,t12,w12⟩:=hf 12 _ _ _ rfl
  obtain⟨y13,t13,w13⟩:=hf 13 _ _ _ rfl
  obtain⟨y14,t14,w14⟩:=hf 14 _ _ _ rfl
  obtain⟨y15,t15,w15⟩:=hf 15 _ _ _ rfl
  obtain⟨y16,t16,w16⟩:=hf 16 _ _ _ rfl
  obtain⟨a0,e0,b0⟩:=gA Tryz.underlying3 t0
  obtain⟨a1,e1,b1⟩:=gX Tryz.underlying9 t1 w1
  obtain⟨a2,e2,b2⟩:=gA Tryz.underlying3 t2
  obtain⟨a3,e3,b3⟩:=gX Tryz.underlying9 t3 w3
  obtain⟨a4,e4,b4⟩:=gX Tryz.underlying9 t4 w4
  obtain⟨v5,l5,e5,r5,p5,q5⟩:=gN (sz:=5) (f:=wO) Tryz.underlying34 (by kernel_rfl) (fun _=>rfl) (by decide) (by decide +kernel) (fun n hn cs x h hw=>tr_col h hw) t5 w5
  obtain⟨v6,l6,e6,r6,p6,q6⟩:=gN (sz:=1) (f:=rV) Tryz.underlying35 (by kernel_rfl) (fun _=>rfl) (by decide) (by decide +kernel) (fun n hn cs x h hw=>tr_strC h hw) t6 w6
  obtain⟨a7,e7,b7⟩:=gA Tryz.underlying3 t7
  obtain⟨a8,e8,b8⟩:=gA Tryz.underlying3 t8
  obtain⟨a9,e9,b9⟩:=gA Tryz.underlying3 t9
  obtain⟨v10,l10,e10,r10,p10,q10⟩:=gN (sz:=7) (f:=zV) Tryz.underlying36 (by kernel_rfl) (fun _=>rfl) (by decide) (by decide +kernel) (fun n hn cs x h hw=>tr_trm h hw) t10 w10
  obtain⟨a11,e11,b11⟩:=gX Tryz.underlying9 t11 w11
  obtain⟨a12,e12,b12⟩:=gX Tryz.underlying9 t12 w12
  obtain⟨v13,l13,e13,r13,p13,q13⟩:=gN (sz:=4) (f:=wN) Tryz.underlying37 (by kernel_rfl) (fun _=>rfl) (by decide) (by decide +kernel) (fun n hn cs x h hw=>tr_nmd h hw) t13 w13
  obtain⟨v14,l14,e14,r14,p14,q14⟩:=gN (sz:=2) (f:=vrC) Tryz.underlying38 (by kernel_rfl) (fun _=>rfl) (by decide) (by decide +kernel) (fun n hn cs x h hw=>tr_vr h hw) t14 w14
  obtain⟨v15,l15,e15,r15,p15,q15⟩:=gN (sz:=14) (f:=oW) Tryz.underlying39 (by kernel_rfl) (fun _=>rfl) (by decide) (by decide +kernel) (fun n hn cs x h hw=>tr_cnd h hw) t15 w15
  obtain⟨_,ex,r16,p16⟩:=tr_ex _ t16 w16
  cases e0;cases e1;cases e2;cases e3;cases e4;cases e5;cases e6;cases e7;cases e8;cases e9;cases e10;cases e11;cases e12;cases e13;cases e14;cases e15
  exact⟨⟨a0,a1,0,a3,a4,l5,l6,a7,a8,a9,l10,a11,a12,l13,l14,l15,ex⟩,⟨a2,_,_,_,_,_,_,_,_,_,_,_,_,_,_,_,rfl,r5,r6,r10,r13,r14,r15,r16⟩,b0,b1,b3,b4,p5,p6,b7,b8,b9,p10,b11,b12,p13,p14,p15,p16,Nat.le_trans q5 (by decide),Nat.le_trans q6 (by decide),Nat.le_trans q10 (by decide),Nat.le_trans q13 (by decide),Nat.le_trans q14 (by decide),Nat.le_trans q15 (by decide)⟩
theorem In.prog {base:Nat}{v:Value}{d:DataW H}(i:In enc Tryz.prog W base 24 v d):∃(u:Value)(xs:List It),v=.agg ⟨[u]⟩∧kA W.heap u xs∧(∀ x∈xs,jX x)∧xs.length≤140737488351232:=by
 obtain⟨⟨cs⟩,rfl,hsz⟩:=okWide_struct Tryz.underlying24 i.ok
 obtain⟨p,fuel,h⟩:=i.trod
 have hlen:cs.length=1:=hsz.trans (by kernel_rfl)
 obtain⟨n,rfl,_,hf⟩:=dZ (l:=[(22,0,1)]) Tryz.underlying24 (by kernel_rfl) h i.fits
 match cs,hlen with
 | [c0],_ =>
  obtain⟨y0,t0,w0⟩:=hf 0 _ _ _ rfl
  obtain⟨u,l,e,r,q,hl⟩:=gN (sz:=25) (f:=Subtype.val) (ψ:=fun c:iY=>∃ y:It,itH W.heap c.1 y∧jX y) Tryz.underlying22 (by kernel_rfl) (fun y:iY=>y.2) (by decide) (by decide +kernel)
   (fun n hn cs x h hw=>by
    have:=tr_it h hw
    exact⟨⟨cs,this.1⟩,rfl,this.2⟩) t0 w0
  cases e
  obtain⟨xs,h1,h2⟩:=qW q
  refine⟨_,xs,rfl,⟨l,by rw[← h1];exact r,h1,fun i x hx=>?_⟩,fun x hx=>?_,by omega⟩
  ·obtain⟨c,hc,hh,_⟩:=h2 i x hx
   exact⟨c,hc,hh⟩
  ·obtain⟨i,hi⟩:=List.mem_iff_getElem?.1 hx
   obtain⟨c,hc,_,hh⟩:=h2 i x hi
   exact hh
end
end Go.Proofs.YtohlogbnpfofpaaGreatDoor
namespace Go.Proofs.YtohlogbnpfofpaaGreatDoor
open Go StillVC
theorem StillVC.sliceFV {pr:Bool}{P:Program}{ty:TypeId}{s:List Value}{h:Heap}{K:KK}{t e:TypeId}{by_ n cap:Nat}{a:Option Addr}{x l:Operand}{agg:Bool}{zero:List Value}{k:IntKind}{i:Int}(hS:cP P t e)(hE:TyI P e agg zero by_)(hv:ev s x=.slice a n cap)
  (hl:ev s l=.int k i) (h0:0≤i) (h1:i≤n) (hk:K (sliced a i.toNat n cap zero.length) false h):StillVC pr P (.slice t x (some l) none none) ty s h K:=by
 have he:P.elem t=e:=by unfold cP at hS;simp[Program.elem,hS]
 have hS':P.underlying t=some (.slice (P.elem t)):=by rw[he];exact hS
 refine .pure' (sliced a i.toNat n cap zero.length) false (fun w=>?_) hk
 simp[execOp,hv,hl,run_sliceAt_slice w t _ _ _ _ hS',run_slice_l w t a n cap hS' k i h0 h1,he,hE.sizeOf]
theorem StillVC.sliceHV {pr:Bool}{P:Program}{ty:TypeId}{s:List Value}{h:Heap}{K:KK}{t e:TypeId}{by_ n cap:Nat}{a:Option Addr}{x m:Operand}{agg:Bool}{zero:List Value}{k':IntKind}{j:Int}(hS:cP P t e)(hE:TyI P e agg zero by_)(hv:ev s x=.slice a n cap)
  (hm:ev s m=.int k' j) (h1:0≤j) (h2:j≤cap) (hk:K (sliced a 0 j.toNat cap zero.length) false h):StillVC pr P (.slice t x none (some m) none) ty s h K:=by
 have he:P.elem t=e:=by unfold cP at hS;simp[Program.elem,hS]
 have hS':P.underlying t=some (.slice (P.elem t)):=by rw[he];exact hS
 refine .pure' (sliced a 0 j.toNat cap zero.length) false (fun w=>?_) hk
 simp[execOp,hv,hm,run_sliceAt_slice w t _ _ _ _ hS',run_slice_h w t a n cap hS' k' j h1 h2,he,hE.sizeOf]
theorem cR.cap {sz n cap:Nat}{h:Heap}{a:Option Addr}{xs:List Value}(hA:cR sz h (.slice a n cap) n xs):n≤cap:=by
 obtain⟨_,a',c',hv,hc,_⟩:=hA
 cases hv
 exact hc
theorem cR.cutF {sz n cap:Nat}{h:Heap}{a:Option Addr}{xs:List Value}(hA:cR sz h (.slice a n cap) n xs)(i:Nat)(h1:i≤n):cR sz h (sliced a i n cap sz) (n - i) (xs.drop (i*sz)):=by
 obtain⟨hxl,a',cap',hv,hcl,r⟩:=hA
 cases hv
 have hlen:(xs.drop (i*sz)).length=(n - i)*sz:=by rw[List.length_drop,hxl,Nat.sub_mul]
 refine⟨hlen,if cap=i then a else a.map (·.add (i*sz)),cap - i,rfl,by omega,?_⟩
 by_cases hz:n≤i
 ·left;omega
 ·rcases r with rfl|⟨b,o,rfl,hc⟩
  ·omega
  ·refine .inr ⟨b,o+i*sz,by rw[if_neg (by omega)];simp[Addr.add_lit],fun j hj=>?_⟩
   rw[hlen]at hj
   rw[Nat.add_assoc,hc (i*sz+j) (by rw[hxl];rw[Nat.sub_mul]at hj;omega),List.getElem?_drop]
theorem cR.cutH {sz n cap:Nat}{h:Heap}{a:Option Addr}{xs:List Value}(hA:cR sz h (.slice a n cap) n xs)(j:Nat)(h2:j≤n):cR sz h (sliced a 0 j cap sz) j (xs.take (j*sz)):=by
 obtain⟨hxl,a',cap',hv,hcl,r⟩:=hA
 cases hv
 have hjn:j*sz≤n*sz:=Nat.mul_le_mul_right _ h2;have hlen:(xs.take (j*sz)).length=j*sz:=by rw[List.length_take,hxl];omega
 refine⟨hlen,if cap=0 then a else a.map (·.add (0*sz)),cap - 0,rfl,by omega,?_⟩
 by_cases hz:j=0
 ·exact .inl hz
 ·rcases r with rfl|⟨b,o,rfl,hc⟩
  ·omega
  ·refine .inr ⟨b,o,by rw[if_neg (by omega)];simp[Addr.add_lit],fun q hq=>?_⟩
   rw[hlen]at hq
   rw[hc q (by omega),List.getElem?_take,if_pos hq]
theorem vZ:∀(cs:List iY)(j:Nat),(cs.flatMap Subtype.val).take (j*25)=(cs.take j).flatMap Subtype.val
 | [],j=>by simp
 | c::cs,0=>by simp
 | c::cs,j+1=>by
  rw[List.flatMap_cons,List.take_succ_cons,List.flatMap_cons,← vZ cs j,List.take_append,c.2,List.take_of_length_le (by rw[c.2];omega)]
  congr 2
  omega
theorem wA:∀(cs:List iY)(j:Nat),(cs.flatMap Subtype.val).drop (j*25)=(cs.drop j).flatMap Subtype.val
 | [],j=>by simp
 | c::cs,0=>by simp
 | c::cs,j+1=>by
  rw[List.flatMap_cons,List.drop_succ_cons,← wA cs j,List.drop_append,c.2,List.drop_eq_nil_of_le (by rw[c.2];omega),lnA]
  congr 1
  omega
theorem kA.take {H:Heap}{a:Option Addr}{c:Nat}{xs:List It}(r:kA H (.slice a xs.length c) xs) {j:Nat}(hj:j≤xs.length):kA H (sliced a 0 j c 25) (xs.take j):=by
 obtain⟨cs,h1,h2,h3⟩:=r
 have h4:=h1.cutH j hj
 rw[vZ]at h4
 have hl:(xs.take j).length=j:=by rw[List.length_take];omega
 refine⟨cs.take j,by rw[hl];exact h4,by rw[List.length_take,List.length_take,h2],fun i x hx=>?_⟩
 rw[List.getElem?_take]at hx
 split at hx
 ·rename_i hij
  obtain⟨d,h5,h6⟩:=h3 i x hx
  exact⟨d,by rw[List.getElem?_take,if_pos hij];exact h5,h6⟩
 ·cases hx
theorem kA.drop {H:Heap}{a:Option Addr}{c:Nat}{xs:List It}(r:kA H (.slice a xs.length c) xs) {j:Nat}(hj:j≤xs.length):kA H (sliced a j xs.length c 25) (xs.drop j):=by
 obtain⟨cs,h1,h2,h3⟩:=r
 have h4:=h1.cutF j hj
 rw[wA]at h4
 refine⟨cs.drop j,by rw[List.length_drop];exact h4,by rw[List.length_drop,List.length_drop,h2],fun i x hx=>?_⟩
 rw[List.getElem?_drop]at hx
 obtain⟨d,h5,h6⟩:=h3 _ x hx
 exact⟨d,by rw[List.getElem?_drop];exact h5,h6⟩
theorem items9_spec (xs:List It)(va:Value)(raw:Int)(h:Heap)(hr0:0≤raw)(hr1:raw≤255)(hP:kA h va xs)(hOK:∀ x∈xs,jX x)(hl:xs.length≤140737488351232)(hW:jE h)(hT:iQ h)(hF:fW h) :
  cK Tryz.prog 7 [.agg ⟨[va]⟩,.int .u8 raw] h fun v h'=>v=.bool true∧Own h [] h':=by
 obtain⟨ya,yc,rfl⟩:=hP.isS
 have hcap:xs.length≤yc:=by obtain⟨_,q,_⟩:=hP;exact q.cap
 refine Spec.enter Tryz.func7 rfl Tryz.ntmps7 (by kernel_rfl) ?_;have o0:=Own.refl h;(refine RunVC.aBS o0 rfl ?_;intro b10 m10 o10);refine CallVC.ret (yN _ (hW.ext (Own.ext (B:=h) ‹_›)) (hT.ext (Own.ext (B:=h) ‹_›)) (hF.ext (Own.ext (B:=h) ‹_›))) ?_;rintro _ h1 ⟨rfl,oc⟩;have z1:=oc.thenE (B:=h) ‹_›;clear oc;refine run (aBB z1 0 rfl rL rfl rfl rfl ?_);refine CallVC.ret (sU xs _ _ hOK (by omega) (hP.ext (Own.ext (B:=h) ‹_›))) ?_;rintro _ g2 ⟨rfl,oc⟩;have s2:=oc.thenE (B:=h) ‹_›;clear oc;cases hs:pS xs with
 | false =>
  refine Br.tt ?_;refine RetVC.one rfl ?_
  exact⟨rfl,Own.sel ‹_› [] rfl⟩
 | true =>
  obtain⟨hsz,hn⟩:=aAp hs
  refine Br.ff ?_;refine run (convI rfl aBi int3 ?_);refine Ar.i64 (by omega) (by omega) ?_;refine run (fA lZ rfl rfl rfl ?_);refine run (aBx s2 0 rfl pN rfl rfl ?_);refine run (aBH rfl oC ?_);refine Ar.i64 (by omega) (by omega) ?_;refine run (remE rfl rfl (by omega) (by omega) ?_);refine run (aBB s2 0 rfl rL rfl rfl rfl ?_);refine CallVC.ret (jB xs _ _ (hT.ext (Own.ext (B:=h) ‹_›)) (hF.ext (Own.ext (B:=h) ‹_›)) (hP.ext (Own.ext (B:=h) ‹_›)) hOK hsz hn) ?_;rintro _ h3 ⟨rfl,oc⟩;have z3:=oc.thenE (B:=h) ‹_›;clear oc;have hm0:0≤raw % ((xs.length:Int)+1):=Int.emod_nonneg _ (by omega);have hm1:raw % ((xs.length:Int)+1)<(xs.length:Int)+1:=Int.emod_lt_of_pos _ (by omega);generalize raw % ((xs.length:Int)+1)=jj at hm0 hm1
  obtain⟨j,rfl⟩:=Int.eq_ofNat_of_zero_le hm0
  have hjl:j≤xs.length:=by omega
  refine run (fA lZ rfl rfl rfl ?_);refine run (aBx z3 0 rfl pN rfl rfl ?_);refine run (sliceHV oC iG rfl rfl (by omega) (by omega) ?_);refine run (aBE lZ ?_);refine aI rfl ?_;refine CallVC.ret (jB (xs.take j) _ _ (hT.ext (Own.ext (B:=h) ‹_›)) (hF.ext (Own.ext (B:=h) ‹_›)) ((hP.take hjl).ext (Own.ext (B:=h) ‹_›)) (fun x hx=>hOK x (List.mem_of_mem_take hx)) (fun x hx=>hsz x (List.mem_of_mem_take hx)) (by rw[List.length_take];omega)) ?_;rintro _ h4 ⟨rfl,oc⟩;have z4:=oc.thenE (B:=h) ‹_›;clear oc;refine run (fA lZ rfl rfl rfl ?_);refine run (aBx z4 0 rfl pN rfl rfl ?_);refine run (sliceFV oC iG rfl rfl (by omega) (by omega) ?_);refine run (aBE lZ ?_);refine aI rfl ?_;refine CallVC.ret (jB (xs.drop j) _ _ (hT.ext (Own.ext (B:=h) ‹_›)) (hF.ext (Own.ext (B:=h) ‹_›)) ((hP.drop hjl).ext (Own.ext (B:=h) ‹_›)) (fun x hx=>hOK x (List.mem_of_mem_drop hx)) (fun x hx=>hsz x (List.mem_of_mem_drop hx)) (by rw[List.length_drop];omega)) ?_;rintro _ h5 ⟨rfl,oc⟩;have z5:=oc.thenE (B:=h) ‹_›;clear oc;have key:=items_arg (xs.take j) (xs.drop j);have pl:=items_plain (a:=xs.take j) (b:=xs.drop j)
  rw[List.take_append_drop]at key pl
  by_cases p0:(cB xs).2=0
  ·obtain⟨q1,q2,q3⟩:=pl p0
   have hlen:=aAu p0;have hlen2:(cB (xs.take j)).1.length+(cB (xs.drop j)).1.length≤20000:=by rw[q3,List.length_append]at hlen;exact hlen
   rw[p0,q1,q2,q3]
   refine Br.tt ?_;refine Br.tt ?_;refine Br.tt ?_;refine Br.tt ?_;refine run (aBF rfl rfl (by first|omega|(simp;omega)) ?_);refine RetVC.one rfl ?_
   exact⟨congrArg Value.bool (decide_eq_true rfl),Own.sel ‹_› [] rfl⟩
  ·by_cases f1:(cB (xs.take j)).2=1
   ·have e1:=key.2 (.inl f1)
    rw[e1,f1]
    refine Br.ff ?_;refine Br.tt ?_;refine Br.tt ?_;refine run (eqB bool4 rfl rfl ?_);refine RetVC.one rfl ?_
    exact⟨rfl,Own.sel ‹_› [] rfl⟩
   ·by_cases g1:(cB (xs.drop j)).2=1
    ·have e1:=key.2 (.inr g1)
     rw[e1,g1]
     refine Br.ff ?_;refine Br.tt ?_;refine Br.dec (fun hc=>absurd hc (by omega)) (fun c350=>?_);refine run (eqB bool4 rfl rfl ?_);refine RetVC.one rfl ?_
     exact⟨rfl,Own.sel ‹_› [] rfl⟩
    ·have e1:¬ (cB xs).2=1:=fun e=>(key.1 e).elim f1 g1
     refine Br.dec (fun hc=>absurd hc (by omega)) (fun c400=>?_);refine Br.tt ?_;refine Br.dec (fun hc=>absurd hc (by omega)) (fun c401=>?_);refine run (eqB bool4 rfl rfl ?_);refine RetVC.one rfl ?_
     exact⟨congrArg Value.bool (by simp[e1,g1,f1]),Own.sel ‹_› [] rfl⟩
end Go.Proofs.YtohlogbnpfofpaaGreatDoor
