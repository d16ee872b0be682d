/- Part 10 of the proof of canonical: FnXc, FnXl, FnQh, FnQi, FnYb, FnXd, FnXe, Laid, FnXf, FnXk, FnXn, FnXo0, FnXg0, FnXgT, FnXgD, FnXg2. -/
import Derived.Test.YtohlogbnpfofpaaGreatDoorRows
import Derived.Test.YtohlogbnpfofpaaGreatDoorTie
import Derived.ProofKit
import Derived.LaidMore
import Derived.OpenShut
import Derived.Stop.Joined
import Derived.Stop.LaidErr
import Derived.Lib.LaidTab
import Derived.Shelf.Vars
import Derived.Test.YtohlogbnpfofpaaGreatDoorPC09
set_option linter.all false
set_option maxHeartbeats 100000000
set_option maxRecDepth 100000
namespace Go.Proofs.YtohlogbnpfofpaaGreatDoor
open Go StillVC
theorem indexS_spec (ss:List aBs)(s:aBs)(vs:Value)(h:Heap)(hA:Arr h vs (strs ss))(hl:ss.length≤100) :
  cK Tryz.prog 176 [vs,.string ⟨⟨s⟩⟩] h fun r h'=>∃ i:Int,r=.int .i64 i∧(0≤i↔s∈ss)∧Own h [] h':=by
 refine aDX Tryz.func176 rfl Tryz.ntmps176 (by kernel_rfl) ?_;have o0:=Own.refl h;have hsl:(strs ss).length=ss.length:=by simp[strs]
 refine rR (aDF hA ‹_› aJ ?_);refine aD1 [4,5,8,9,10,11,12,13,14,15,16,17,18] [8] (fun vs' hh=>∃(i:Nat),i≤ss.length∧vs'=[.int .i64 i]∧(∀(j:Nat) (c:aBs),j<i→ss[j]?=some c→c≠s)∧Own h [] hh) (fun vs' _=>match vs' with|[.int _ i]=>ss.length - i.toNat|_=>0) ?_ ?_
 ·exact⟨0,by omega,rfl,fun j c hj=>by omega,o0⟩
 ·rintro vs' junk hh ⟨i,hi,rfl,hE,oh⟩
  by_cases hlt:i<ss.length
  ·obtain⟨c,hc⟩:=getx hlt
   have hss:(strs ss)[i]?=some (.string ⟨⟨c⟩⟩):=by simp[strs,hc]
   by_cases he:s=c
   ·refine aDR (fun c20=>?_) (fun hc=>absurd (by omega) hc)
    refine rR (idx aJ aO (hA.ext oh.ext) rfl (by omega) (by omega) ?_);refine rR (aDG (hA.ext oh.ext) aO rfl (by first|assumption|rfl) ?_);refine aDR (fun c23=>?_) (fun hc=>absurd (by omega) hc);refine aDZ rfl ?_
    exact⟨_,rfl,⟨fun _=>by subst he;exact aD6 hc,fun _=>by omega⟩,oh⟩
   ·refine aDR (fun c30=>?_) (fun hc=>absurd (by omega) hc)
    refine rR (idx aJ aO (hA.ext oh.ext) rfl (by omega) (by omega) ?_);refine rR (aDG (hA.ext oh.ext) aO rfl (by first|assumption|rfl) ?_);refine aDR (fun hc=>absurd hc (by omega)) (fun c33=>?_);refine aDY (by omega) (by omega) ?_
    refine⟨rfl,?_⟩
    refine⟨⟨i+1,by omega,rfl,fun j d hj hd=>?_,oh⟩,by simp;omega⟩
    by_cases hji:j=i
    ·subst hji
     rw[hc]at hd
     cases hd
     exact fun e=>he e.symm
    ·exact hE j d (by omega) hd
  ·refine aDR (fun hc=>absurd hc (by omega)) (fun c40=>?_)
   refine aDZ rfl ?_
   refine⟨_,rfl,⟨fun h=>by omega,fun hm=>?_⟩,oh⟩
   obtain⟨j,hj⟩:=aEH.1 hm
   exact absurd rfl (hE j s (by have:=(aD5.1 hj).1;omega) hj)
theorem sX (ss:List aBs)(s:aBs)(vs:Value)(h:Heap)(hA:Arr h vs (strs ss))(hl:ss.length≤100) :
  cK Tryz.prog 168 [vs,.string ⟨⟨s⟩⟩] h fun r h'=>r=.bool (decide (s∈ss))∧Own h [] h':=by
 refine aDX Tryz.func168 rfl Tryz.ntmps168 (by kernel_rfl) ?_;have o0:=Own.refl h;refine aDV (indexS_spec ss s vs _ hA hl) ?_;rintro _ h1 ⟨i,rfl,hi,o1⟩;refine aDZ rfl ?_
 refine⟨?_,o1⟩
 congr 1
 exact decide_eq_decide.2 hi
theorem vF (s:aBs):reserved s=decide (s∈[[116,114,117,101],[102,97,108,115,101],[110,117,108,108]]):=by
 unfold reserved;exact decide_eq_decide.2 (by simp)
theorem yM (B:Base)(b:Nat)(p v:Value)(k:Int)(bs:aBs)(x:Opd)(h:Heap)(hp:cW b p)(hT:kJ B.h)
  (o:Own B [box b [p,v,.int .i64 k] 58,row v 5 1 bs.length (bytes bs)] h) (hl:bs.length≤50000000000000) (hx:aBm x) (hk:0≤k∧k≤50000000000000) :
  Spec Tryz.prog 151 [.pointer (some ⟨b,0,none⟩),.agg ⟨opdC x⟩] h (WEnds B b bs k 500 (gB x)):=by
 obtain⟨xv,xa,xc,⟨vk,vn,vt⟩⟩:=x
 obtain⟨b1,b2,b3,b4,b5⟩:=hx
 simp only at b1 b2 b3 b4 b5;show Spec Tryz.prog 151 [.pointer (some ⟨b,0,none⟩),.agg ⟨[.string ⟨⟨xv⟩⟩,.string ⟨⟨xa⟩⟩,.bool xc,.int .i64 vk,.int .i64 vn,.string ⟨⟨vt⟩⟩]⟩] h _;refine aDX Tryz.func151 rfl Tryz.ntmps151 (by kernel_rfl) ?_;cases xc with
 | true =>
  by_cases hv:xv=[]
  ·by_cases ha:xa=[]
   ·subst hv ha
    have hq:gB ⟨[],[],true,⟨vk,vn,vt⟩⟩=bT ⟨vk,vn,vt⟩:=rfl
    rw[hq]
    (refine aDz o rfl ?_;intro b10 m10 o10);refine rR (fA gI rfl rfl rfl ?_);refine rR (aDe o10 2 rfl ty4 rfl rfl ?_);refine aDS ?_;refine rR (fA gI rfl rfl rfl ?_);refine rR (aDe o10 2 rfl aO rfl rfl ?_);refine aDS ?_;refine rR (fA gI rfl rfl rfl ?_);refine rR (aDe o10 2 rfl aO rfl rfl ?_);refine aDj ‹_› (aE _ _) (fun e1 m2 _ oq=>?_) fun e1 m2 oq=>absurd (of_decide_eq_false e1) (by simp);refine rR (fA gI rfl rfl rfl ?_);refine rR (aDi oq 2 rfl bW rfl rfl rfl ?_);refine WEnds.callJ [2] ‹_› rfl rfl (fun J oj=>jL _ b p v k bs ⟨vk,vn,vt⟩ _ hp hT oj (by omega) b5 b4 (by omega)) (fun ps p1 v1 bs1 k1 m3 hq1 hp1 hb1 hk1 hl1 _ hk2 oq=>?_) (fun m3 hq1 oq=>?_)
    ·refine aD0 rfl ?_
     exact aD3 hq1 (oq.sel [0,1] rfl) hp1 hb1 hk1 (by omega) (by omega)
    ·exact⟨hq1,rfl,oq⟩
   ·have hq:gB ⟨xv,xa,true,⟨vk,vn,vt⟩⟩=none:=by unfold gB;rw[if_pos rfl,if_neg (fun h=>ha h.2)]
    (refine aDz o rfl ?_;intro b60 m60 o60);refine rR (fA gI rfl rfl rfl ?_);refine rR (aDe o60 2 rfl ty4 rfl rfl ?_);refine aDS ?_;refine rR (fA gI rfl rfl rfl ?_);refine rR (aDe o60 2 rfl aO rfl rfl ?_);refine aDR (fun c65=>?_) (fun hc=>absurd (by omega) hc);refine rR (fA gI rfl rfl rfl ?_);refine rR (aDe o60 2 rfl aO rfl rfl ?_);refine aDj ‹_› (aE _ _) (fun e1 m2 _ oq=>absurd (of_decide_eq_true e1) ha) fun e1 m2 oq=>?_
    exact⟨hq,rfl,oq⟩
  ·have hq:gB ⟨xv,xa,true,⟨vk,vn,vt⟩⟩=none:=by unfold gB;rw[if_pos rfl,if_neg (fun h=>hv h.1)]
   (refine aDz o rfl ?_;intro b80 m80 o80);refine rR (fA gI rfl rfl rfl ?_);refine rR (aDe o80 2 rfl ty4 rfl rfl ?_);refine aDS ?_;refine rR (fA gI rfl rfl rfl ?_);refine rR (aDe o80 2 rfl aO rfl rfl ?_);refine aDR (fun hc=>absurd hc (by omega)) (fun c85=>?_);refine aDj ‹_› (aE _ _) (fun e1 m2 _ oq=>by cases e1) fun e1 m2 oq=>?_
   exact⟨hq,rfl,oq⟩
 | false =>
  by_cases hz:vk=0∧vn=0∧vt=[]
  case neg =>
   have hq:gB ⟨xv,xa,false,⟨vk,vn,vt⟩⟩=none:=by unfold gB;rw[if_neg (by simp),if_pos hz]
   have hzb:(decide (vk=0)&&(decide (vn=0)&&(decide (vt=[])&&true)))=false:=by
    rw[aEw]
    intro h
    simp at h
    exact hz ⟨h.1,h.2.1,h.2.2⟩
   by_cases hv:xv=[]
   ·(refine aDz o rfl ?_;intro b100 m100 o100)
    refine rR (fA gI rfl rfl rfl ?_);refine rR (aDe o100 2 rfl ty4 rfl rfl ?_);refine aDT ?_;refine rR (fA gI rfl rfl rfl ?_);refine rR (aDe o100 2 rfl aO rfl rfl ?_);refine aDR (fun c105=>?_) (fun hc=>absurd (by omega) hc);refine rR (fA gI rfl rfl rfl ?_);refine rR (aDe o100 2 rfl aO rfl rfl ?_);refine rR (fA gI rfl rfl rfl ?_);refine rR (aDi o100 2 rfl bW rfl rfl rfl ?_);refine rR (aDl eJ ?_);refine rR (eqS rE rfl rfl rfl rfl ?_);refine Br.ffE ‹_› ?_;refine aDj ‹_› (aE _ _) (fun e1 m2 _ oq=>by cases e1) fun e1 m2 oq=>?_
    exact⟨hq,rfl,oq⟩
   ·(refine aDz o rfl ?_;intro b150 m150 o150)
    refine rR (fA gI rfl rfl rfl ?_);refine rR (aDe o150 2 rfl ty4 rfl rfl ?_);refine aDT ?_;refine rR (fA gI rfl rfl rfl ?_);refine rR (aDe o150 2 rfl aO rfl rfl ?_);refine aDR (fun hc=>absurd hc (by omega)) (fun c155=>?_);refine rR (fA gI rfl rfl rfl ?_);refine rR (aDi o150 2 rfl bW rfl rfl rfl ?_);refine rR (aDl eJ ?_);refine rR (eqS rE rfl rfl rfl rfl ?_);refine Br.ffE ‹_› ?_;refine aDj ‹_› (aE _ _) (fun e1 m2 _ oq=>by cases e1) fun e1 m2 oq=>?_
    exact⟨hq,rfl,oq⟩
  obtain⟨rfl,rfl,rfl⟩:=hz
  by_cases hv:xv=[]
  ·subst hv
   have hq:gB ⟨[],xa,false,⟨0,0,[]⟩⟩=if reserved xa=true then none else bB [32] xa:=by unfold gB;rw[if_neg (by simp),if_neg (by simp),if_pos rfl]
   (refine aDz o rfl ?_;intro b200 m200 o200);refine rR (fA gI rfl rfl rfl ?_);refine rR (aDe o200 2 rfl ty4 rfl rfl ?_);refine aDT ?_;refine rR (fA gI rfl rfl rfl ?_);refine rR (aDe o200 2 rfl aO rfl rfl ?_);refine aDS ?_;refine rR (fA gI rfl rfl rfl ?_);refine rR (aDe o200 2 rfl aO rfl rfl ?_);refine rR (fA gI rfl rfl rfl ?_);refine rR (aDi o200 2 rfl bW rfl rfl rfl ?_);refine rR (aDl eJ ?_);refine rR (eqS rE rfl rfl rfl rfl ?_);refine aDS ?_;(refine aDO o200 aJ aO rfl rfl (by decide) (aI rfl ?_);intro b211 m211 o211);refine aDV (sX [[116,114,117,101],[102,97,108,115,101],[110,117,108,108]] xa _ _ (Own.boxArr ‹_› 3 rfl rfl (by decide)) (by decide)) ?_;rintro _ m1 ⟨rfl,oc⟩;have o1:=oc.thenE (B:=B) ‹_›
   rw[← vF]
   clear oc;cases hr:reserved xa with
   | true =>
    refine aDj ‹_› (aE _ _) (fun e1 m2 _ oq=>by cases e1) fun e1 m2 oq=>?_
    exact⟨hq.trans (by rw[if_pos hr]),rfl,oq⟩
   | false =>
    refine aDj ‹_› (aE _ _) (fun e1 m2 _ oq=>?_) fun e1 m2 oq=>by cases e1
    rw[if_neg (by rw[hr];decide)]at hq
    refine aDU [0,1,2,3,5] [] [4,6,7] [0,1,2,3,4,5,6,7] mixed (by kernel_rfl) rfl (fun _ _ _ _ h=>h) ?_;refine nC rfl ?_;refine fA bS rfl rfl rfl ?_;refine aDj ‹_› (bM xa _ (by omega)) (fun e2 m3 _ oq=>?_) fun e2 m3 oq=>?_
    ·have hnl:=cU e2
     refine aDm rfl rfl (by first|omega|(simp;omega)) ?_;(refine aDO oq aJ aO rfl rfl (by decide) (aI rfl ?_);intro b351 m351 o351);refine aH [[32]++xa] 1 30 [2] (i:=4) ‹_› rfl rfl rfl hp rfl (by omega) (by omega) (by simp;omega) (by omega) (by omega) (fun p1 v1 bs1 k1 m1 hp1 hb1 hk1 hl1 oq=>?_);have o4:=oq
     simp only[pick,lgS,lgZ]at o4
     clear oq;refine rR (fA gI rfl rfl rfl ?_);refine rR (aDe o4 2 rfl aO rfl rfl ?_);refine aDT ?_;refine aD0 rfl ?_;exact aD3 (hq.trans (aB e2)) (Own.sel ‹_› [0,1] rfl) hp1 (by rw[hb1];simp[bK,gE,wr,aD]) hk1 (by omega) (by omega)
    ·exact⟨hq.trans (cZ e2),rfl,oq⟩
  ·have hq:gB ⟨xv,xa,false,⟨0,0,[]⟩⟩=if reserved xv=true then none else eB xv xa:=by unfold gB;rw[if_neg (by simp),if_neg (by simp),if_neg hv]
   (refine aDz o rfl ?_;intro b400 m400 o400);refine rR (fA gI rfl rfl rfl ?_);refine rR (aDe o400 2 rfl ty4 rfl rfl ?_);refine aDT ?_;refine rR (fA gI rfl rfl rfl ?_);refine rR (aDe o400 2 rfl aO rfl rfl ?_);refine aDR (fun hc=>absurd hc (by omega)) (fun c405=>?_);refine rR (fA gI rfl rfl rfl ?_);refine rR (aDi o400 2 rfl bW rfl rfl rfl ?_);refine rR (aDl eJ ?_);refine rR (eqS rE rfl rfl rfl rfl ?_);refine aDS ?_;(refine aDO o400 aJ aO rfl rfl (by decide) (aI rfl ?_);intro b410 m410 o410);refine aDV (sX [[116,114,117,101],[102,97,108,115,101],[110,117,108,108]] xv _ _ (Own.boxArr ‹_› 3 rfl rfl (by decide)) (by decide)) ?_;rintro _ m1 ⟨rfl,oc⟩;have o1:=oc.thenE (B:=B) ‹_›
   rw[← vF]
   clear oc;cases hr:reserved xv with
   | true =>
    refine aDj ‹_› (aE _ _) (fun e1 m2 _ oq=>by cases e1) fun e1 m2 oq=>?_
    exact⟨hq.trans (by rw[if_pos hr]),rfl,oq⟩
   | false =>
    refine aDj ‹_› (aE _ _) (fun e1 m2 _ oq=>?_) fun e1 m2 oq=>by cases e1
    rw[if_neg (by rw[hr];decide)]at hq
    refine aDU [0,1,2,3,5] [] [4,6,7] [0,1,2,3,4,5,6,7] mixed (by kernel_rfl) rfl (fun _ _ _ _ h=>h) ?_;refine nC rfl ?_;refine fA bS rfl rfl rfl ?_;refine aDj ‹_› (bM xv _ (by omega)) (fun e2 m3 _ oq=>?_) fun e2 m3 oq=>?_
    ·have hnl:=cU e2
     refine aDm rfl rfl (by first|omega|(simp;omega)) ?_;(refine aDO oq aJ aO rfl rfl (by decide) (aI rfl ?_);intro b551 m551 o551);refine aH [[32]++xv] 1 30 [2] (i:=4) ‹_› rfl rfl rfl hp rfl (by omega) (by omega) (by simp;omega) (by omega) (by omega) (fun p1 v1 bs1 k1 m1 hp1 hb1 hk1 hl1 oq=>?_);have o4:=oq
     simp only[pick,lgS,lgZ]at o4
     clear oq;refine rR (fA gI rfl rfl rfl ?_);refine rR (aDe o4 2 rfl aO rfl rfl ?_);refine aDp (fun c582=>?_) (fun hc=>absurd hc (by first|omega|assumption|decide|exact rfl));refine aDU [0,1,2,3] [4] [5,6,7] [0,1,2,3,4,5,6,7] mixed (by kernel_rfl) rfl (fun _ _ _ _ h=>h) ?_;refine nC rfl ?_;refine fA bS rfl rfl rfl ?_;refine fA gI rfl rfl rfl ?_;refine aDe o4 2 rfl aO rfl rfl ?_;refine aDj ‹_› (bM xa _ (by omega)) (fun e3 m3 _ oq=>?_) fun e3 m3 oq=>?_
     ·have hnl2:=cU e3
      (refine aDO oq aJ aO rfl rfl (by decide) (aI rfl ?_);intro b600 m600 o600);refine aH [[46],xa] 2 30 [2] (i:=3) ‹_› rfl rfl rfl hp1 rfl (by omega) (by omega) (by simp;omega) (by omega) (by omega) (fun p2 v2 bs2 k2 m1 hp2 hb2 hk2 hl2 oq=>?_);have o5:=oq
      simp only[pick,lgS,lgZ]at o5
      clear oq;refine aD0 rfl ?_;have hpl:eB xv xa=some [aD [32] xv,aL [] [46],aD [] xa]:=by unfold eB;simp only[aB e2,aB e3,aG,oMS];rfl
      exact aD3 (hq.trans hpl) (Own.sel ‹_› [0,1] rfl) hp2 (by rw[hb2,hb1];simp[bK,gE,wr,aD,aL]) (by rw[hk2,hk1];simp;omega) (by omega) (by omega)
     ·exact⟨hq.trans (by unfold eB;simp only[aB e2,cZ e3,aG,oMN]),rfl,oq⟩
    ·exact⟨hq.trans (by unfold eB;simp only[cZ e2,aG]),rfl,oq⟩
def dD {α:Type}(one:Nat→α→Option (List Pc))(l:List α):Option (List Pc):=aG (l.mapIdx one)
theorem aAL {α:Type}{one:Nat→α→Option (List Pc)}{l:List α}{i:Nat}{x:α}{p:List Pc}(hx:l[i]?=some x)(hp:dD one (l.take i)=some p):dD one (l.take (i+1))=(one i x).map (p++·):=by
 have hi:i<l.length:=(aD5.1 hx).1;have ht:l.take (i+1)=l.take i++[x]:=by rw[aEN,hx];simp
 unfold dD at hp ⊢
 rw[ht,List.mapIdx_append,iZ,hp]
 have hl:(l.take i).length=i:=by rw[aED];omega
 rw[hl]
 show(match some p,aG [one (0+i) x] with
  | some p,some q=>some (p++q)
  | _,_=>none)=_
 rw[aEo]
 cases one i x<;>simp[aG]
theorem loopQ_none {α:Type}{one:Nat→α→Option (List Pc)}{l:List α}{i:Nat}(hp:dD one (l.take i)=none):dD one l=none:=by
 have:dD one (l.take i++l.drop i)=none:=by
  unfold dD at hp ⊢
  rw[List.mapIdx_append,iZ,hp]
 rwa [List.take_append_drop]at this
theorem aS {α:Type}{one:Nat→α→Option (List Pc)}{l:List α}{i:Nat}{x:α}{p:List Pc}(hx:l[i]?=some x)(hp:dD one (l.take i)=some p)(h:one i x=none):dD one l=none :=
 loopQ_none (i:=i+1) (by rw[aAL hx hp,h];rfl)
theorem bE {α:Type}{one:Nat→α→Option (List Pc)}{l:List α}{i:Nat}{x:α}{p q:List Pc}(hx:l[i]?=some x)(hp:dD one (l.take i)=some p)(h:one i x=some q):dD one (l.take (i+1))=some (p++q):=by
 rw[aAL hx hp,h];rfl
theorem gN {α:Type}{one:Nat→α→Option (List Pc)}{l:List α}{i:Nat}{o:Option (List Pc)}(hi:l.length≤i)(hp:dD one (l.take i)=o):dD one l=o:=by
 rwa [aEk hi]at hp
theorem qJ {α β:Type}(f0 f1:α→β)(x:α)(r:List α):(x::r).mapIdx (fun i y=>if i=0 then f0 y else f1 y)=f0 x::r.map f1:=by
 rw[List.mapIdx_cons]
 congr 1
 simp only[Nat.add_one_ne_zero,if_false]
 induction r with
 | nil=>rfl
 | cons y r ih=>rw[List.mapIdx_cons,ih];rfl
theorem seqQ_last (a l:List (Option (List Pc))):aG (a++l)=aG (a++[aG l]):=by
 rw[iZ,iZ]
 cases aG a with
 | none=>rfl
 | some p =>
  cases aG l with
  | none=>rfl
  | some q=>simp[aG]
def wC (i:Nat)(x:Cnd):Option (List Pc):=(qA x).map ((if i=0 then aD [32] [119,104,101,114,101] else aD [32] [97,110,100])::·)
theorem aBV (p:Pc)(o:Option (List Pc))(r:List (Option (List Pc))):aG (some [p]::o::r)=aG (o.map (p::·)::r):=by
 cases o with
 | none=>rfl
 | some q =>
  show((aG r).map (q++·)).map ([p]++·)=(aG r).map ((p::q)++·)
  rw[Option.map_map]
  rfl
theorem zH (l:List Cnd)(h:l≠[]):lE l=dD wC l:=by
 cases l with
 | nil=>exact absurd rfl h
 | cons x r =>
  show aG (some [aD [32] [119,104,101,114,101]]::qA x::r.map fun y=>(qA y).map (aD [32] [97,110,100]::·))=_
  unfold dD
  rw[aBV]
  congr 1
  have:=qJ (fun x=>(qA x).map (aD [32] [119,104,101,114,101]::·)) (fun x=>(qA x).map (aD [32] [97,110,100]::·)) x r
  rw[← this]
  congr 1
  funext i y
  unfold wC;split<;>rfl
def eM {α:Type}(one:aBs→α→Option (List Pc))(i:Nat)(x:α):Option (List Pc):=if i=0 then one [] x else(one [32] x).map (aL [] [44]::·)
theorem yV {α:Type}(one:aBs→α→Option (List Pc))(l:List α)(h:l≠[]):dG one [] l=dD (eM one) l:=by
 cases l with
 | nil=>exact absurd rfl h
 | cons x r =>
  show aG (one [] x::r.map fun y=>(one [32] y).map (aL [] [44]::·))=_
  unfold dD
  rw[show(x::r).mapIdx (eM one)=_ from qJ (one []) (fun y=>(one [32] y).map (aL [] [44]::·)) x r]
def fixI (i:Nat)(x:Nmd):Option (List Pc):=(uM x).map ((if i=0 then aD [32] [119,104,101,114,101] else aL [] [44])::·)
theorem fixedQ_loop (l:List Nmd):uL l=dD fixI l:=by
 cases l with
 | nil=>rfl
 | cons x r =>
  show aG (some [aD [32] [119,104,101,114,101]]::uM x::r.map fun y=>(uM y).map (aL [] [44]::·))=_
  unfold dD
  rw[aBV]
  congr 1
  have:=qJ (fun x=>(uM x).map (aD [32] [119,104,101,114,101]::·)) (fun x=>(uM x).map (aL [] [44]::·)) x r
  rw[← this]
  congr 1
  funext i y
  unfold fixI;split<;>rfl
theorem terms_loop (l:List Trm):aG (l.map bG)=dD (fun _=>bG) l:=by
 unfold dD
 congr 1
 induction l with
 | nil=>rfl
 | cons x r ih=>rw[List.mapIdx_cons,aEv,ih]
abbrev Apart (o:Option (List Pc)):Prop:=∀ ps,o=some ps→Flow false ps
abbrev kK (o:Option (List Pc)):Prop:=∀ ps,o=some ps→Flow true ps
theorem Apart.open {o:Option (List Pc)}(h:Apart o):kK o:=fun ps e=>(h ps e).mono
theorem fJ {l:List Pc}(h:Flow false l):Apart (some l):=fun ps e=>by cases e;exact h
theorem gL:Apart none:=fun ps e=>by cases e
theorem cQ:Apart (aG []):=fun ps e=>by obtain rfl:=dO e;trivial
theorem bI {x:Option (List Pc)}{r:List (Option (List Pc))}(hx:Apart x)(hr:Apart (aG r)):Apart (aG (x::r)):=fun ps e=>by
 obtain⟨a,b,h1,h2,rfl⟩:=aA e
 exact Flow.app (hr b h2) (hx a h1)
theorem qU {x:Option (List Pc)}{r:List (Option (List Pc))}(hx:kK x)(hr:Apart (aG r)):kK (aG (x::r)):=fun ps e=>by
 obtain⟨a,b,h1,h2,rfl⟩:=aA e
 exact Flow.app (hr b h2) (hx a h1)
theorem dK {c:Prop} [Decidable c] {a b:Option (List Pc)}(ha:Apart a)(hb:Apart b):Apart (if c then a else b):=by
 split
 ·exact ha
 ·exact hb
theorem iE {p:Pc}{r:List Pc}(hg:nH p.t)(hb:okB p.b=true)(hs:nU (gE p)=true)(hr:Flow (yQ p.t) r):Flow false (p::r):=⟨hg,hb,.inr hs,hr⟩
theorem yA {p:Pc}{o:Option (List Pc)}(hg:nH p.t)(hb:okB p.b=true)(hs:nU (gE p)=true)(h:Apart o):Apart (o.map (p::·)):=fun ps e=>by
 obtain⟨q,hq,rfl⟩:=aEi.1 e
 exact iE hg hb hs (h q hq).mono
theorem ap_mapO {p:Pc}{o:Option (List Pc)}(hg:nH p.t)(hb:okB p.b=true)(hs:nU (gE p)=true)(ho:yQ p.t=true)(h:kK o):Apart (o.map (p::·)):=fun ps e=>by
 obtain⟨q,hq,rfl⟩:=aEi.1 e
 exact iE hg hb hs (by rw[ho];exact h q hq)
theorem aAa {p:Pc}{r:List (Option (List Pc))}(hg:nH p.t)(hb:okB p.b=true)(hs:nU (gE p)=true)(ho:yQ p.t=true)(h:kK (aG r)):Apart (aG (some [p]::r)):=fun ps e=>by
 obtain⟨a,b,h1,h2,rfl⟩:=aA e
 cases h1
 exact iE hg hb hs (by rw[ho];exact h b h2)
theorem apO_one {p:Pc}(hg:nH p.t)(hb:okB p.b=true):kK (some [p]):=fun ps e=>by cases e;exact⟨hg,hb,.inl rfl,trivial⟩
theorem nD {p:Pc}(hg:nH p.t)(hb:okB p.b=true)(hs:nU (gE p)=true):Apart (some [p]):=fJ (iE hg hb hs trivial)
theorem aAo {b l:aBs}(hb:okB b=true)(hn:b≠[]):nU (b++l)=true:=by
 rcases of_decide_eq_true hb with rfl|rfl|rfl|rfl
 ·exact absurd rfl hn
 ·rfl
 ·rfl
 ·rfl
theorem aC9 {b s:aBs}(hb:okB b=true)(hn:b≠[]):Apart (bB b s):=fun ps e=>by
 obtain⟨h,rfl⟩:=fT e
 exact iE (jP h) hb (aAo hb hn) trivial
theorem wH {b s:aBs}(hb:okB b=true):kK (bB b s):=fun ps e=>by
 obtain⟨h,rfl⟩:=fT e
 exact⟨jP h,hb,.inl rfl,trivial⟩
theorem ap_num {b:aBs}{n:Int}(hb:okB b=true)(hn:b≠[]):Apart (iD b n):=fun ps e=>by
 obtain⟨h,rfl⟩:=tK e
 exact iE (oF h) hb (aAo hb hn) trivial
theorem apO_num {b:aBs}{n:Int}(hb:okB b=true):kK (iD b n):=fun ps e=>by
 obtain⟨h,rfl⟩:=tK e
 exact⟨oF h,hb,.inl rfl,trivial⟩
theorem tP {n:Int}{ws:List aBs}(h:∀ s∈ws,dJ s=true):Apart (fZ n ws):=fun ps e=>by
 obtain⟨j,rfl,s,hs,rfl⟩:=uC e
 exact iE (jP (h s (aD6 hs))) rfl rfl trivial
theorem ap_op {n:Int}:Apart (opQ n):=fun ps e=>by
 obtain⟨j,rfl,s,hs,rfl⟩:=aAD e
 have:s∈([[61],[33,61],[60],[60,61]]:List aBs):=aD6 hs
 simp at this
 rcases this with rfl|rfl|rfl|rfl<;>exact iE rfl rfl rfl trivial
theorem pD {s:aBs}(h:dJ s=true):Apart (some [aD [32] s]):=nD (jP h) rfl rfl
theorem qB {α:Type}{one:α→Option (List Pc)}(h:∀ x,Apart (one x)):∀(l:List α),Apart (aG (l.map one))
 | []=>cQ
 | x::l=>bI (h x) (qB h l)
theorem ap_list {α:Type}{one:aBs→α→Option (List Pc)}{b:aBs}(h0:∀ x,Apart (one b x))(h:∀ x,Apart (one [32] x)):∀(l:List α),Apart (gV one b l)
 | []=>fJ (l:=[]) trivial
 | x::r=>bI (h0 x) (qB (fun y=>yA (p:=aL [] [44]) rfl rfl rfl (h y)) r)
theorem apO_list {α:Type}{one:aBs→α→Option (List Pc)}{b:aBs}(h0:∀ x,kK (one b x))(h:∀ x,Apart (one [32] x)):∀(l:List α),kK (gV one b l)
 | []=>(fJ (l:=[]) trivial).open
 | x::r=>qU (h0 x) (qB (fun y=>yA (p:=aL [] [44]) rfl rfl rfl (h y)) r)
theorem aBl {α:Type}{one:aBs→α→Option (List Pc)}{b:aBs}(h0:∀ x,kK (one b x))(h:∀ x,Apart (one [32] x)):∀(l:List α),kK (dG one b l)
 | []=>gL.open
 | x::r=>apO_list h0 h (x::r)
theorem aCt {α:Type}{one:aBs→α→Option (List Pc)}{b:aBs}(h0:∀ x,Apart (one b x))(h:∀ x,Apart (one [32] x)):∀(l:List α),Apart (dG one b l)
 | []=>gL
 | x::r=>ap_list h0 h (x::r)
theorem kW (s:aBs):Apart (bB [32] s):=aC9 rfl (by simp)
theorem zK (n:Int):Apart (iD [32] n):=ap_num rfl (by simp)
theorem ap_names (l:List aBs):Apart (gV bB [32] l):=ap_list (fun x=>kW x) (fun x=>kW x) l
theorem aCu (l:List aBs):kK (dG bB [] l):=aBl (fun _=>wH rfl) (fun x=>kW x) l
theorem aBk (v:Vl):Apart (bT v):=by
 unfold bT;refine dK (dK (pD rfl) gL) (dK ?_ (dK ?_ (dK ?_ (dK (dK ?_ gL) gL))))
 ·split
  ·rename_i h
   exact nD (good_txt h.2) rfl rfl
  ·exact gL
 ·split
  ·rename_i h
   split
   ·rename_i hn
    exact fJ (iE rfl rfl rfl ⟨oF (decide_eq_true (by omega)),rfl,.inl rfl,trivial⟩)
   ·rename_i hn
    exact nD (oF (decide_eq_true (by omega))) rfl rfl
  ·exact gL
 ·split
  ·rename_i h
   exact fJ (iE rfl rfl rfl ⟨oF h.2,rfl,.inl rfl,trivial⟩)
  ·exact gL
 ·split
  ·exact pD rfl
  ·exact pD rfl
theorem tA (t a:aBs):Apart (eB t a):=bI (kW t) (aAa rfl rfl rfl rfl (qU (wH rfl) cQ))
theorem ap_side (x:Opd):Apart (gB x):=by
 unfold gB;exact dK (dK (aBk _) gL) (dK gL (dK (dK gL (kW _)) (dK gL (tA _ _))))
theorem ap_add (n:Int):Apart (tS n):=by
 unfold tS;split
 ·exact gL
 split
 ·exact fJ (iE rfl rfl rfl ⟨oF (decide_eq_true (by omega)),rfl,.inr rfl,trivial⟩)
 split
 ·exact fJ (iE rfl rfl rfl ⟨oF (decide_eq_true (by omega)),rfl,.inl rfl,trivial⟩)
 ·exact fJ trivial
theorem ap_cond (x:Cnd):Apart (qA x):=bI (ap_side _) (bI ap_op (bI (ap_side _) (bI (ap_add _) cQ)))
theorem ap_conds:∀(l:List Cnd),Apart (lE l)
 | []=>gL
 | x::r=>bI (pD rfl) (bI (ap_cond x) (qB (fun y=>yA (jP rfl) rfl rfl (ap_cond y)) r))
theorem ap_rest (k:Int)(cs:List Cnd)(ns:List aBs)(a as_:aBs)(g:Int):Apart (dZ k cs ns a as_ g):=by
 unfold dZ;refine dK (ap_conds cs) (dK (bI (pD rfl) (bI (ap_names ns) cQ)) (dK (bI (nD rfl rfl rfl) (bI (kW a) (bI (pD rfl) (bI (kW as_) cQ)))) (dK (dK ?_ gL) (fJ trivial))));exact bI (pD rfl) (bI (ap_names ns) (bI (pD rfl) (bI (tP (by decide)) (bI (dK (dK (fJ trivial) gL) (kW a)) (bI (pD rfl) (bI (kW as_) cQ))))))
theorem ap_nameB {o:Bool}{b s:aBs}(hb:okB b=true)(ho:o=true∨b≠[]) {ps:List Pc}(e:bB b s=some ps):Flow o ps:=by
 rcases ho with rfl|hn
 ·exact wH hb ps e
 ·exact(aC9 hb hn ps e).mono
mutual
theorem fl_ex (b:aBs)(hb:okB b=true) {o:Bool}(ho:o=true∨b≠[]):∀(x:Ex)(ps:List Pc),gM b x=some ps→Flow o ps
 | .mk k tb ks cs ns a as_ g _,ps,e=>by
  rw[gM]at e
  split at e
  ·rename_i h
   split at e
   ·exact ap_nameB hb ho e
   ·rename_i h1
    obtain⟨p1,q1,e1,k1,rfl⟩:=aA e
    obtain⟨p2,q2,e2,k2,rfl⟩:=aA k1
    cases e1
    have hw:dJ (cJ.getD (k - 2).toNat [])=true:=by
     rcases(show k=2∨k=3∨k=4∨k=5∨k=6∨k=7∨k=8 by omega) with rfl|rfl|rfl|rfl|rfl|rfl|rfl<;>rfl
    have hk:Flow true (p2++q2):=Flow.app (bI (ap_rest _ _ _ _ _ _) (bI (nD (p:=aL [] [41]) rfl rfl rfl) cQ) q2 k2) (fl_kids [] rfl (.inl rfl) ks p2 e2)
    exact⟨jP hw,hb,ho.imp id fun hn=>aAo hb hn,rfl,rfl,.inr rfl,hk⟩
  ·cases e
theorem fl_kids (b:aBs)(hb:okB b=true) {o:Bool}(ho:o=true∨b≠[]):∀(l:List Ex)(ps:List Pc),iK b l=some ps→Flow o ps
 | [],ps,e=>by
  rw[iK]at e
  cases e
  trivial
 | x::r,ps,e=>by
  rw[iK]at e
  split at e
  ·rename_i p q h1 h2
   cases e
   have hx:=fl_ex b hb ho x p h1;have hr:=fl_kids [32] rfl (o:=false) (.inr (by simp)) r q h2;cases r with
   | nil =>
    rw[iK]at h2
    cases h2
    simpa using hx
   | cons y r =>
    simp only[List.isEmpty_cons,aEd,if_false,aD7]
    exact Flow.app (iE (p:=aL [] [44]) rfl rfl rfl hr) hx
  ·cases e
end
theorem ap_vl (v:Vl):Apart ((bT v).map (aL [32] [61]::·)):=yA rfl rfl rfl (aBk v)
theorem ap_col (c:Col):Apart (mV [32] c):=bI (kW _) (bI (tP (by decide)) (bI (dK (fJ (l:=[]) trivial) (ap_vl _)) cQ))
theorem apO_col (c:Col):kK (mV [] c):=qU (wH rfl) (bI (tP (by decide)) (bI (dK (fJ (l:=[]) trivial) (ap_vl _)) cQ))
theorem ap_term (t:Trm):Apart (bG t):=by
 refine bI (aC9 rfl (by simp)) (bI (tP (by decide)) (bI (dK (zK _) (dK (fJ (l:=[]) trivial) gL)) (bI (pD rfl) (bI (zK _) (bI (dK (fJ (l:=[]) trivial) ?_) (bI (pD rfl) (bI (zK _) (bI (dK (fJ (l:=[]) trivial) ?_) (bI (nD (p:=aL [] [59]) rfl rfl rfl) cQ)))))))))
 ·exact ap_mapO rfl rfl rfl rfl (apO_num rfl)
 ·exact yA (jP rfl) rfl rfl (zK _)
theorem ap_fix (f:Nmd):Apart (uM f):=bI (kW _) (bI (nD (p:=aL [32] [61]) rfl rfl rfl) (bI (aBk _) cQ))
theorem ap_fixed:∀(l:List Nmd),Apart (uL l)
 | []=>fJ (l:=[]) trivial
 | x::r=>bI (pD rfl) (bI (ap_fix x) (qB (fun y=>yA (p:=aL [] [44]) rfl rfl rfl (ap_fix y)) r))
theorem ap_var (v:Vr):Apart (rJ v):=bI (kW _) (bI (kW _) cQ)
theorem ap_sym2 {s w:aBs}{r:List (Option (List Pc))}(h1:nH (aL [] s).t)(h2:nU s=true)(hw:dJ w=true)(h:Apart (aG r)):Apart (aG (some [aL [] s,aD [32] w]::r)) :=
 bI (fJ (iE h1 rfl h2 (iE (p:=aD [32] w) (r:=[]) (jP hw) rfl rfl trivial).mono)) h
theorem ap_seqs:∀ {l:List (Option (List Pc))},(∀ x∈l,Apart x)→Apart (aG l)
 | [],_=>cQ
 | x::r,h=>bI (h x (by simp)) (ap_seqs fun y hy=>h y (by simp[hy]))
theorem ap_part (x:It):Apart (dV x):=by
 unfold dV;refine dK ?_ (dK ?_ (dK ?_ (dK ?_ (dK ?_ (dK ?_ (dK ?_ (dK ?_ (dK ?_ ?_))))))))
 ·exact aAa rfl rfl rfl rfl (qU (aBl apO_col ap_col _) (ap_sym2 rfl rfl rfl (bI (aCt kW kW _) cQ)))
 ·exact bI (pD rfl) (bI (zK _) cQ)
 ·exact bI (pD rfl) (bI (tA _ _) (bI (pD rfl) (bI (tP (by decide)) (bI (dK (zK _) (fJ (l:=[]) trivial)) (bI (dK (zK _) (fJ (l:=[]) trivial)) cQ)))))
 ·refine ap_seqs fun y hy=>?_
  rcases aEB.1 hy with hy|hy
  ·simp only[aEg,List.not_mem_nil,or_false]at hy
   rcases hy with rfl|rfl|rfl|rfl|rfl
   ·exact pD rfl
   ·exact kW _
   ·exact pD rfl
   ·exact zK _
   ·exact nD rfl rfl rfl
  ·obtain⟨t,_,rfl⟩:=aEz.1 hy
   exact ap_term t
 ·exact bI (tA _ _) (bI (pD rfl) (bI (tP (by decide)) cQ))
 ·exact bI (pD rfl) (bI (kW _) (aAa rfl rfl rfl rfl (qU (aCu _) (bI (nD (p:=aL [] [41]) rfl rfl rfl) cQ))))
 ·exact bI (pD rfl) (bI (kW _) (aAa rfl rfl rfl rfl (qU (aCu _) (ap_sym2 rfl rfl rfl (bI (kW _) (bI (ap_fixed _) cQ))))))
 ·exact bI (tA _ _) (bI (pD rfl) (bI (tA _ _) cQ))
 ·exact bI (aCt ap_var ap_var _) (bI (ap_conds _) cQ)
 ·exact bI (nD (p:=aL [32] [61]) rfl rfl rfl) (bI (fun ps e=>fl_ex [32] rfl (.inr (by simp)) _ ps e) cQ)
theorem itWord_ok {k:Int}(h1:1≤k)(h10:k≤10):dJ (eF.getD (k - 1).toNat [])=true:=by
 rcases(show k=1∨k=2∨k=3∨k=4∨k=5∨k=6∨k=7∨k=8∨k=9∨k=10 by omega) with rfl|rfl|rfl|rfl|rfl|rfl|rfl|rfl|rfl|rfl<;>rfl
theorem item_flow (x:It):kK (gW x):=fun ps e=>by
 unfold gW at e;split at e
 ·rename_i h
  refine qU (apO_one (jP (itWord_ok h.1 h.2.1)) rfl) (bI (dK (fJ (l:=[]) trivial) (kW _)) (bI (ap_part x) (bI ?_ cQ))) ps e;split
  ·exact nD rfl rfl rfl
  ·exact nD rfl rfl rfl
 ·cases e
theorem xH {α β:Type}{f:α→Option β}:∀ {l:List α}{r:List β},l.mapM f=some r→r.length=l.length∧∀(i:Nat)(x:α),l[i]?=some x→∃ y,r[i]?=some y∧f x=some y
 | [],r,h=>by
  simp at h
  subst h
  simp
 | x::l,r,h=>by
  rw[List.mapM_cons]at h
  cases hx:f x with
  | none=>rw[hx]at h;cases h
  | some y =>
   cases hl:l.mapM f with
   | none=>rw[hx,hl]at h;cases h
   | some s =>
    rw[hx,hl]at h
    cases h
    obtain⟨h1,h2⟩:=xH hl
    refine⟨by simp[h1],fun i z hz=>?_⟩
    cases i with
    | zero=>simp at hz;subst hz;exact⟨y,rfl,hx⟩
    | succ i=>exact h2 i z (by simpa using hz)
theorem aAT {xs:List It}{ls:List (List Pc)}(h:eT xs=some ls):∀ l∈ls,Flow true l:=by
 intro l hl
 obtain⟨i,hi⟩:=aEH.1 hl
 obtain⟨h1,h2⟩:=xH h
 have hlt:i<xs.length:=by have:=(aD5.1 hi).1;omega
 obtain⟨y,e1,e2⟩:=h2 i _ (List.getElem?_eq_getElem hlt)
 rw[hi]at e1
 cases e1
 exact item_flow _ _ e2
abbrev qW:Nat→Nat→Prop:=fun _ _=>True
theorem TWs.of_te {Q:Nat→Nat→Prop}{a b:List Tok}(h:TE Q a b)(hb:TWs b):TWs a:=by
 induction h with
 | nil=>exact fun _ h=>by cases h
 | cons h _ ih =>
  intro t ht
  rcases aEg.1 ht with rfl|ht
  ·intro h4 c hc
   exact hb _ (by simp) (h.1.symm.trans h4) c (h.2.1▸hc)
  ·exact ih (fun t ht=>hb t (by simp[ht])) t ht
theorem TE.flip {a b:List Tok}(h:TE qW a b):TE qW b a:=by
 induction h with
 | nil=>exact .nil
 | cons h _ ih=>exact .cons ⟨h.1.symm,h.2.1.symm,h.2.2.1.symm,trivial⟩ ih
theorem item_real {z z':Nat}{ts ts' r':List Tok}{x':It}(hw:LW ts)(ht:TE qW ts' ts)(h:hG z' ts'=.ok (x',r')):∃ x r,hG z ts=.ok (x,r)∧zL qW x x'∧TE qW r' r∧LW r:=by
 have hw':TWs ts':=hw.1.of_te ht;cases hp:hG z ts with
 | ok y =>
  obtain⟨x,r⟩:=y
  obtain⟨p,_,rfl,k⟩:=item_firm (Q:=qW) hw hp
  obtain⟨p',q',rfl,t1,t2⟩:=ht.flip.split
  obtain⟨x2,e2,hq⟩:=k z' p' q' hw'.left hw'.right t1
  rw[h]at e2
  cases e2
  exact⟨x,r,rfl,hq,t2.flip,hw.right⟩
 | error e =>
  obtain⟨e,o⟩:=e
  rcases item_err (Q:=qW) hw hp with ⟨_,_,k⟩|⟨_,p,t,r,rfl,_,k⟩
  ·have:=k z' ts' hw' ht.flip
   rw[h]at this
   cases this
  ·obtain⟨p',q',rfl,t1,t2⟩:=ht.flip.split
   cases t2 with
   | @cons _ t9 _ r9 t3 t4 =>
    have w1:TW t9:=hw'.right t9 (by simp);have w2:TWs r9:=fun t ht=>hw'.right t (by simp[ht])
    have:=k z' p' t9 r9 hw'.left w1 w2 t1 t3
    rw[h]at this
    cases this
theorem Its.real {z z':Nat}{ts':List Tok}{xs':List It}(h:Its z' ts' xs'):∀ {ts:List Tok},LW ts→TE qW ts' ts→∃ xs,Its z ts xs∧tU qW xs xs':=by
 induction h with
 | nil =>
  intro ts _ ht;cases ht
  exact⟨[],.nil,trivial⟩
 | cons hp _ ih =>
  intro ts hw ht
  obtain⟨x,r,e,hq,ht2,hw2⟩:=item_real (z:=z) hw ht hp
  obtain⟨xs,h1,h2⟩:=ih hw2 ht2
  exact⟨x::xs,.cons e h1,hq,h2⟩
theorem items_its {xs:List It}:∀ {ls:List (List Pc)},eT xs=some ls→xs.all gC=true→Its 0 (ls.flatMap aZ) (xs.map dE):=by
 induction xs with
 | nil =>
  intro ls h _;cases h;exact .nil
 | cons x xs ih =>
  intro ls h hf;unfold eT at h
  rw[List.mapM_cons]at h
  cases hx:gW x with
  | none=>rw[hx]at h;cases h
  | some y =>
   cases hl:xs.mapM gW with
   | none=>rw[hx,hl]at h;cases h
   | some s =>
    rw[hx,hl]at h
    cases h
    simp only[List.all_cons,aD8]at hf
    rw[aEj]
    exact .cons (item_read 0 hx (of_decide_eq_true hf.1) _ (NS.nil _)) (ih hl hf.2)
theorem offsL_te:∀(ls:List (List Pc))(i:Nat),TE qW (ls.flatMap aZ) (aB6 ls i)
 | [],_=>.nil
 | l::r,i=>by
  rw[aEj]
  exact(offsP_te l i).app (offsL_te r _)
theorem text_lex {xs:List It}{ls:List (List Pc)}(h:eT xs=some ls)(hc:oJ ls≤5000):rF (lL ls)=.ok (aB6 ls 0):=lexM_of (by rw[aB5];exact hc) (xJ ls 0 (aAT h))
theorem text_parse {xs:List It}{ls:List (List Pc)}(h:eT xs=some ls)(hf:xs.all gC=true)(hn:xs.length≤200)(hc:oJ ls≤5000):∃ ys,jS (lL ls)=.ok ys∧tU qW ys (xs.map dE):=by
 have hL:=text_lex h hc;have hw:=(fY.wf _ _ _ _ (aEf _) (xJ ls 0 (aAT h))).1
 obtain⟨ys,h1,h2⟩:=(items_its h hf).real (z:=(lL ls).length) hw (offsL_te ls 0)
 refine⟨ys,(wZ hL).2 ⟨h1,?_⟩,h2⟩
 have:∀ {a b:List It},tU qW a b→a.length=b.length:=by
  intro a
  induction a with
  | nil =>
   intro b hb;cases b with
   | nil=>rfl
   | cons _ _=>exact hb.elim
  | cons x a ih =>
   intro b hb;cases b with
   | nil=>exact hb.elim
   | cons y b=>simp[ih hb.2]
 rw[this h2,List.length_map]
 exact hn
theorem dS.isS {sz n:Nat}{h:Heap}{v:Value}{xs:aVs}(a:dS sz h v n xs):∃ e f,v=.slice e n f:=by
 obtain⟨_,e,f,hv,_⟩:=a
 exact⟨e,f,hv⟩
theorem vI (B:Base)(b:Nat)(p v:Value)(k:Int)(bs:aBs)(l:List Cnd)(vs:Value)(h:Heap)(hp:cW b p)(hT:kJ B.h)(hA:dS 14 B.h vs l.length (l.flatMap rG))(hOK:∀ c∈l,tC c)
  (o:Own B [box b [p,v,.int .i64 k] 58,row v 5 1 bs.length (bytes bs)] h) (hl:bs.length+2000*l.length≤50000000000000) (hk:0≤k∧k+2000*l.length≤50000000000000) :
  Spec Tryz.prog 127 [.pointer (some ⟨b,0,none⟩),vs] h (WEnds B b bs k (2000*l.length) (lE l)):=by
 obtain⟨ya,yc,rfl⟩:=hA.isS
 refine aDX Tryz.func127 rfl Tryz.ntmps127 (by kernel_rfl) ?_;by_cases h0:l=[]
 ·subst h0
  refine rR (aDn rfl nI ?_);refine aDj ‹_› (aE _ _) (fun e1 m2 _ oq=>by cases e1) fun e1 m2 oq=>?_
  exact⟨rfl,rfl,oq⟩
 have hpos:0<l.length:=List.length_pos_iff.2 h0;refine rR (aDn rfl nI ?_);refine aDj ‹_› (aE _ _) (fun e1 m2 oc oq=>?_) fun e1 m2 oq=>absurd (of_decide_eq_false e1) (by omega);clear oc o
 rw[zH l h0]
 refine rR (aDn rfl nI ?_);refine aD1 [4,6,13,14,15,16,17,18,19,20,21,22,23,24,25,26,27,28,29,30,31,32,33,34,35,36,37,38,39,40,41,42,43,44,45,46,47,48,49,50,51,52,53,54,55,56,57,58,59,60,61,62,63,64,65,66,67,68,69,70,71,72,73,74] [4,13] (fun vs' hh=>∃(i:Nat) (p' v':Value) (bs' be:aBs) (k':Int) (ps:List Pc),i≤l.length∧be=(if i=0 then[32,119,104,101,114,101] else[32,97,110,100])∧vs'=[.string ⟨⟨be⟩⟩,.int .i64 i]∧cW b p'∧dD wC (l.take i)=some ps∧bs'=bs++bK ps∧k'=k+ps.length∧bs'.length≤bs.length+2000*i∧k'≤k+2000*i∧Own B [box b [p',v',.int .i64 k'] 58,row v' 5 1 bs'.length (bytes bs')] hh) (fun vs' _=>match vs' with|[_,.int _ i]=>l.length - i.toNat|_=>0) ?_ ?_
 ·exact⟨0,p,v,bs,_,k,[],by omega,rfl,rfl,hp,rfl,by simp[bK],by simp,by omega,by omega,oq⟩
 ·rintro vs' junk hh ⟨i,p',v',bs',be,k',ps,hi,hbe,rfl,hp',hQ,hb',hk',hl',hk2,oh⟩
  clear oq;by_cases hlt:i<l.length
  ·obtain⟨x,hx⟩:=getx hlt
   have hxOK:=hOK x (aD6 hx)
   obtain⟨hL,hop,hR,hadd⟩:=hxOK
   have hbl:be.length≤6:=by rw[hbe];split<;>simp
   have hkk:0≤k':=by omega
   have hm:2000*i+2000≤2000*l.length:=by omega
   refine aDR (fun c50=>?_) (fun hc=>absurd (by omega) hc);refine rR (aDo nI gA (hA.ext oh.ext) rfl (by omega) (by omega) ?_);refine rR (aDr gA (hA.ext oh.ext) (fun _=>rfl) (by decide) rfl ‹_› ?_);(refine aDP oh gA ?_;intro b53 m53 o53);(refine aDh o53 2 rfl gA rfl (by decide) (aI ⟨rfl,rfl⟩ ?_);intro m54 o54);refine rR (nC rfl ?_);refine rR (fA bS rfl rfl rfl ?_);(refine aDO o54 aJ aO rfl rfl (by decide) (aI rfl ?_);intro b57 m57 o57);refine aH [be] 1 30 [2] (i:=3) ‹_› rfl rfl rfl hp' rfl (by omega) (by omega) (by simp;omega) (by omega) (by omega) (fun p1 v1 bs1 k1 m1 hp1 hb1 hk1 hl1 oq=>?_);have o1:=oq
   simp only[pick,lgS,lgZ]at o1
   clear oq;have hone:wC i x=(aG [gB x.left,opQ x.op,gB x.right,tS x.add]).map ((if i=0 then aD [32] [119,104,101,114,101] else aD [32] [97,110,100])::·):=rfl;generalize hw:(if i=0 then aD [32] [119,104,101,114,101] else aD [32] [97,110,100])=w at hone;have hwb:gE w=be:=by rw[hbe,← hw];split<;>rfl
   refine rR (fA lM rfl rfl rfl ?_);refine rR (aDi o1 2 rfl nF rfl rfl rfl ?_);refine WEnds.callJ [2] ‹_› rfl rfl (fun J oj=>yM _ b p1 v1 k1 bs1 x.left _ hp1 hT oj (by omega) hL (by omega)) (fun ps2 p2 v2 bs2 k2 m2 hq2 hp2 hb2 hk2' hl2 _ hj2 oq=>?_) (fun m2 hq2 oq=>?_)
   case refine_2 =>
    have:wC i x=none:=by rw[hone];simp only[hq2,aG,oMN]
    exact⟨aS hx hQ this,rfl,oq⟩
   have o2:=oq
   simp only[pick,lgS,lgZ]at o2
   clear oq o1;refine aDU [0,1,2,3] [4] [6,7,8] [0,1,2,3,4,5,6,7,8] mixed (by kernel_rfl) rfl (fun _ _ _ _ h=>h) ?_;refine nC rfl ?_;refine fA bS rfl rfl rfl ?_;refine fA lM rfl rfl rfl ?_;refine aDe o2 2 rfl aY rfl rfl ?_;(refine aDO (Own.refl _) aJ aO rfl rfl (by decide) (aI rfl ?_);intro b124 m124 o124);(refine aI o124.ext ?_;have o125:=Own.call o2 o124;simp only[lcA,lnA]at o125;clear o124);refine aDj ‹_› (eE _ [[61],[33,61],[60],[60,61]] _ _ (by omega) (by omega) (Own.boxArr ‹_› 3 rfl rfl (by decide)) (by simp) (by simp)) (fun e3 m3 _ oq=>?_) fun e3 m3 oq=>?_
   case refine_2 =>
    have e3:=of_decide_eq_false e3
    simp only[aEa,aEr]at e3
    have:wC i x=none:=by rw[hone];simp only[hq2,show opQ x.op=none from if_neg (by omega),aG,oMN]
    exact⟨aS hx hQ this,rfl,oq⟩
   have e3:=of_decide_eq_true e3
   simp only[aEa,aEr]at e3
   have hq3:opQ x.op=some [aL [32] (([[61],[33,61],[60],[60,61]]:List aBs).getD (x.op - 1).toNat [])]:=if_pos (by omega);have hwl:(([[61],[33,61],[60],[60,61]]:List aBs).getD (x.op - 1).toNat []).length≤2:=by
    have:x.op=1∨x.op=2∨x.op=3∨x.op=4:=by omega
    rcases this with h|h|h|h<;>rw[h]<;>decide
   generalize (([[61],[33,61],[60],[60,61]]:List aBs).getD (x.op - 1).toNat [])=opw at hq3 hwl
   (refine aDO oq aJ aO rfl rfl (by decide) (aI rfl ?_);intro b140 m140 o140);refine aH [32::opw] 1 30 [2] (i:=4) ‹_› rfl rfl rfl hp2 rfl (by omega) (by omega) (by simp;omega) (by omega) (by omega) (fun p4 v4 bs4 k4 m4 hp4 hb4 hk4 hl4 oq=>?_);have o4:=oq
   simp only[pick,lgS,lgZ]at o4
   clear oq o2;refine rR (fA lM rfl rfl rfl ?_);refine rR (aDi o4 2 rfl nF rfl rfl rfl ?_);refine WEnds.callJ [2] ‹_› rfl rfl (fun J oj=>yM _ b p4 v4 k4 bs4 x.right _ hp4 hT oj (by omega) hR (by omega)) (fun ps5 p5 v5 bs5 k5 m5 hq5 hp5 hb5 hk5 hl5 _ hj5 oq=>?_) (fun m5 hq5 oq=>?_)
   case refine_2 =>
    have:wC i x=none:=by rw[hone];simp only[hq2,hq3,hq5,aG,oMN]
    exact⟨aS hx hQ this,rfl,oq⟩
   have o5:=oq
   simp only[pick,lgS,lgZ]at o5
   clear oq o4;by_cases hr:-9999999999≤x.add∧x.add≤9999999999
   case neg =>
    have hq6:tS x.add=none:=if_pos hr;have hn:wC i x=none:=by rw[hone];simp only[hq2,hq3,hq5,hq6,aG,oMN]
    by_cases hr1:-9999999999≤x.add
    ·refine rR (fA lM rfl rfl rfl ?_)
     refine rR (aDe o5 2 rfl aY rfl rfl ?_);refine aDR (fun c202=>?_) (fun hc=>absurd (by omega) hc);refine rR (fA lM rfl rfl rfl ?_);refine rR (aDe o5 2 rfl aY rfl rfl ?_);refine aDj ‹_› (aE _ _) (fun e6 m6 _ oq=>absurd (of_decide_eq_true e6) (by omega)) fun e6 m6 oq=>?_
     exact⟨aS hx hQ hn,rfl,oq⟩
    ·refine rR (fA lM rfl rfl rfl ?_)
     refine rR (aDe o5 2 rfl aY rfl rfl ?_);refine aDR (fun hc=>absurd hc (by omega)) (fun c222=>?_);refine aDj ‹_› (aE _ _) (fun e6 m6 _ oq=>by cases e6) fun e6 m6 oq=>?_
     exact⟨aS hx hQ hn,rfl,oq⟩
   refine rR (fA lM rfl rfl rfl ?_);refine rR (aDe o5 2 rfl aY rfl rfl ?_);refine aDR (fun c242=>?_) (fun hc=>absurd (by omega) hc);refine rR (fA lM rfl rfl rfl ?_);refine rR (aDe o5 2 rfl aY rfl rfl ?_);refine aDj ‹_› (aE _ _) (fun e6 m6 _ oq=>?_) fun e6 m6 oq=>absurd (of_decide_eq_false e6) (by omega);clear o5;have hend:∀ ps6,tS x.add=some ps6→wC i x=some (w::(ps2++([aL [32] opw]++(ps5++(ps6++[]))))):=fun ps6 h=>by
    rw[hone];simp only[hq2,hq3,hq5,h,aG,oMS]
   have hbs:bs5=bs++bK (ps++(w::(ps2++([aL [32] opw]++ps5)))):=by
    rw[hb5,hb4,hb2,hb1,hb',← hwb]
    simp[bK,gE,wr,aL]
   have hks:k5=k+(ps++(w::(ps2++([aL [32] opw]++ps5)))).length:=by
    rw[hk5,hk4,hk2',hk1,hk']
    simp
    omega
   by_cases hpos:0<x.add
   ·have hno:jC x.add=true:=decide_eq_true (by omega)
    have hil:=cB hno;have hq6:tS x.add=some [aL [32] [43],bU [32] x.add]:=by unfold tS;rw[if_neg (by omega),if_pos hpos]
    refine rR (fA lM rfl rfl rfl ?_);refine rR (aDe oq 2 rfl aY rfl rfl ?_);refine aDR (fun c262=>?_) (fun hc=>absurd (by omega) hc);refine aDU [0,1,2,3,6] [4] [5,7,8] [0,1,2,3,4,5,6,7,8] mixed (by kernel_rfl) rfl (fun _ _ _ _ h=>h) ?_;refine nC rfl ?_;refine fA bS rfl rfl rfl ?_;refine fA lM rfl rfl rfl ?_;refine aDe oq 2 rfl aY rfl rfl ?_;refine aDj ‹_› (bN _ _ (by omega) (by omega) (hT.ext (Own.ext (B:=B) ‹_›))) (fun e7 m7 _ oq=>?_) fun e7 m7 oq=>(by rw[hno]at e7;cases e7);refine aDm rfl rfl (by first|omega|(simp;omega)) ?_;(refine aDO oq aJ aO rfl rfl (by decide) (aI rfl ?_);intro b281 m281 o281);refine aH [[32,43],[32]++Lib.itoa x.add] 2 30 [2] (i:=3) ‹_› rfl rfl rfl hp5 rfl (by omega) (by omega) (by simp;omega) (by omega) (by omega) (fun p8 v8 bs8 k8 m8 hp8 hb8 hk8 hl8 oq=>?_);have o8:=oq
    simp only[pick,lgS,lgZ]at o8
    clear oq;refine aDY (by omega) (by omega) ?_
    refine⟨rfl,?_⟩
    refine⟨⟨i+1,p8,v8,bs8,_,k8,ps++(w::(ps2++([aL [32] opw]++(ps5++([aL [32] [43],bU [32] x.add]++[]))))),by omega,?_,rfl,hp8,bE hx hQ (hend _ hq6),by rw[hb8,hbs];simp[bK,gE,wr,aL,bU],by rw[hk8,hks];simp;omega,by omega,by omega,Own.sel ‹_› [0,1] rfl⟩,by simp;omega⟩
    rw[if_neg (by omega)]
   by_cases hneg:x.add<0
   ·have hno:jC (-x.add)=true:=decide_eq_true (by omega)
    have hil:=cB hno;have hq6:tS x.add=some [aL [32] [45],bU [32] (-x.add)]:=by unfold tS;rw[if_neg (by omega),if_neg hpos,if_pos hneg]
    refine rR (fA lM rfl rfl rfl ?_);refine rR (aDe oq 2 rfl aY rfl rfl ?_);refine aDR (fun hc=>absurd hc (by omega)) (fun c312=>?_);refine rR (fA lM rfl rfl rfl ?_);refine rR (aDe oq 2 rfl aY rfl rfl ?_);refine aDR (fun c315=>?_) (fun hc=>absurd (by omega) hc);refine aDU [0,1,2,3,5,7] [4] [6,8,9] [0,1,2,3,4,5,6,7,8,9] mixed (by kernel_rfl) rfl (fun _ _ _ _ h=>h) ?_;refine nC rfl ?_;refine fA bS rfl rfl rfl ?_;refine fA lM rfl rfl rfl ?_;refine aDe oq 2 rfl aY rfl rfl ?_;refine aDY (by omega) (by omega) ?_
    rw[Int.zero_sub]
    refine aDj ‹_› (bN _ _ (by omega) (by omega) (hT.ext (Own.ext (B:=B) ‹_›))) (fun e7 m7 _ oq=>?_) fun e7 m7 oq=>(by rw[hno]at e7;cases e7);refine aDm rfl rfl (by first|omega|(simp;omega)) ?_;(refine aDO oq aJ aO rfl rfl (by decide) (aI rfl ?_);intro b331 m331 o331);refine aH [[32,45],[32]++Lib.itoa (-x.add)] 2 30 [2] (i:=3) ‹_› rfl rfl rfl hp5 rfl (by omega) (by omega) (by simp;omega) (by omega) (by omega) (fun p8 v8 bs8 k8 m8 hp8 hb8 hk8 hl8 oq=>?_);have o8:=oq
    simp only[pick,lgS,lgZ]at o8
    clear oq;refine aDY (by omega) (by omega) ?_
    refine⟨rfl,?_⟩
    refine⟨⟨i+1,p8,v8,bs8,_,k8,ps++(w::(ps2++([aL [32] opw]++(ps5++([aL [32] [45],bU [32] (-x.add)]++[]))))),by omega,?_,rfl,hp8,bE hx hQ (hend _ hq6),by rw[hb8,hbs];simp[bK,gE,wr,aL,bU],by rw[hk8,hks];simp;omega,by omega,by omega,Own.sel ‹_› [0,1] rfl⟩,by simp;omega⟩
    rw[if_neg (by omega)]
   ·have hq6:tS x.add=some []:=by unfold tS;rw[if_neg (by omega),if_neg hpos,if_neg hneg]
    refine rR (fA lM rfl rfl rfl ?_);refine rR (aDe oq 2 rfl aY rfl rfl ?_);refine aDR (fun hc=>absurd hc (by omega)) (fun c362=>?_);refine rR (fA lM rfl rfl rfl ?_);refine rR (aDe oq 2 rfl aY rfl rfl ?_);refine aDR (fun hc=>absurd hc (by omega)) (fun c365=>?_);refine aDY (by omega) (by omega) ?_
    refine⟨rfl,?_⟩
    refine⟨⟨i+1,p5,v5,bs5,_,k5,ps++(w::(ps2++([aL [32] opw]++(ps5++([]++[]))))),by omega,?_,rfl,hp5,bE hx hQ (hend _ hq6),by rw[hbs];simp,by rw[hks];simp,by omega,by omega,Own.sel ‹_› [0,1] rfl⟩,by simp;omega⟩
    rw[if_neg (by omega)]
  ·refine aDR (fun hc=>absurd hc (by omega)) (fun c400=>?_)
   refine aD0 rfl ?_;have hQ2:=gN (aEs hlt) hQ;exact aD3 hQ2 oh hp' hb' hk' (by omega) (by omega)
theorem aAS:∀(r:List Ex)(b:aBs)(x:Ex),iK b (x::r)=aG (gM b x::r.map fun y=>(gM [32] y).map (aL [] [44]::·))
 | [],b,x=>by
  show(match gM b x,iK [32] [] with
   | some p,some q=>some (p++(if ([]:List Ex).isEmpty then[] else[aL [] [44]])++q)
   | _,_=>none)=_
  cases gM b x<;>simp[aG,iK]
 | y::r,b,x=>by
  show(match gM b x,iK [32] (y::r) with
   | some p,some q=>some (p++(if (y::r).isEmpty then[] else[aL [] [44]])++q)
   | _,_=>none)=_
  rw[aAS r [32] y,aEv]
  cases gM b x with
  | none=>rfl
  | some p =>
   cases gM [32] y with
   | none=>rfl
   | some q =>
    cases h:aG (r.map fun y=>(gM [32] y).map (aL [] [44]::·))<;>simp[aG,h]
theorem oE (ks:List Ex):iK [] ks=dD (eM gM) ks:=by
 cases ks with
 | nil=>rfl
 | cons x r =>
  rw[aAS]
  unfold dD
  rw[show(x::r).mapIdx (eM gM)=_ from qJ (gM []) (fun y=>(gM [32] y).map (aL [] [44]::·)) x r]
theorem kT:∀ {l:List Ex}{i:Nat}{x:Ex},l[i]?=some x→cC (l.take (i+1))=max (cC (l.take i)) (bZ x)
 | [],_,_,h=>by simp at h
 | y::l,0,x,h=>by simp at h;subst h;simp[cC]
 | y::l,i+1,x,h=>by
  have:=kT (l:=l) (i:=i) (x:=x) (by simpa using h)
  rw[aEF,aEF,cC,cC,this]
  omega
theorem mC:∀ {l:List Ex}{i:Nat}{x:Ex},l[i]?=some x→gK (l.take (i+1))=gK (l.take i)+fQ x
 | [],_,_,h=>by simp at h
 | y::l,0,x,h=>by simp at h;subst h;simp[gK]
 | y::l,i+1,x,h=>by
  have:=mC (l:=l) (i:=i) (x:=x) (by simpa using h)
  rw[aEF,aEF,gK,gK,this]
  omega
theorem eP (l:List Ex)(i:Nat):gK (l.take i)≤gK l:=by
 induction l generalizing i with
 | nil=>simp
 | cons x l ih =>
  cases i with
  | zero=>simp[gK]
  | succ i=>rw[aEF,gK,gK];have:=ih i;omega
def aDL:aVs:=[.string ⟨⟨[]⟩⟩,.int .i64 0,.string ⟨⟨[]⟩⟩,.int .i64 0,.string ⟨⟨[115,101,108,101,99,116]⟩⟩,.int .i64 1,.string ⟨⟨[112,114,111,106,101,99,116]⟩⟩,.int .i64 1,.string ⟨⟨[106,111,105,110]⟩⟩,.int .i64 2,
 .string ⟨⟨[117,110,105,111,110]⟩⟩,.int .i64 2,.string ⟨⟨[109,105,110,117,115]⟩⟩,.int .i64 2,.string ⟨⟨[114,101,110,97,109,101]⟩⟩,.int .i64 1,.string ⟨⟨[103,114,111,117,112]⟩⟩,.int .i64 1]
def iQ (h:Heap):Prop:=∀ i,i<18→bC h ⟨1,i,none⟩=aDL[i]?
theorem iQ.ext {h h':Heap}(w:iQ h)(e:Ext h h'):iQ h':=fun i hi=>by
 obtain⟨v,hv⟩:=getx (l:=aDL) (show i<aDL.length from hi)
 rw[hv]
 exact e.cell ((w i hi).trans hv)
theorem pU {h:Heap}(w:iQ h)(k:Int)(h1:1≤k)(h8:k≤8):bC h ⟨1,0+k.toNat*2+1,none⟩=some (.int .i64 (fU k))∧(k≠1→bC h ⟨1,0+k.toNat*2+0,none⟩=some (.string ⟨⟨cJ.getD (k - 2).toNat []⟩⟩)):=by
 have:k=1∨k=2∨k=3∨k=4∨k=5∨k=6∨k=7∨k=8:=by omega
 rcases this with rfl|rfl|rfl|rfl|rfl|rfl|rfl|rfl
 ·exact⟨w 3 (by decide),fun h=>absurd rfl h⟩
 ·exact⟨w 5 (by decide),fun _=>w 4 (by decide)⟩
 ·exact⟨w 7 (by decide),fun _=>w 6 (by decide)⟩
 ·exact⟨w 9 (by decide),fun _=>w 8 (by decide)⟩
 ·exact⟨w 11 (by decide),fun _=>w 10 (by decide)⟩
 ·exact⟨w 13 (by decide),fun _=>w 12 (by decide)⟩
 ·exact⟨w 15 (by decide),fun _=>w 14 (by decide)⟩
 ·exact⟨w 17 (by decide),fun _=>w 16 (by decide)⟩
def XEnds (B:Base)(b:Nat)(bs:aBs)(k:Int)(c:Nat)(o:Option (List Pc))(lev:Int):Ending→Heap→Prop :=
 Ends (fun r h'=>∃ ps p' v',o=some ps∧r=.int .i64 lev∧cW b p'∧(bK ps).length≤c∧ps.length≤c∧Own B [box b [p',v',.int .i64 (k+ps.length)] 58,row v' 5 1 (bs++bK ps).length (bytes (bs++bK ps))] h')
  fun q h'=>o=none∧q=xZ∧Own B [] h'
section
variable {g : FuncId} {args s : aVs} {B : Base} {L : List Item} {b i : Nat} {p v : Value} {k lev : Int} {bs : aBs} {h : Heap} {K : KK} {Q : QQ}
theorem XEnds.callJ {c:Nat}{opt:Option (List Pc)}(js:List Nat)(o:Own B L h)(e:pick L [0,1]=[box b [p,v,.int .i64 k] 58,row v 5 1 bs.length (bytes bs)])(hd:dst ([0,1]++js)=true)
  (sp:∀ J,Own ⟨B.h,J++B.T⟩ [box b [p,v,.int .i64 k] 58,row v 5 1 bs.length (bytes bs)] h→Spec Tryz.prog g args h (XEnds ⟨B.h,J++B.T⟩ b bs k c opt lev))
  (hret:∀ ps p' v' bs' k' h',opt=some ps→cW b p'→bs'=bs++bK ps→k'=k+ps.length→bs'.length≤bs.length+c→k≤k'→k'≤k+c→Own B (box b [p',v',.int .i64 k'] 58::row v' 5 1 bs'.length (bytes bs')::pick L js) h'→K (.int .i64 lev) false h')
  (hpan:∀ h',opt=none→Own B [] h'→Q (.panic xZ) s h'):CallVC Tryz.prog g args s h K Q:=by
 have o1:=o.lend [0,1] js hd
 rw[e]at o1
 exact aDW (sp _ o1) (fun _ _ ⟨ps,p',v',h1,h2,h3,h4,h5,o2⟩=>by
  subst h2;exact hret ps p' v' (bs++bK ps) _ _ h1 h3 rfl rfl (by rw[aD9];omega) (by omega) (by omega) o2.back) (fun _ _ ⟨h1,h2,o2⟩=>by subst h2;exact hpan _ h1 (o2.back.sel [] rfl))
theorem XEnds.done {c:Nat}{opt:Option (List Pc)}{ps:List Pc}{bs':aBs}{k':Int}(hq:opt=some ps)(o:Own B [box b [p,v,.int .i64 k'] 58,row v 5 1 bs'.length (bytes bs')] h)(hp:cW b p)(hb:bs'=bs++bK ps)(hk:k'=k+ps.length)
  (hc:bs'.length≤bs.length+c) (hc2:k'≤k+c):XEnds B b bs k c opt lev (.returned (.int .i64 lev)) h:=by
 subst hb;subst hk
 rw[aD9]at hc
 exact⟨ps,p,v,hq,rfl,hp,by omega,by omega,o⟩
end
end Go.Proofs.YtohlogbnpfofpaaGreatDoor
namespace Go.Proofs.YtohlogbnpfofpaaGreatDoor
open Go Go.ChangeShapes Go.WideShapes Go.ChangeAt Go.RowKit
abbrev laid3:List (String×DataW Unit):=Rows.printerInverseRow.laid
theorem laidOut:laidOutB Tryz.prog=true:=by kernel_rfl
theorem own:ownKnob Tryz.prog.godebug=none:=by kernel_rfl
theorem gPow:Tryz.prog.globalNamed "internal/strconv.uint64pow10"=some 5:=by kernel_rfl
theorem tPow:(Tryz.prog.globals[5]?).map (·.type)=some 271:=by kernel_rfl
theorem cPow:Tryz.prog.cellsOf 271=20:=by kernel_rfl
theorem cU64:Tryz.prog.cellsOf 178=1:=by kernel_rfl
theorem gWords:Tryz.prog.globalNamed "cleanse/parser.words"=some 0:=by kernel_rfl
theorem tWords:(Tryz.prog.globals[0]?).map (·.type)=some 115:=by kernel_rfl
theorem cWords:Tryz.prog.cellsOf 115=10:=by kernel_rfl
theorem cStr:Tryz.prog.cellsOf 9=1:=by kernel_rfl
theorem gForms:Tryz.prog.globalNamed "cleanse/printer.forms"=some 1:=by kernel_rfl
theorem tForms:(Tryz.prog.globals[1]?).map (·.type)=some 195:=by kernel_rfl
theorem cInt:Tryz.prog.cellsOf 3=1:=by kernel_rfl
theorem cForms:Tryz.prog.cellsOf 195=18:=by kernel_rfl
theorem cForm:Tryz.prog.cellsOf 194=2:=by kernel_rfl
theorem tab_of_laid {W:World}(h:laidMetH Tryz.prog laid3 W):kJ W.heap:=by
 rw[MakeChecks.laidMetH_plain _ _ _ (by kernel_rfl)]at h
 have h2:=laidMet.tail (laidMet.tail h);have e:Rows.laid_internal_strconv_uint64pow10 (H:=Unit)=Lib.tabData .u64 Lib.pow10Tab:=by rfl
 rw[e]at h2
 have key:=Lib.tabIs_of_head gPow tPow Tryz.underlying271 Tryz.underlying178 cU64 cPow h2;intro w hw;unfold Lib.TabIs World.var? at key ⊢
 rw[hw]
 exact key
theorem aDd {H:Type}{enc:TypeId×Value→H}{P:Program}{w:World}{base:Nat}{sp:Nat→Bool}{held:Bool}{fuel:Nat}{t e:TypeId}{n:Nat}{cs:aVs}{zs:List aBs}{p:List MemPlace}
  (ht:P.underlying t=some (.array n e)) (he:P.underlying e=some .string) (hce:P.cellsOf e=1) (hct:P.cellsOf t=n)
  (h:DataW.trod enc P w base sp held fuel t cs=some (.agg (zs.map fun z=>.lit (.string z)),p)):cs=strs zs:=by
 obtain⟨xs,m,_,hx,hl,hxl,hi⟩:=DataW.trod_array ht h
 have hxs:xs.map (·.1)=zs.map fun z=>(DataW.lit (.string z):DataW H):=by
  have:=congrArg Prod.fst hx
  simpa using this.symm
 have hzl:zs.length=n:=by
  have:=congrArg List.length hxs
  simp at this
  omega
 rw[hct]at hl
 apply List.ext_getElem?
 intro i;by_cases hin:i<n
 ·have h1:=hi i hin
  rw[hce,Nat.mul_one]at h1
  cases hy:xs[i]? with
  | none=>rw[List.getElem?_eq_none_iff]at hy;omega
  | some y =>
   rw[hy]at h1
   obtain⟨s,hc,hz,_⟩:=DataW.trod_string he h1
   have hci:cs[i]?=some (.string s):=by
    have:=congrArg (·[0]?) hc
    simpa[aEL,aEA] using this
   have h2:(xs.map (·.1))[i]?=some y.1:=by simp[hy]
   rw[hxs,hz]at h2
   simp only[List.getElem?_map,aEi,DataW.lit.injEq,Lit.string.injEq]at h2
   obtain⟨z,hzi,hzs⟩:=h2
   rw[hci]
   simp only[strs,List.getElem?_map,hzi,oMS,Option.some.injEq]
   obtain⟨⟨sd⟩⟩:=s
   simp only at hzs
   rw[hzs]
 ·rw[List.getElem?_eq_none (by omega),List.getElem?_eq_none (by simp[strs];omega)]
theorem words_of_laid {W:World}(h:laidMetH Tryz.prog laid3 W):mG W.heap:=by
 rw[MakeChecks.laidMetH_plain _ _ _ (by kernel_rfl)]at h
 have h2:=laidMet.tail (laidMet.tail (laidMet.tail (laidMet.tail (laidMet.tail h))))
 obtain⟨ps,⟨g',t',cs,fuel,p,q,hg',ht',hvar,hd,_,_⟩,_⟩:=h2
 obtain rfl:=Option.some.inj (gWords.symm.trans hg');obtain rfl:=Option.some.inj (tWords.symm.trans ht');have e:Rows.laid_cleanse_parser_words (H:=Unit)=.agg (eF.map fun z=>.lit (.string z)):=by rfl
 rw[e]at hd
 have hc:=aDd Tryz.underlying115 Tryz.underlying9 cStr cWords hd;intro i hi
 have:=World.var?_cell gWords hvar i
 rw[jQ]at this
 rw[this,← hc]
 simp
def formsL:List (aBs×Int):=[([],0),([],0),([115,101,108,101,99,116],1),([112,114,111,106,101,99,116],1),([106,111,105,110],2),([117,110,105,111,110],2),([109,105,110,117,115],2),([114,101,110,97,109,101],1),([103,114,111,117,112],1)]
def formFs (fs:Array Field)(s i:TypeId):Prop:=∃ a b:Field,fs[0]?=some a∧fs[1]?=some b∧fs.size=2∧a.type=s∧a.offset=0∧b.type=i∧b.offset=1
theorem aAZ:∀(zs:List (aBs×Int))(cs:aVs),cs.length=zs.length*2→(∀(i:Nat)(z:aBs×Int),zs[i]?=some z→(cs.drop (i*2)).take 2=[.string ⟨⟨z.1⟩⟩,.int .i64 z.2])→cs=zs.flatMap fun z=>[.string ⟨⟨z.1⟩⟩,.int .i64 z.2]
 | [],cs,h,_=>by
  rw[aEr,Nat.zero_mul]at h
  exact aEl.1 h
 | z::zs,cs,h,e=>by
  rw[aEa]at h
  match cs,h with
  | c0::c1::cs',h =>
   have e0:=e 0 z rfl
   simp at e0
   have:=aAZ zs cs' (by simp only[aEa]at h;omega) (fun i y hy=>by
    have:=e (i+1) y (by simpa using hy)
    rw[show(i+1)*2=i*2+2 by omega]at this
    simpa using this)
   rw[aEj,e0.1,e0.2,← this]
   rfl
  | [c0],h=>simp at h;omega
  | [],h=>simp at h
theorem aBq {H:Type}{enc:TypeId×Value→H}{P:Program}{w:World}{base:Nat}{sp:Nat→Bool}{held:Bool}{fuel:Nat}{t e ts ti:TypeId}{n:Nat}{fs:Array Field}{cs:aVs}{zs:List (aBs×Int)}{p:List MemPlace}
  (ht:P.underlying t=some (.array n e)) (he:P.underlying e=some (.struct fs)) (hfs:formFs fs ts ti) (hs:P.underlying ts=some .string) (hi:P.underlying ti=some (.int .i64)) (hcs:P.cellsOf ts=1) (hci:P.cellsOf ti=1) (hce:P.cellsOf e=2) (hct:P.cellsOf t=n*2)
  (h:DataW.trod enc P w base sp held fuel t cs=some (.agg (zs.map fun z=>.agg [.lit (.string z.1),.lit (.int .i64 z.2)]),p)):cs=zs.flatMap fun z=>[.string ⟨⟨z.1⟩⟩,.int .i64 z.2]:=by
 obtain⟨a,b,ha,hb,hsz,a1,a2,b1,b2⟩:=hfs
 obtain⟨xs,m,_,hx,hl,hxl,hel⟩:=DataW.trod_array ht h
 have hxs:xs.map (·.1)=zs.map fun z=>(DataW.agg [.lit (.string z.1),.lit (.int .i64 z.2)]:DataW H):=by
  have:=congrArg Prod.fst hx
  simpa using this.symm
 have hzl:zs.length=n:=by
  have:=congrArg List.length hxs
  simp at this
  omega
 rw[hct]at hl
 have each:∀(i:Nat) (z:aBs×Int),zs[i]?=some z→(cs.drop (i*2)).take 2=[.string ⟨⟨z.1⟩⟩,.int .i64 z.2]:=by
  intro i z hz;have hin:i<n:=by have:=(aD5.1 hz).1;omega
  have h1:=hel i hin
  rw[hce]at h1
  obtain⟨y,hy⟩:=getx (l:=xs) (i:=i) (by omega)
  rw[hy]at h1
  have h2:(xs.map (·.1))[i]?=some y.1:=by simp[hy]
  rw[hxs,List.getElem?_map,hz]at h2
  have h2:y.1=.agg [.lit (.string z.1),.lit (.int .i64 z.2)]:=(Option.some.inj h2).symm
  obtain⟨ws,k,_,hw,hlw,hws,hf⟩:=DataW.trod_struct he h1
  have hw1:ws.map (·.1)=[.lit (.string z.1),.lit (.int .i64 z.2)]:=by
   have:=congrArg Prod.fst hw
   rw[h2]at this
   simpa using this.symm
  have f0:=hf 0 a ha;have f1:=hf 1 b hb
  rw[a1,a2,hcs]at f0
  rw[b1,b2,hci]at f1
  rw[hce]at hlw
  obtain⟨u,v,rfl⟩:∃ u v,ws=[u,v]:=by
   match ws,hws.trans hsz with
   | [u,v],_=>exact⟨u,v,rfl⟩
  simp only[aEv,List.map_nil,List.cons.injEq,and_true]at hw1
  obtain⟨⟨⟨s0⟩⟩,c0,x0,_⟩:=DataW.trod_string hs f0
  obtain⟨n0,c1,x1,_⟩:=DataW.trod_int hi f1
  have e0:s0=z.1:=by
   have q:=hw1.1
   rw[show u.1=.lit (.string s0) from congrArg Prod.fst x0]at q
   simpa using q
  have e1:n0=z.2:=by
   have q:=hw1.2
   rw[show v.1=.lit (.int .i64 n0) from congrArg Prod.fst x1]at q
   simpa using q
  subst e0;subst e1;generalize (cs.drop (i*2)).take 2=l at hlw c0 c1
  match l,hlw with
  | [g0,g1],_ =>
   simp at c0 c1
   rw[c0,c1]
 exact aAZ zs cs (by omega) each
theorem forms_of_laid {W:World}(h:laidMetH Tryz.prog laid3 W):iQ W.heap:=by
 rw[MakeChecks.laidMetH_plain _ _ _ (by kernel_rfl)]at h
 have h2:=laidMet.tail (laidMet.tail (laidMet.tail (laidMet.tail (laidMet.tail (laidMet.tail h)))))
 obtain⟨ps,⟨g',t',cs,fuel,p,q,hg',ht',hvar,hd,_,_⟩,_⟩:=h2
 obtain rfl:=Option.some.inj (gForms.symm.trans hg');obtain rfl:=Option.some.inj (tForms.symm.trans ht');have e:Rows.laid_cleanse_printer_forms (H:=Unit)=.agg (formsL.map fun z=>.agg [.lit (.string z.1),.lit (.int .i64 z.2)]):=by rfl
 rw[e]at hd
 have hc:=aBq Tryz.underlying195 Tryz.underlying194 ⟨_,_,rfl,rfl,rfl,rfl,rfl,rfl,rfl⟩ Tryz.underlying9 Tryz.underlying3 cStr cInt cForm cForms hd;intro i hi
 have:=World.var?_cell gForms hvar i
 rw[jQ]at this
 rw[this,← (show cs.toList=aDL from hc)]
 simp
theorem door_met (os:Os)(args:Array Value):laidMetH Tryz.prog laid3 ((World.doorLaid Tryz.prog 400 os).forCall (fun _ _=>0) ⟨#[],args,[]⟩).memory :=
 laidMetH_of_parts3 (fuel:=8) (laidMet_of_run' 8 (by kernel_rfl) (by kernel_rfl)) (by kernel_rfl) (by kernel_rfl)
end Go.Proofs.YtohlogbnpfofpaaGreatDoor
namespace Go.Proofs.YtohlogbnpfofpaaGreatDoor
open Go StillVC
def clr1 (x:It):It:={ x with cols:=[],names:=[] }
def clr2 (x:It):It:={ x with n:=0 }
def aBe (x:It):It:={ x with table:=[],attr:=[],by_:=0,n:=if 3≤x.by_ then 0 else x.n,m:=if x.by_=4 then 0 else x.m }
def clr4 (x:It):It:={ x with table:=[],n:=0,terms:=[] }
def clr5 (x:It):It:={ x with table:=[],attr:=[],by_:=0 }
def clr6 (x:It):It:={ x with table:=[],names:=[] }
def clr7 (x:It):It:={ x with table:=[],names:=[],attr:=[],fixed:=[] }
def clr8 (x:It):It:={ x with table:=[],attr:=[],other:=[],oattr:=[] }
def clr9 (x:It):It:={ x with vars:=[],conds:=[] }
def clr10 (x:It):It:={ x with expr:=ex0 }
def eI (x:It):It :=
 if x.kind=1 then clr1 x else if x.kind=2 then clr2 x else if x.kind=3 then aBe x else if x.kind=4 then clr4 x else if x.kind=5 then clr5 x
 else if x.kind=6 then clr6 x else if x.kind=7 then clr7 x else if x.kind=8 then clr8 x else if x.kind=9 then clr9 x else clr10 x
def xV (x:It):Bool:=match x.expr with
 | .mk k tb ks cs ns a as_ g _=>decide ((x.cols=[]∧x.names=[]∧x.terms=[]∧x.fixed=[]∧x.vars=[]∧x.conds=[]∧ks=[]∧cs=[]∧ns=[]) ∧
   (x.name=[]∧x.table=[]∧x.attr=[]∧x.other=[]∧x.oattr=[]∧tb=[]∧a=[]∧as_=[])∧x.by_=0∧x.n=0∧x.m=0∧k=0∧g=0)
def dP (x:It):It:=if x.kind=5 then x else { x with name:=[] }
def part1 (x:It):Option (List Pc):=aG [some [aL [] [40]],dG mV [] x.cols,some [aL [] [41],aD [32] [107,101,121]],dG bB [32] x.names]
def part2 (x:It):Option (List Pc):=aG [some [aD [32] [116,114,117,115,116]],iD [32] x.n]
def part3 (x:It):Option (List Pc):=aG [some [aD [32] [111,110]],eB x.table x.attr,some [aD [32] [98,121]],fZ x.by_ [[101,120,97,99,116],[116,111,107,101,110],[112,114,101,102,105,120],[115,107,101,116,99,104]],(if 3≤x.by_ then iD [32] x.n else some []),(if x.by_=4 then iD [32] x.m else some [])]
def part4 (x:It):Option (List Pc):=aG ([some [aD [32] [111,110]],bB [32] x.table,some [aD [32] [97,116]],iD [32] x.n,some [aL [32] [123]]]++x.terms.map bG)
def part5 (x:It):Option (List Pc):=aG [eB x.table x.attr,some [aD [32] [98,121]],fZ x.by_ [[108,97,116,101,115,116],[109,111,115,116],[116,114,117,115,116,101,100],[108,111,110,103,101,115,116],[108,101,97,115,116],[103,114,101,97,116,101,115,116]]]
def part6 (x:It):Option (List Pc):=aG [some [aD [32] [111,110]],bB [32] x.table,some [aL [] [40]],dG bB [] x.names,some [aL [] [41]]]
def part7 (x:It):Option (List Pc):=aG [some [aD [32] [111,110]],bB [32] x.table,some [aL [] [40]],dG bB [] x.names,some [aL [] [41],aD [32] [116,111]],bB [32] x.attr,uL x.fixed]
def part8 (x:It):Option (List Pc):=aG [eB x.table x.attr,some [aD [32] [105,110]],eB x.other x.oattr]
def part9 (x:It):Option (List Pc):=aG [dG (fun _=>rJ) [] x.vars,lE x.conds]
def aCU (x:It):Option (List Pc):=aG [some [aL [32] [61]],gM [32] x.expr]
theorem jY (x:It):dV x=if x.kind=1 then part1 x else if x.kind=2 then part2 x else if x.kind=3 then part3 x else if x.kind=4 then part4 x else if x.kind=5 then part5 x else if x.kind=6 then part6 x else if x.kind=7 then part7 x else if x.kind=8 then part8 x else if x.kind=9 then part9 x else aCU x:=rfl
theorem aBz {α:Type}{l:List α}:l.length=0↔l=[]:=aEl
theorem empty_bare {x:It}(h1:1≤x.kind)(h10:x.kind≤10):xV (eI (dP x))=(fN x&&(decide (x.kind=10)||gR x.expr)):=by
 obtain⟨k,nm,off,tb,at_,cols,nms,by_,n,m,tms,oth,oat,fx,vr,cd,⟨ek,etb,eks,ecs,ens,ea,eas,eg,eo⟩⟩:=x
 simp only at h1 h10
 rw[Bool.eq_iff_iff]
 have:k=1∨k=2∨k=3∨k=4∨k=5∨k=6∨k=7∨k=8∨k=9∨k=10:=by omega
 rcases this with rfl|rfl|rfl|rfl|rfl|rfl|rfl|rfl|rfl|rfl <;>
  simp only[dP,eI,clr1,clr2,aBe,clr4,clr5,clr6,clr7,clr8,clr9,clr10,xV,fN,gR,ex0,aBz,decide_eq_true_eq,aD8,aES]<;>simp<;>exact⟨fun h=>by simp_all,fun h=>by simp_all⟩
def IEnds (B:Base)(b bx:Nat)(bs:aBs)(k:Int)(c:Nat)(cs:aVs)(o:Option (List Pc)):Ending→Heap→Prop :=
 Ends (fun r h'=>∃ ps p' v',o=some ps∧r=.tuple #[]∧cW b p'∧(bK ps).length≤c∧ps.length≤c∧Own B [box b [p',v',.int .i64 (k+ps.length)] 58,row v' 5 1 (bs++bK ps).length (bytes (bs++bK ps)),box bx cs 44] h')
  fun q h'=>o=none∧q=xZ∧Own B [] h'
section
variable {g : FuncId} {args s : aVs} {B : Base} {L : List Item} {b bx i : Nat} {p v : Value} {k : Int} {bs : aBs} {h : Heap} {K : KK} {Q : QQ} {cs : aVs}
theorem IEnds.done {c:Nat}{opt:Option (List Pc)}{ps:List Pc}{bs':aBs}{k':Int}(hq:opt=some ps)(o:Own B [box b [p,v,.int .i64 k'] 58,row v 5 1 bs'.length (bytes bs'),box bx cs 44] h)(hp:cW b p)(hb:bs'=bs++bK ps)(hk:k'=k+ps.length)
  (hc:bs'.length≤bs.length+c) (hc2:k'≤k+c):IEnds B b bx bs k c cs opt (.returned (.tuple #[])) h:=by
 subst hb;subst hk
 rw[aD9]at hc
 exact⟨ps,p,v,hq,rfl,hp,by omega,by omega,o⟩
end
theorem kL {n:Int}{ws:List aBs}(h:1≤n∧n≤ws.length):fZ n ws=some [aD [32] (ws.getD (n - 1).toNat [])]:=if_pos h
theorem mO {n:Int}{ws:List aBs}(h:¬ (1≤n∧n≤ws.length)):fZ n ws=none:=if_neg h
theorem lD {ws:List aBs}{M:Nat}(h:∀ s∈ws,s.length≤M)(i:Nat):(ws.getD i []).length≤M:=by
 rw[aEt]
 cases hi:ws[i]? with
 | none=>simp
 | some s=>exact h s (aD6 hi)
theorem emptyB_eq (x:It)(k:Int)(tb:aBs)(ks:List Ex)(cs:List Cnd)(ns:List aBs)(a s:aBs)(g:Int)(o:Nat)(he:x.expr=.mk k tb ks cs ns a s g o) :
  xV x=decide ((x.cols.length:Int)+x.names.length+x.terms.length+x.fixed.length+x.vars.length+x.conds.length+ks.length+cs.length+ns.length=0∧x.name++x.table++x.attr++x.other++x.oattr++tb++a++s=[]∧x.by_=0∧x.n=0∧x.m=0∧k=0∧g=0):=by
 unfold xV
 rw[he]
 apply decide_eq_decide.2
 constructor
 ·rintro⟨⟨h1,h2,h3,h4,h5,h6,h7,h8,h9⟩,⟨t1,t2,t3,t4,t5,t6,t7,t8⟩,r⟩
  rw[h1,h2,h3,h4,h5,h6,h7,h8,h9,t1,t2,t3,t4,t5,t6,t7,t8]
  exact⟨by simp,rfl,r⟩
 ·rintro⟨h,t,r⟩
  simp only[List.append_eq_nil_iff]at t
  obtain⟨⟨⟨⟨⟨⟨⟨t1,t2⟩,t3⟩,t4⟩,t5⟩,t6⟩,t7⟩,t8⟩:=t
  exact⟨⟨aBz.1 (by omega),aBz.1 (by omega),aBz.1 (by omega),aBz.1 (by omega),aBz.1 (by omega),aBz.1 (by omega),aBz.1 (by omega),aBz.1 (by omega),aBz.1 (by omega)⟩,⟨t1,t2,t3,t4,t5,t6,t7,t8⟩,r⟩
theorem vJ (x:It)(c:aVs)(h:Heap)(hOK:nM x)(hc:itH h c x):cK Tryz.prog 35 [.agg ⟨c⟩] h fun r h'=>r=.bool (xV x)∧Own h [] h':=by
 obtain⟨z,vc,vn,vt,vf,vv,vd,e0,e1,e2,e3,e4,e5,e6,e7,e8,rfl,q1,q2,q3,q4,q5,q6,rx⟩:=hc
 obtain⟨bkind,bname,btable,battr,bcols,bnames,bby,bn,bm,bterms,both,boat,bfixed,bvars,bconds,bexpr,lcols,lnames,lterms,lfixed,lvars,lconds⟩:=hOK
 obtain⟨kind,name,off,table,attr,cols,names,by_,n,m,terms,other,oattr,fixed,vars,conds,⟨k,tb,ks,cs,ns,a,s,g,o⟩⟩:=x
 have hem:=emptyB_eq ⟨kind,name,off,table,attr,cols,names,by_,n,m,terms,other,oattr,fixed,vars,conds,⟨k,tb,ks,cs,ns,a,s,g,o⟩⟩ k tb ks cs ns a s g o rfl
 rw[hem]
 clear hem
 rw[lH]at bexpr
 rw[sS]at rx
 dsimp only at *
 obtain⟨bk,btb,bks,bcs,bns,ba,bs_,bg,lk,lc,ln⟩:=bexpr
 obtain⟨wk,wc,wn,wz,hcv,g1,g2,gx,g3,_⟩:=rx
 obtain⟨h1,h2,rfl⟩:=g1.isS
 obtain⟨h3,h4,rfl⟩:=g2.isS
 obtain⟨h5,h6,rfl⟩:=g3.isS
 unfold wA at hcv
 simp only[List.cons.injEq,and_true]at hcv
 obtain⟨rfl,rfl,rfl,rfl,rfl,rfl,rfl,rfl,rfl⟩:=hcv
 obtain⟨y1,z1,rfl⟩:=q1.isS
 obtain⟨y2,z2,rfl⟩:=q2.isS
 obtain⟨y3,z3,rfl⟩:=q3.isS
 obtain⟨y4,z4,rfl⟩:=q4.isS
 obtain⟨y5,z5,rfl⟩:=q5.isS
 obtain⟨y6,z6,rfl⟩:=q6.isS
 clear q1 q2 q3 q4 q5 q6 g1 g2 g3;unfold gF;dsimp only;refine aDX Tryz.func35 rfl Tryz.ntmps35 (by kernel_rfl) ?_;have o0:=Own.refl h;(refine aDz o0 rfl ?_;intro b10 m10 o10);refine rR (fA aT rfl rfl rfl ?_);refine rR (aDe o10 0 rfl rD rfl rfl ?_);refine rR (aDn rfl oW ?_);refine rR (fA aT rfl rfl rfl ?_);refine rR (aDe o10 0 rfl fG rfl rfl ?_);refine rR (aDn rfl aJ ?_);refine aDY (by omega) (by omega) ?_;refine rR (fA aT rfl rfl rfl ?_);refine rR (aDe o10 0 rfl rK rfl rfl ?_);refine rR (aDn rfl rP ?_);refine aDY (by omega) (by omega) ?_;refine rR (fA aT rfl rfl rfl ?_);refine rR (aDe o10 0 rfl pJ rfl rfl ?_);refine rR (aDn rfl oN ?_);refine aDY (by omega) (by omega) ?_;refine rR (fA aT rfl rfl rfl ?_);refine rR (aDe o10 0 rfl rC rfl rfl ?_);refine rR (aDn rfl oV ?_);refine aDY (by omega) (by omega) ?_;refine rR (fA aT rfl rfl rfl ?_);refine rR (aDe o10 0 rfl nA rfl rfl ?_);refine rR (aDn rfl nI ?_);refine aDY (by omega) (by omega) ?_;refine rR (fA aT rfl rfl rfl ?_);refine rR (fA aM rfl rfl rfl ?_);refine rR (aDe o10 0 rfl dC rfl rfl ?_);refine rR (aDn rfl cE ?_);refine aDY (by omega) (by omega) ?_;refine rR (fA aT rfl rfl rfl ?_);refine rR (fA aM rfl rfl rfl ?_);refine rR (aDe o10 0 rfl nA rfl rfl ?_);refine rR (aDn rfl nI ?_);refine aDY (by omega) (by omega) ?_;refine rR (fA aT rfl rfl rfl ?_);refine rR (fA aM rfl rfl rfl ?_);refine rR (aDe o10 0 rfl fG rfl rfl ?_);refine rR (aDn rfl aJ ?_);refine aDY (by omega) (by omega) ?_;refine rR (fA aT rfl rfl rfl ?_);refine rR (aDe o10 0 rfl aO rfl rfl ?_)
 refine rR (fA aT rfl rfl rfl ?_);refine rR (aDe o10 0 rfl aO rfl rfl ?_);refine rR (aDm rfl rfl (by first|omega|(simp;omega)) ?_);refine rR (fA aT rfl rfl rfl ?_);refine rR (aDe o10 0 rfl aO rfl rfl ?_);refine rR (aDm rfl rfl (by first|omega|(simp;omega)) ?_);refine rR (fA aT rfl rfl rfl ?_);refine rR (aDe o10 0 rfl aO rfl rfl ?_);refine rR (aDm rfl rfl (by first|omega|(simp;omega)) ?_);refine rR (fA aT rfl rfl rfl ?_);refine rR (aDe o10 0 rfl aO rfl rfl ?_);refine rR (aDm rfl rfl (by first|omega|(simp;omega)) ?_);refine rR (fA aT rfl rfl rfl ?_);refine rR (fA aM rfl rfl rfl ?_);refine rR (aDe o10 0 rfl aO rfl rfl ?_);refine rR (aDm rfl rfl (by first|omega|(simp;omega)) ?_);refine rR (fA aT rfl rfl rfl ?_);refine rR (fA aM rfl rfl rfl ?_);refine rR (aDe o10 0 rfl aO rfl rfl ?_);refine rR (aDm rfl rfl (by first|omega|(simp;omega)) ?_);refine rR (fA aT rfl rfl rfl ?_);refine rR (fA aM rfl rfl rfl ?_);refine rR (aDe o10 0 rfl aO rfl rfl ?_);refine rR (aDm rfl rfl (by first|omega|(simp;omega)) ?_);refine aDR (fun c67=>?_) (fun c67=>?_);refine aDR (fun c68=>?_) (fun c68=>?_);refine rR (fA aT rfl rfl rfl ?_);refine rR (aDe o10 0 rfl aY rfl rfl ?_);refine aDR (fun c71=>?_) (fun c71=>?_);refine rR (fA aT rfl rfl rfl ?_);refine rR (aDe o10 0 rfl aY rfl rfl ?_);refine aDR (fun c74=>?_) (fun c74=>?_);refine rR (fA aT rfl rfl rfl ?_);refine rR (aDe o10 0 rfl aY rfl rfl ?_);refine aDR (fun c77=>?_) (fun c77=>?_);refine rR (fA aT rfl rfl rfl ?_);refine rR (fA aM rfl rfl rfl ?_);refine rR (aDe o10 0 rfl aY rfl rfl ?_)
 refine aDR (fun c81=>?_) (fun c81=>?_);refine rR (fA aT rfl rfl rfl ?_);refine rR (fA aM rfl rfl rfl ?_);refine rR (aDe o10 0 rfl aY rfl rfl ?_);refine aDZ rfl ?_
 rotate_left
 refine aDZ rfl ?_
 rotate_left
 refine aDZ rfl ?_
 rotate_left
 refine aDZ rfl ?_
 rotate_left
 refine aDZ rfl ?_
 rotate_left
 refine aDZ rfl ?_
 rotate_left
 refine aDZ rfl ?_
 all_goals first
  | exact⟨congrArg Value.bool (decide_eq_false (fun h=>by obtain⟨h1,h2,h3,h4,h5,h6,h7⟩:=h;first|contradiction|omega)).symm,Own.sel ‹_› [] rfl⟩
  | exact⟨congrArg Value.bool (decide_eq_decide.2 ⟨fun hg=>⟨by omega,by assumption,by omega,by omega,by omega,by omega,hg⟩,fun hh=>hh.2.2.2.2.2.2⟩),Own.sel ‹_› [] rfl⟩
theorem StillVC.buildG {pr:Bool}{P:Program}{ty:TypeId}{s:aVs}{h:Heap}{K:KK}{t e:TypeId}{n by_ byA:Nat}{z:Value}{zero vs:aVs}{parts:List (Nat×Operand)}(hT:ArrT P t e n z by_)(hZ:TyI P t true zero byA)
  (hf:Instr.fill (fun i=>some (i*1,1)) zero.toArray (parts.map fun p=>(p.1,ev s p.2))=some vs.toArray) (hk:K (.agg ⟨vs⟩) false h):StillVC pr P (.build t ⟨parts⟩) ty s h K:=by
 refine .pure' _ false (fun w=>?_) hk
 simp only[Nat.mul_one]at hf
 obtain⟨inf,z',hi,_,hz,hc,_⟩:=hZ.info
 have hparts:((⟨parts⟩:Array (Nat×Operand)).map fun x=>match x with|(i,x)=>(i,ev s x)).toList=parts.map fun p=>(p.1,ev s p.2):=by simp
 have key:(Instr.build t ((⟨parts⟩:Array (Nat×Operand)).map fun x=>match x with|(i,x)=>(i,ev s x))).run P w=.ok (.agg vs.toArray) w:=by
  unfold Instr.build
  simp only[Sem.run_bind,zeroValue,typeInfo,run_program,hi,hz,Sem.run_pure,Result.andThen_ok,run_underlying hT.arr,hT.el.sizeOf,hc,hparts]
  simp[hf]
 simp only[List.map_toArray]at key
 simp[execOp,key]
def wrF (f:FuncId):Value:=.func (.func f) #[] #[]
def wrFs:aVs:=[.nilFunc,wrF 70,wrF 71,wrF 72,wrF 73,wrF 74,wrF 75,wrF 76,wrF 77,wrF 78,wrF 79]
theorem uW (h:Heap):cK Tryz.prog 34 [] h fun r h'=>r=.agg ⟨wrFs⟩∧Own h [] h':=by
 refine aDX Tryz.func34 rfl Tryz.ntmps34 (by kernel_rfl) ?_;have o0:=Own.refl h;(refine aDP o0 ty80 ?_;intro b10 m10 o10);refine rR (buildG (vs:=wrFs) arr80 ty80 (by kernel_rfl) ?_);unfold wrFs wrF;(refine aDh o10 0 rfl ty80 rfl (by decide) (aI ⟨rfl,rfl⟩ ?_);intro m20 o20);refine aDs rfl o20 0 rfl ty80 rfl rfl ?_
 exact⟨rfl,o20.sel [] rfl⟩
theorem aAC (i:Nat):(cJ.getD i []).length≤7:=by
 by_cases h:i<7
 ·have:i=0∨i=1∨i=2∨i=3∨i=4∨i=5∨i=6:=by omega
  rcases this with rfl|rfl|rfl|rfl|rfl|rfl|rfl<;>decide
 ·rw[aEt,List.getElem?_eq_none (by show 7≤i;omega)]
  decide
theorem mD:∀ {l:List Ex}{i:Nat}{x:Ex},l[i]?=some x→bZ x≤cC l
 | [],_,_,h=>by simp at h
 | y::l,0,x,h=>by simp at h;subst h;rw[cC];exact Nat.le_max_left _ _
 | y::l,i+1,x,h=>by
  have:=mD (l:=l) (i:=i) (x:=x) (by simpa using h)
  rw[cC]
  exact aEm this (Nat.le_max_right _ _)
theorem pY:∀(x:Ex),1≤bZ x
 | .mk _ _ _ _ _ _ _ _ _=>by rw[bZ];omega
def aBp (b n:Nat):Prop:=∀(x:Ex)(B:Base)(c:aVs)(be:aBs)(lev:Int)(p v:Value)(k:Int)(bs:aBs)(h:Heap)(_:kU x≤n)(_:lH x)(_:sS B.h c x)(_:cW b p)(_:be=[]∨be=[32])(_:0≤lev∧lev+bZ x≤1000000000000)(_:kJ B.h)(_:iQ B.h)
  (_:Own B [box b [p,v,.int .i64 k] 58,row v 5 1 bs.length (bytes bs)] h) (_:bs.length+2000*fQ x≤50000000000000) (_:0≤k∧k+2000*fQ x≤50000000000000),
  Spec Tryz.prog 128 [.pointer (some ⟨b,0,none⟩),.string ⟨⟨be⟩⟩,.agg ⟨c⟩,.int .i64 lev] h (XEnds B b bs k (2000*fQ x) (gM be x) (lev+bZ x - 1))
theorem prExpr_cT (b n:Nat)(hIH:aBp b n)(kd:Int)(tb:aBs)(ks:List Ex)(cs:List Cnd)(ns:List aBs)(a s:aBs)(g:Int)(off:Nat)(hcls:kd<2∨8<kd)(B:Base)(c:aVs)(be:aBs)(lev:Int)(p v:Value)(k:Int)(bs:aBs)(h:Heap)(hd:kU (.mk kd tb ks cs ns a s g off)≤n+1)(hOK:lH (.mk kd tb ks cs ns a s g off))(hc:sS B.h c (.mk kd tb ks cs ns a s g off))(hp:cW b p)(hbe:be=[]∨be=[32])(hlev:0≤lev∧lev+bZ (.mk kd tb ks cs ns a s g off)≤1000000000000)(hT:kJ B.h)(hF:iQ B.h)
  (o:Own B [box b [p,v,.int .i64 k] 58,row v 5 1 bs.length (bytes bs)] h) (hl:bs.length+2000*fQ (.mk kd tb ks cs ns a s g off)≤50000000000000) (hk:0≤k∧k+2000*fQ (.mk kd tb ks cs ns a s g off)≤50000000000000) :
  Spec Tryz.prog 128 [.pointer (some ⟨b,0,none⟩),.string ⟨⟨be⟩⟩,.agg ⟨c⟩,.int .i64 lev] h (XEnds B b bs k (2000*fQ (.mk kd tb ks cs ns a s g off)) (gM be (.mk kd tb ks cs ns a s g off)) (lev+bZ (.mk kd tb ks cs ns a s g off) - 1)):=by
  rw[kU]at hd
  rw[lH]at hOK
  rw[sS]at hc
  rw[fQ]at hl hk ⊢
  rw[bZ]at hlev ⊢
  rw[show lev+((cC ks+1:Nat):Int) - 1=lev+cC ks by omega]
  obtain⟨bk,btb,bks,bcs,bns,ba,bs_,bg,lk,lc,ln⟩:=hOK
  obtain⟨vk,vc,vn,z,rfl,q1,q2,xs,q3,rk⟩:=hc
  rw[iL]at q2
  obtain⟨e1,f1,rfl⟩:=q1.isS
  obtain⟨e2,f2,rfl⟩:=q2.isS
  obtain⟨e3,f3,rfl⟩:=q3.isS
  unfold wA;have hxs:xs.length=ks.length:=oG rk;have hbel:be.length≤1:=by rcases hbe with rfl|rfl<;>simp
  refine aDX Tryz.func128 rfl Tryz.ntmps128 (by kernel_rfl) ?_;by_cases hkd:1≤kd∧kd≤8
  case neg =>
   have hq:gM be (.mk kd tb ks cs ns a s g off)=none:=by rw[gM,if_neg (fun h=>hkd ⟨h.1,h.2.1⟩)]
   by_cases h1:1≤kd
   ·(refine aDz o rfl ?_;intro b10 m10 o10)
    refine aDU [0,2,3,4,6,7,8,9,11,12,14,15,17,18] [1,5,10,13,16] [19] [0,1,2,3,4,5,6,7,8,9,10,11,12,13,14,15,16,17,18,19] mixed (by kernel_rfl) rfl (fun _ _ _ _ h=>h) ?_;refine fA aM rfl rfl rfl ?_;refine aDe o10 2 rfl aY rfl rfl ?_;refine aDR (fun c13=>?_) (fun hc=>absurd (by omega) hc);refine fA aM rfl rfl rfl ?_;refine aDe o10 2 rfl aY rfl rfl ?_;refine aDR (fun hc=>absurd hc (by omega)) (fun c16=>?_);refine aDj ‹_› (aE _ _) (fun e1 m2 _ oq=>by cases e1) fun e1 m2 oq=>?_
    exact⟨hq,rfl,oq⟩
   ·(refine aDz o rfl ?_;intro b30 m30 o30)
    refine aDU [0,2,3,4,6,7,8,9,11,12,14,15,17,18] [1,5,10,13,16] [19] [0,1,2,3,4,5,6,7,8,9,10,11,12,13,14,15,16,17,18,19] mixed (by kernel_rfl) rfl (fun _ _ _ _ h=>h) ?_;refine fA aM rfl rfl rfl ?_;refine aDe o30 2 rfl aY rfl rfl ?_;refine aDR (fun hc=>absurd hc (by omega)) (fun c33=>?_);refine aDj ‹_› (aE _ _) (fun e1 m2 _ oq=>by cases e1) fun e1 m2 oq=>?_
    exact⟨hq,rfl,oq⟩
  have hfa:=pU hF kd hkd.1 hkd.2;have hf1:=hfa.1;(refine aDz o rfl ?_;intro b50 m50 o50);refine aDU [0,2,3,4,6,7,8,9,11,12,14,15,17,18] [1,5,10,13,16] [19] [0,1,2,3,4,5,6,7,8,9,10,11,12,13,14,15,16,17,18,19] mixed (by kernel_rfl) rfl (fun _ _ _ _ h=>h) ?_;refine fA aM rfl rfl rfl ?_;refine aDe o50 2 rfl aY rfl rfl ?_;refine aDR (fun c53=>?_) (fun hc=>absurd (by omega) hc);refine fA aM rfl rfl rfl ?_;refine aDe o50 2 rfl aY rfl rfl ?_;refine aDR (fun c56=>?_) (fun hc=>absurd (by omega) hc);refine fA aM rfl rfl rfl ?_;refine aDe o50 2 rfl dC rfl rfl ?_;refine aDn rfl cE ?_;refine fA aM rfl rfl rfl ?_;refine aDe o50 2 rfl aY rfl rfl ?_;refine aDx Tryz.underlying195 qX rfl rfl (by omega) (by omega) ?_;refine fA rO rfl rfl rfl ?_;refine load1 aY rfl (o50.old hf1) ?_;refine aDj ‹_› (aE _ _) (fun e1 m2 oc oq=>?_) fun e1 m2 oq=>?_
  case refine_2 =>
   have e1:=of_decide_eq_false e1;have hq:gM be (.mk kd tb ks cs ns a s g off)=none:=by rw[gM,if_neg (fun h=>e1 (by rw[h.2.2.1]))]
   exact⟨hq,rfl,oq⟩
  have hkl:ks.length=fU kd:=by have:=of_decide_eq_true e1;omega
  clear e1 oc;by_cases hkone:kd=1
  ·subst hkone
   obtain rfl:ks=[]:=aEl.1 hkl;have hexQ:gM be (.mk 1 tb [] cs ns a s g off)=if fC 1 tb cs ns a s g=true then bB be tb else none:=by
    rw[gM]
    by_cases hb:fC 1 tb cs ns a s g=true
    ·rw[if_pos ⟨by decide,by decide,rfl,hb⟩,if_pos rfl,if_pos hb]
    ·rw[if_neg (fun h=>hb h.2.2.2),if_neg hb]
   have hB:fC 1 tb cs ns a s g=true↔cs.length=0∧ns.length=0∧a=[]∧s=[]∧g=0:=by simp[fC]
   refine rR (aDi oq 2 rfl aU rfl rfl rfl ?_);(refine aDP oq aU ?_;intro b101 m101 o101);(refine aDh o101 3 rfl aU rfl (by decide) (aI ⟨rfl,rfl⟩ ?_);intro m102 o102);refine rR (fA aM rfl rfl rfl ?_);(refine aDN o102 3 rfl aY rfl (by simp) (aI ⟨rfl,rfl⟩ ?_);intro m104 o104);refine rR (fA aM rfl rfl rfl ?_);(refine aDN o104 3 rfl dC rfl (by simp) (aI ⟨rfl,rfl⟩ ?_);intro m106 o106);refine rR (fA aM rfl rfl rfl ?_);(refine aDN o106 3 rfl aY rfl (by simp) (aI ⟨rfl,rfl⟩ ?_);intro m108 o108);refine rR (fA aM rfl rfl rfl ?_);refine rR (aDe o108 2 rfl aY rfl rfl ?_);refine aDS ?_;refine aDU [0,1,2,3,4,7] [5] [6,8,9] [0,1,2,3,4,5,6,7,8,9] mixed (by kernel_rfl) rfl (fun _ _ _ _ h=>h) ?_;refine nC rfl ?_;refine fA bS rfl rfl rfl ?_;refine fA aM rfl rfl rfl ?_;refine aDe o108 2 rfl aO rfl rfl ?_;refine aDj ‹_› (bM tb _ btb) (fun en m3 oc oq=>?_) fun en m3 oq=>?_
   case refine_2 =>
    exact⟨hexQ.trans (by rw[cZ en];split<;>rfl),rfl,oq⟩
   have hnl:=cU en;clear oc;refine aDm rfl rfl (by first|omega|(simp;omega)) ?_;(refine aDO oq aJ aO rfl rfl (by decide) (aI rfl ?_);intro b121 m121 o121);refine aH [be++tb] 1 30 [2,3] (i:=4) ‹_› rfl rfl rfl hp rfl (by omega) (by omega) (by simp;omega) (by omega) (by omega) (fun p1 v1 bs1 k1 m1 hp1 hb1 hk1 hl1 oq=>?_);have o4:Own B [box b [p1,v1,.int .i64 k1] 58,row v1 5 1 bs1.length (bytes bs1),box b50 [.int .i64 1,.string ⟨⟨tb⟩⟩,.slice e3 ([]:List Ex).length f3,.slice e1 cs.length f1,.slice e2 ns.length f2,.string ⟨⟨a⟩⟩,.string ⟨⟨s⟩⟩,.int .i64 g,.int .i64 z] 42,box b101 [.int .i64 0,.string ⟨⟨tb⟩⟩,.slice none 0 0,.slice e1 cs.length f1,.slice e2 ns.length f2,.string ⟨⟨a⟩⟩,.string ⟨⟨s⟩⟩,.int .i64 g,.int .i64 0] 42] m1:=oq;clear oq
   rw[show lev+((cC []:Nat):Int)=lev by simp[cC]]
   refine rR (fA aM rfl rfl rfl ?_);(refine aDN o4 3 rfl aO rfl (by simp) (aI ⟨rfl,rfl⟩ ?_);intro m151 o151);refine rR (fA aM rfl rfl rfl ?_);refine rR (aDe o151 2 rfl dC rfl rfl ?_);refine rR (aDn rfl cE ?_);refine aD1 [10,11,12,67,68,69,70,71,72,73,74,75,76,77,78,79,80,81,82,83,84,85,86,87,88,89,90] [10,67] (fun vs' hh=>vs'=[.int .i64 lev,.int .i64 0]∧Own B [box b [p1,v1,.int .i64 k1] 58,row v1 5 1 bs1.length (bytes bs1),box b50 [.int .i64 1,.string ⟨⟨tb⟩⟩,.slice e3 ([]:List Ex).length f3,.slice e1 cs.length f1,.slice e2 ns.length f2,.string ⟨⟨a⟩⟩,.string ⟨⟨s⟩⟩,.int .i64 g,.int .i64 z] 42,box b101 [.int .i64 0,.string ⟨⟨[]⟩⟩,.slice none 0 0,.slice e1 cs.length f1,.slice e2 ns.length f2,.string ⟨⟨a⟩⟩,.string ⟨⟨s⟩⟩,.int .i64 g,.int .i64 0] 42] hh) (fun vs' _=>0) ?_ ?_
   ·exact⟨rfl,o151⟩
   rintro vs' junk hh ⟨rfl,oh⟩;clear o151 o4;refine aDT ?_;refine rR (fA aM rfl rfl rfl ?_);refine rR (aDe oh 2 rfl aY rfl rfl ?_);refine aDS ?_;refine rR (fA aM rfl rfl rfl ?_);refine rR (aDe oh 2 rfl aY rfl rfl ?_);refine aDT ?_;refine rR (fA aM rfl rfl rfl ?_);refine rR (aDe oh 3 rfl aO rfl rfl ?_);refine aDS ?_;refine rR (fA aM rfl rfl rfl ?_);refine rR (aDe oh 3 rfl nA rfl rfl ?_);refine rR (aDn rfl nI ?_);refine aDR (fun c169=>?_) (fun c169=>?_);refine rR (fA aM rfl rfl rfl ?_);refine rR (aDe oh 3 rfl fG rfl rfl ?_);refine rR (aDn rfl aJ ?_);refine aDR (fun c173=>?_) (fun c173=>?_);refine rR (fA aM rfl rfl rfl ?_);refine rR (aDe oh 3 rfl aO rfl rfl ?_);refine aDR (fun c176=>?_) (fun c176=>?_);refine rR (fA aM rfl rfl rfl ?_);refine rR (aDe oh 3 rfl aO rfl rfl ?_);refine aDR (fun c179=>?_) (fun c179=>?_);refine rR (fA aM rfl rfl rfl ?_);refine rR (aDe oh 3 rfl aY rfl rfl ?_)
   any_goals (refine aDj (B:=B) ‹_› (aE false _) (fun e8 m8 _ oq=>by cases e8) fun e8 m8 oq=>?_;exact⟨hexQ.trans (if_neg fun hb=>by obtain⟨x0,x1,x2,x3,x4⟩:=hB.1 hb;first|contradiction|omega),rfl,oq⟩)
   refine aDj (B:=B) ‹_› (aE _ _) (fun e8 m8 _ oq=>?_) fun e8 m8 oq=>?_
   case refine_2 =>
    have e8:=of_decide_eq_false e8
    exact⟨hexQ.trans (if_neg fun hb=>by obtain⟨x0,x1,x2,x3,x4⟩:=hB.1 hb;omega),rfl,oq⟩
   have e8:=of_decide_eq_true e8;have hbare:=hB.2 ⟨by omega,by omega,by assumption,by assumption,by omega⟩;refine aDZ rfl ?_;exact XEnds.done (hexQ.trans ((if_pos hbare).trans (aB en))) (oq.sel [0,1] rfl) hp1 (by rw[hb1];simp[bK,gE,wr,aD]) hk1 (by omega) (by omega)
  ·exact(by omega:False).elim
theorem prExpr_cD (b n:Nat)(hIH:aBp b n)(kd:Int)(tb:aBs)(ks:List Ex)(cs:List Cnd)(ns:List aBs)(a s:aBs)(g:Int)(off:Nat)(hcls:kd=4∨kd=5∨kd=6)(B:Base)(c:aVs)(be:aBs)(lev:Int)(p v:Value)(k:Int)(bs:aBs)(h:Heap)(hd:kU (.mk kd tb ks cs ns a s g off)≤n+1)(hOK:lH (.mk kd tb ks cs ns a s g off))(hc:sS B.h c (.mk kd tb ks cs ns a s g off))(hp:cW b p)(hbe:be=[]∨be=[32])(hlev:0≤lev∧lev+bZ (.mk kd tb ks cs ns a s g off)≤1000000000000)(hT:kJ B.h)(hF:iQ B.h)
  (o:Own B [box b [p,v,.int .i64 k] 58,row v 5 1 bs.length (bytes bs)] h) (hl:bs.length+2000*fQ (.mk kd tb ks cs ns a s g off)≤50000000000000) (hk:0≤k∧k+2000*fQ (.mk kd tb ks cs ns a s g off)≤50000000000000) :
  Spec Tryz.prog 128 [.pointer (some ⟨b,0,none⟩),.string ⟨⟨be⟩⟩,.agg ⟨c⟩,.int .i64 lev] h (XEnds B b bs k (2000*fQ (.mk kd tb ks cs ns a s g off)) (gM be (.mk kd tb ks cs ns a s g off)) (lev+bZ (.mk kd tb ks cs ns a s g off) - 1)):=by
  rw[kU]at hd
  rw[lH]at hOK
  rw[sS]at hc
  rw[fQ]at hl hk ⊢
  rw[bZ]at hlev ⊢
  rw[show lev+((cC ks+1:Nat):Int) - 1=lev+cC ks by omega]
  obtain⟨bk,btb,bks,bcs,bns,ba,bs_,bg,lk,lc,ln⟩:=hOK
  obtain⟨vk,vc,vn,z,rfl,q1,q2,xs,q3,rk⟩:=hc
  rw[iL]at q2
  obtain⟨e1,f1,rfl⟩:=q1.isS
  obtain⟨e2,f2,rfl⟩:=q2.isS
  obtain⟨e3,f3,rfl⟩:=q3.isS
  unfold wA;have hxs:xs.length=ks.length:=oG rk;have hbel:be.length≤1:=by rcases hbe with rfl|rfl<;>simp
  refine aDX Tryz.func128 rfl Tryz.ntmps128 (by kernel_rfl) ?_;by_cases hkd:1≤kd∧kd≤8
  case neg =>
   exact(by omega:False).elim
  have hfa:=pU hF kd hkd.1 hkd.2;have hf1:=hfa.1;(refine aDz o rfl ?_;intro b50 m50 o50);refine aDU [0,2,3,4,6,7,8,9,11,12,14,15,17,18] [1,5,10,13,16] [19] [0,1,2,3,4,5,6,7,8,9,10,11,12,13,14,15,16,17,18,19] mixed (by kernel_rfl) rfl (fun _ _ _ _ h=>h) ?_;refine fA aM rfl rfl rfl ?_;refine aDe o50 2 rfl aY rfl rfl ?_;refine aDR (fun c53=>?_) (fun hc=>absurd (by omega) hc);refine fA aM rfl rfl rfl ?_;refine aDe o50 2 rfl aY rfl rfl ?_;refine aDR (fun c56=>?_) (fun hc=>absurd (by omega) hc);refine fA aM rfl rfl rfl ?_;refine aDe o50 2 rfl dC rfl rfl ?_;refine aDn rfl cE ?_;refine fA aM rfl rfl rfl ?_;refine aDe o50 2 rfl aY rfl rfl ?_;refine aDx Tryz.underlying195 qX rfl rfl (by omega) (by omega) ?_;refine fA rO rfl rfl rfl ?_;refine load1 aY rfl (o50.old hf1) ?_;refine aDj ‹_› (aE _ _) (fun e1 m2 oc oq=>?_) fun e1 m2 oq=>?_
  case refine_2 =>
   have e1:=of_decide_eq_false e1;have hq:gM be (.mk kd tb ks cs ns a s g off)=none:=by rw[gM,if_neg (fun h=>e1 (by rw[h.2.2.1]))]
   exact⟨hq,rfl,oq⟩
  have hkl:ks.length=fU kd:=by have:=of_decide_eq_true e1;omega
  clear e1 oc;by_cases hkone:kd=1
  ·exact(by omega:False).elim
  ·have hexQ:gM be (.mk kd tb ks cs ns a s g off)=if fC kd tb cs ns a s g=true then aG [some [aD be (cJ.getD (kd - 2).toNat []),aL [] [40]],dD (eM gM) ks,dZ kd cs ns a s g,some [aL [] [41]]] else none:=by
    rw[gM]
    by_cases hb:fC kd tb cs ns a s g=true
    ·rw[if_pos ⟨hkd.1,hkd.2,hkl,hb⟩,if_neg hkone,if_pos hb,oE]
    ·rw[if_neg (fun h=>hb h.2.2.2),if_neg hb]
   have hf2:=hfa.2 hkone;have hol:=aAC (kd - 2).toNat;generalize cJ.getD (kd - 2).toNat []=opw at hexQ hf2 hol;clear hfa;refine rR (aDi oq 2 rfl aU rfl rfl rfl ?_);(refine aDP oq aU ?_;intro b201 m201 o201);(refine aDh o201 3 rfl aU rfl (by decide) (aI ⟨rfl,rfl⟩ ?_);intro m202 o202);refine rR (fA aM rfl rfl rfl ?_);(refine aDN o202 3 rfl aY rfl (by simp) (aI ⟨rfl,rfl⟩ ?_);intro m204 o204);refine rR (fA aM rfl rfl rfl ?_);(refine aDN o204 3 rfl dC rfl (by simp) (aI ⟨rfl,rfl⟩ ?_);intro m206 o206);refine rR (fA aM rfl rfl rfl ?_);(refine aDN o206 3 rfl aY rfl (by simp) (aI ⟨rfl,rfl⟩ ?_);intro m208 o208);refine rR (fA aM rfl rfl rfl ?_);refine rR (aDe o208 2 rfl aY rfl rfl ?_);refine aDR (fun hc=>absurd hc (by omega)) (fun c211=>?_);refine aDU [0,1,2,3,4,6,7,9] [5,8] [10,11] [0,1,2,3,4,5,6,7,8,9,10,11] mixed (by kernel_rfl) rfl (fun _ _ _ _ h=>h) ?_;refine nC rfl ?_;refine fA bS rfl rfl rfl ?_;refine fA aM rfl rfl rfl ?_;refine aDe o208 2 rfl aY rfl rfl ?_;refine aDx Tryz.underlying195 qX rfl rfl (by omega) (by omega) ?_;refine fA rO rfl rfl rfl ?_;refine load1 aO rfl (o208.old hf2) ?_;refine aDm rfl rfl (by first|omega|(simp;omega)) ?_;(refine aDO o208 aJ aO rfl rfl (by decide) (aI rfl ?_);intro b220 m220 o220);refine aH [be++opw,[40]] 2 30 [2,3] (i:=4) ‹_› rfl rfl rfl hp rfl (by omega) (by omega) (by simp;omega) (by omega) (by omega) (fun p1 v1 bs1 k1 m1 hp1 hb1 hk1 hl1 oq=>?_);have o4:Own B [box b [p1,v1,.int .i64 k1] 58,row v1 5 1 bs1.length (bytes bs1),box b50 [.int .i64 kd,.string ⟨⟨tb⟩⟩,.slice e3 ks.length f3,.slice e1 cs.length f1,.slice e2 ns.length f2,.string ⟨⟨a⟩⟩,.string ⟨⟨s⟩⟩,.int .i64 g,.int .i64 z] 42,box b201 [.int .i64 0,.string ⟨⟨tb⟩⟩,.slice none 0 0,.slice e1 cs.length f1,.slice e2 ns.length f2,.string ⟨⟨a⟩⟩,.string ⟨⟨s⟩⟩,.int .i64 g,.int .i64 0] 42] m1:=oq
   clear oq;refine rR (fA aM rfl rfl rfl ?_);refine rR (aDe o4 2 rfl dC rfl rfl ?_);refine rR (aDn rfl cE ?_);refine aD1 [10,11,12,67,68,69,70,71,72,73,74,75,76,77,78,79,80,81,82,83,84,85,86,87,88,89,90] [10,67] (fun vs' hh=>∃(i:Nat) (p' v':Value) (bs':aBs) (k':Int) (ps:List Pc),i≤ks.length∧vs'=[.int .i64 (lev+cC (ks.take i)),.int .i64 i]∧cW b p'∧dD (eM gM) (ks.take i)=some ps∧bs'=bs1++bK ps∧k'=k1+ps.length∧bs'.length≤bs1.length+(2000*gK (ks.take i)+30*i)∧k'≤k1+(2000*gK (ks.take i)+30*i)∧Own B [box b [p',v',.int .i64 k'] 58,row v' 5 1 bs'.length (bytes bs'),box b50 [.int .i64 kd,.string ⟨⟨tb⟩⟩,.slice e3 ks.length f3,.slice e1 cs.length f1,.slice e2 ns.length f2,.string ⟨⟨a⟩⟩,.string ⟨⟨s⟩⟩,.int .i64 g,.int .i64 z] 42,box b201 [.int .i64 0,.string ⟨⟨tb⟩⟩,.slice none 0 0,.slice e1 cs.length f1,.slice e2 ns.length f2,.string ⟨⟨a⟩⟩,.string ⟨⟨s⟩⟩,.int .i64 g,.int .i64 0] 42] hh) (fun vs' _=>match vs' with|[_,.int _ i]=>ks.length - i.toNat|_=>0) ?_ ?_
   ·exact⟨0,p1,v1,bs1,k1,[],by omega,by simp[cC],hp1,rfl,by simp[bK],by simp,by omega,by omega,o4⟩
   rintro vs' junk hh ⟨i,p',v',bs',k',ps,hi,rfl,hp',hQ,hb',hk',hl',hk2,oh⟩;clear o4;have hk2s:ks.length≤2:=by rw[hkl];unfold fU;split<;>(try split)<;>omega
   have hszl:=eP ks i;by_cases hlt:i<ks.length
   ·obtain⟨kx,hkx⟩:=getx hlt
    obtain⟨cx,hcx,hrx⟩:=pW rk hkx
    have hdx:=jG hkx;have hsz:=mC hkx;have hszl2:=eP ks (i+1);have hlv:=kT hkx;have hlvl:bZ kx≤cC ks:=mD hkx;have hlp:=pY kx;have hxOK:=nQ bks hkx;have hrx2:=hrx
    obtain⟨cxv,hcl⟩:=cx
    obtain⟨xk,xt,xks,xcs,xns,xa,xs_,xg,xo⟩:=kx
    rw[sS]at hrx2
    obtain⟨wk,wc,wn,wz,hcv,g1,g2,gx,g3,_⟩:=hrx2
    obtain⟨h1,h2,rfl⟩:=g1.isS
    obtain⟨h3,h4,rfl⟩:=g2.isS
    obtain⟨h5,h6,rfl⟩:=g3.isS
    dsimp only at hcv hrx;subst hcv;unfold wA at hcx hrx hcl;clear g1 g2 g3;by_cases h0:i=0
    ·subst h0
     refine aDR (fun c400=>?_) (fun hc=>absurd (by omega) hc);refine rR (aDo cE aU (q3.ext oh.ext) rfl (by omega) (by omega) ?_);refine rR (aDr aU (q3.ext oh.ext) (fun y:dM=>y.2) (by decide) rfl ‹_› ?_);(refine aDP oh aU ?_;intro b403 m403 o403);(refine aDh o403 4 rfl aU rfl (by decide) (aI ⟨rfl,rfl⟩ ?_);intro m404 o404);refine aDT ?_;refine aDU [0,1,3,4,7,8,10,11] [5,6] [9] [0,1,3,6,7,8,2,4,5,9,10,11] mixed (by kernel_rfl) rfl (fun _ _ _ _ h=>h) ?_;refine aDi o404 4 rfl aU rfl rfl rfl ?_;refine aDY (by omega) (by omega) ?_;(refine aDO (Own.refl _) aJ aO rfl rfl (by decide) (aI rfl ?_);intro b406 m406 o406);(refine aI o406.ext ?_;have o407:=Own.call o404 o406;simp only[lcA,lnA]at o407;clear o406);refine idxB o407 5 rfl aJ aO rfl rfl (by omega) (by first|omega|(simp;omega)) ?_;refine aDe o407 5 rfl aO rfl rfl ?_;refine XEnds.callJ [2,3] ‹_› rfl rfl (fun J oj=>hIH _ _ _ [] _ p' v' k' bs' _ (aEm hdx (by omega)) hxOK hrx hp' (.inl rfl) (by omega) hT hF oj (by omega) (by omega)) (fun ps2 p2 v2 bs2 k2 m2 hq2 hp2 hb2 hk2' hl2 _ hj2 oq=>?_) (fun m2 hq2 oq=>?_)
     case refine_2 =>
      have:dD (eM gM) ks=none:=aS hkx hQ hq2
      exact⟨hexQ.trans (by split;simp only[this,aG,oMN];rfl),rfl,oq⟩
     have o5:Own B [box b [p2,v2,.int .i64 k2] 58,row v2 5 1 bs2.length (bytes bs2),box b50 [.int .i64 kd,.string ⟨⟨tb⟩⟩,.slice e3 ks.length f3,.slice e1 cs.length f1,.slice e2 ns.length f2,.string ⟨⟨a⟩⟩,.string ⟨⟨s⟩⟩,.int .i64 g,.int .i64 z] 42,box b201 [.int .i64 0,.string ⟨⟨tb⟩⟩,.slice none 0 0,.slice e1 cs.length f1,.slice e2 ns.length f2,.string ⟨⟨a⟩⟩,.string ⟨⟨s⟩⟩,.int .i64 g,.int .i64 0] 42] m2:=oq;clear oq;refine max2 rfl rfl ?_;refine aDY (by omega) (by omega) ?_
     refine⟨rfl,?_⟩
     refine⟨⟨0+1,p2,v2,bs2,k2,ps++ps2,by omega,?_,hp2,bE hkx hQ hq2,by rw[hb2,hb'];simp[bK],by rw[hk2',hk'];simp;omega,by omega,by omega,Own.sel ‹_› [0,1,2,3] rfl⟩,by simp;omega⟩
     congr 2
     omega
    ·obtain rfl:i=1:=by omega
     refine aDR (fun c500=>?_) (fun hc=>absurd (by omega) hc);refine rR (aDo cE aU (q3.ext oh.ext) rfl (by omega) (by omega) ?_);refine rR (aDr aU (q3.ext oh.ext) (fun y:dM=>y.2) (by decide) rfl ‹_› ?_);(refine aDP oh aU ?_;intro b503 m503 o503);(refine aDh o503 4 rfl aU rfl (by decide) (aI ⟨rfl,rfl⟩ ?_);intro m504 o504);refine aDS ?_;refine rR (nC rfl ?_);refine rR (fA bS rfl rfl rfl ?_);(refine aDO o504 aJ aO rfl rfl (by decide) (aI rfl ?_);intro b507 m507 o507);refine aH [[44]] 1 30 [2,3,4] (i:=5) ‹_› rfl rfl rfl hp' rfl (by omega) (by omega) (by simp) (by omega) (by omega) (fun p3 v3 bs3 k3 m3 hp3 hb3 hk3 hl3 oq=>?_);have o5:=oq
     simp only[pick,lgS,lgZ]at o5
     clear oq oh;refine aDU [0,1,3,4,7,8,10,11] [5,6] [9] [0,1,3,6,7,8,2,4,5,9,10,11] mixed (by kernel_rfl) rfl (fun _ _ _ _ h=>h) ?_;refine aDi o5 4 rfl aU rfl rfl rfl ?_;refine aDY (by omega) (by omega) ?_;(refine aDO (Own.refl _) aJ aO rfl rfl (by decide) (aI rfl ?_);intro b551 m551 o551);(refine aI o551.ext ?_;have o552:=Own.call o5 o551;simp only[lcA,lnA]at o552;clear o551);refine idxB o552 5 rfl aJ aO rfl rfl (by omega) (by first|omega|(simp;omega)) ?_;refine aDe o552 5 rfl aO rfl rfl ?_;refine XEnds.callJ [2,3] ‹_› rfl rfl (fun J oj=>hIH _ _ _ [32] _ p3 v3 k3 bs3 _ (aEm hdx (by omega)) hxOK hrx hp3 (.inr rfl) (by omega) hT hF oj (by omega) (by omega)) (fun ps2 p2 v2 bs2 k2 m2 hq2 hp2 hb2 hk2' hl2 _ hj2 oq=>?_) (fun m2 hq2 oq=>?_)
     case refine_2 =>
      have:dD (eM gM) ks=none:=aS hkx hQ (by unfold eM;rw[if_neg (by decide),hq2];rfl)
      exact⟨hexQ.trans (by split;simp only[this,aG,oMN];rfl),rfl,oq⟩
     have o6:Own B [box b [p2,v2,.int .i64 k2] 58,row v2 5 1 bs2.length (bytes bs2),box b50 [.int .i64 kd,.string ⟨⟨tb⟩⟩,.slice e3 ks.length f3,.slice e1 cs.length f1,.slice e2 ns.length f2,.string ⟨⟨a⟩⟩,.string ⟨⟨s⟩⟩,.int .i64 g,.int .i64 z] 42,box b201 [.int .i64 0,.string ⟨⟨tb⟩⟩,.slice none 0 0,.slice e1 cs.length f1,.slice e2 ns.length f2,.string ⟨⟨a⟩⟩,.string ⟨⟨s⟩⟩,.int .i64 g,.int .i64 0] 42] m2:=oq;clear oq;refine max2 rfl rfl ?_;refine aDY (by omega) (by omega) ?_
     refine⟨rfl,?_⟩
     refine⟨⟨1+1,p2,v2,bs2,k2,ps++(aL [] [44]::ps2),by omega,?_,hp2,bE hkx hQ (by unfold eM;rw[if_neg (by decide),hq2];rfl),by rw[hb2,hb3,hb'];simp[bK,gE,wr,aL],by rw[hk2',hk3,hk'];simp;omega,by omega,by omega,Own.sel ‹_› [0,1,2,3] rfl⟩,by simp;omega⟩
     congr 2
     omega
   have hQ:=gN (aEs hlt) hQ
   rw[aEk (aEs hlt)]at hl' hk2 ⊢
   by_cases hk2x:kd=2
   ·exact(by omega:False).elim
   by_cases hk3x:kd=3
   ·exact(by omega:False).elim
   by_cases hk7x:kd=7
   ·exact(by omega:False).elim
   by_cases hk8x:kd=8
   ·exact(by omega:False).elim
   have hR:dZ kd cs ns a s g=some []:=by unfold dZ;rw[if_neg hk2x,if_neg hk3x,if_neg hk7x,if_neg hk8x]
   have hB:fC kd tb cs ns a s g=true↔tb=[]∧cs.length=0∧ns.length=0∧a=[]∧s=[]∧g=0:=by simp[fC,hkone,hk2x,hk3x,hk7x,hk8x]
   refine aDR (fun hc=>absurd hc (by omega)) (fun c4100=>?_);refine rR (fA aM rfl rfl rfl ?_);refine rR (aDe oh 2 rfl aY rfl rfl ?_);refine aDR (fun hc=>absurd hc (by omega)) (fun c4103=>?_);refine aDR (fun hc=>absurd hc (by omega)) (fun c4104=>?_);refine aDR (fun hc=>absurd hc (by omega)) (fun c4105=>?_);refine aDR (fun hc=>absurd hc (by omega)) (fun c4106=>?_);refine aDR (fun hc=>absurd hc (by omega)) (fun c4107=>?_);refine rR (fA aM rfl rfl rfl ?_);refine rR (aDe oh 2 rfl aY rfl rfl ?_);refine aDp (fun c4110=>?_) (fun hc=>absurd hc (by first|omega|assumption|decide|exact rfl));refine rR (nC rfl ?_);refine rR (fA bS rfl rfl rfl ?_);(refine aDO oh aJ aO rfl rfl (by decide) (aI rfl ?_);intro b4113 m4113 o4113);refine aH [[41]] 1 30 [2,3] (i:=4) ‹_› rfl rfl rfl hp' rfl (by omega) (by omega) (by simp) (by omega) (by omega) (fun p9 v9 bs9 k9 m9 hp9 hb9 hk9 hl9 oq=>?_);have o9:Own B [box b [p9,v9,.int .i64 k9] 58,row v9 5 1 bs9.length (bytes bs9),box b50 [.int .i64 kd,.string ⟨⟨tb⟩⟩,.slice e3 ks.length f3,.slice e1 cs.length f1,.slice e2 ns.length f2,.string ⟨⟨a⟩⟩,.string ⟨⟨s⟩⟩,.int .i64 g,.int .i64 z] 42,box b201 [.int .i64 0,.string ⟨⟨tb⟩⟩,.slice none 0 0,.slice e1 cs.length f1,.slice e2 ns.length f2,.string ⟨⟨a⟩⟩,.string ⟨⟨s⟩⟩,.int .i64 g,.int .i64 0] 42] m9:=oq;clear oq;refine rR (fA aM rfl rfl rfl ?_);refine rR (aDe o9 3 rfl aO rfl rfl ?_);refine aDR (fun c4162=>?_) (fun c4162=>?_);refine rR (fA aM rfl rfl rfl ?_);refine rR (aDe o9 3 rfl nA rfl rfl ?_);refine rR (aDn rfl nI ?_)
   refine aDR (fun c4166=>?_) (fun c4166=>?_);refine rR (fA aM rfl rfl rfl ?_);refine rR (aDe o9 3 rfl fG rfl rfl ?_);refine rR (aDn rfl aJ ?_);refine aDR (fun c4170=>?_) (fun c4170=>?_);refine rR (fA aM rfl rfl rfl ?_);refine rR (aDe o9 3 rfl aO rfl rfl ?_);refine aDR (fun c4173=>?_) (fun c4173=>?_);refine rR (fA aM rfl rfl rfl ?_);refine rR (aDe o9 3 rfl aO rfl rfl ?_);refine aDR (fun c4176=>?_) (fun c4176=>?_);refine rR (fA aM rfl rfl rfl ?_);refine rR (aDe o9 3 rfl aY rfl rfl ?_)
   any_goals (refine aDj (B:=B) ‹_› (aE false _) (fun e8 m8 _ oq=>by cases e8) fun e8 m8 oq=>?_;exact⟨hexQ.trans (if_neg fun hb=>by obtain⟨x0,x1,x2,x3,x4,x5⟩:=hB.1 hb;first|contradiction|omega),rfl,oq⟩)
   refine aDj (B:=B) ‹_› (aE _ _) (fun e8 m8 _ oq=>?_) fun e8 m8 oq=>?_
   case refine_2 =>
    have e8:=of_decide_eq_false e8
    exact⟨hexQ.trans (if_neg fun hb=>by obtain⟨x0,x1,x2,x3,x4,x5⟩:=hB.1 hb;omega),rfl,oq⟩
   have e8:=of_decide_eq_true e8;have hbare:=hB.2 ⟨by assumption,by omega,by omega,by assumption,by assumption,by omega⟩;refine aDZ rfl ?_;exact XEnds.done (ps:=[aD be opw,aL [] [40]]++(ps++([]++([aL [] [41]]++[])))) (hexQ.trans (by rw[if_pos hbare];simp only[hQ,hR,aG,oMS])) (oq.sel [0,1] rfl) hp9 (by rw[hb9,hb',hb1];simp[bK,gE,wr,aD,aL]) (by rw[hk9,hk',hk1];simp;omega) (by omega) (by omega)
theorem prExpr_c2 (b n:Nat)(hIH:aBp b n)(kd:Int)(tb:aBs)(ks:List Ex)(cs:List Cnd)(ns:List aBs)(a s:aBs)(g:Int)(off:Nat)(hcls:kd=2)(B:Base)(c:aVs)(be:aBs)(lev:Int)(p v:Value)(k:Int)(bs:aBs)(h:Heap)(hd:kU (.mk kd tb ks cs ns a s g off)≤n+1)(hOK:lH (.mk kd tb ks cs ns a s g off))(hc:sS B.h c (.mk kd tb ks cs ns a s g off))(hp:cW b p)(hbe:be=[]∨be=[32])(hlev:0≤lev∧lev+bZ (.mk kd tb ks cs ns a s g off)≤1000000000000)(hT:kJ B.h)(hF:iQ B.h)
  (o:Own B [box b [p,v,.int .i64 k] 58,row v 5 1 bs.length (bytes bs)] h) (hl:bs.length+2000*fQ (.mk kd tb ks cs ns a s g off)≤50000000000000) (hk:0≤k∧k+2000*fQ (.mk kd tb ks cs ns a s g off)≤50000000000000) :
  Spec Tryz.prog 128 [.pointer (some ⟨b,0,none⟩),.string ⟨⟨be⟩⟩,.agg ⟨c⟩,.int .i64 lev] h (XEnds B b bs k (2000*fQ (.mk kd tb ks cs ns a s g off)) (gM be (.mk kd tb ks cs ns a s g off)) (lev+bZ (.mk kd tb ks cs ns a s g off) - 1)):=by
  rw[kU]at hd
  rw[lH]at hOK
  rw[sS]at hc
  rw[fQ]at hl hk ⊢
  rw[bZ]at hlev ⊢
  rw[show lev+((cC ks+1:Nat):Int) - 1=lev+cC ks by omega]
  obtain⟨bk,btb,bks,bcs,bns,ba,bs_,bg,lk,lc,ln⟩:=hOK
  obtain⟨vk,vc,vn,z,rfl,q1,q2,xs,q3,rk⟩:=hc
  rw[iL]at q2
  obtain⟨e1,f1,rfl⟩:=q1.isS
  obtain⟨e2,f2,rfl⟩:=q2.isS
  obtain⟨e3,f3,rfl⟩:=q3.isS
  unfold wA;have hxs:xs.length=ks.length:=oG rk;have hbel:be.length≤1:=by rcases hbe with rfl|rfl<;>simp
  refine aDX Tryz.func128 rfl Tryz.ntmps128 (by kernel_rfl) ?_;by_cases hkd:1≤kd∧kd≤8
  case neg =>
   exact(by omega:False).elim
  have hfa:=pU hF kd hkd.1 hkd.2;have hf1:=hfa.1;(refine aDz o rfl ?_;intro b50 m50 o50);refine aDU [0,2,3,4,6,7,8,9,11,12,14,15,17,18] [1,5,10,13,16] [19] [0,1,2,3,4,5,6,7,8,9,10,11,12,13,14,15,16,17,18,19] mixed (by kernel_rfl) rfl (fun _ _ _ _ h=>h) ?_;refine fA aM rfl rfl rfl ?_;refine aDe o50 2 rfl aY rfl rfl ?_;refine aDR (fun c53=>?_) (fun hc=>absurd (by omega) hc);refine fA aM rfl rfl rfl ?_;refine aDe o50 2 rfl aY rfl rfl ?_;refine aDR (fun c56=>?_) (fun hc=>absurd (by omega) hc);refine fA aM rfl rfl rfl ?_;refine aDe o50 2 rfl dC rfl rfl ?_;refine aDn rfl cE ?_;refine fA aM rfl rfl rfl ?_;refine aDe o50 2 rfl aY rfl rfl ?_;refine aDx Tryz.underlying195 qX rfl rfl (by omega) (by omega) ?_;refine fA rO rfl rfl rfl ?_;refine load1 aY rfl (o50.old hf1) ?_;refine aDj ‹_› (aE _ _) (fun e1 m2 oc oq=>?_) fun e1 m2 oq=>?_
  case refine_2 =>
   have e1:=of_decide_eq_false e1;have hq:gM be (.mk kd tb ks cs ns a s g off)=none:=by rw[gM,if_neg (fun h=>e1 (by rw[h.2.2.1]))]
   exact⟨hq,rfl,oq⟩
  have hkl:ks.length=fU kd:=by have:=of_decide_eq_true e1;omega
  clear e1 oc;by_cases hkone:kd=1
  ·exact(by omega:False).elim
  ·have hexQ:gM be (.mk kd tb ks cs ns a s g off)=if fC kd tb cs ns a s g=true then aG [some [aD be (cJ.getD (kd - 2).toNat []),aL [] [40]],dD (eM gM) ks,dZ kd cs ns a s g,some [aL [] [41]]] else none:=by
    rw[gM]
    by_cases hb:fC kd tb cs ns a s g=true
    ·rw[if_pos ⟨hkd.1,hkd.2,hkl,hb⟩,if_neg hkone,if_pos hb,oE]
    ·rw[if_neg (fun h=>hb h.2.2.2),if_neg hb]
   have hf2:=hfa.2 hkone;have hol:=aAC (kd - 2).toNat;generalize cJ.getD (kd - 2).toNat []=opw at hexQ hf2 hol;clear hfa;refine rR (aDi oq 2 rfl aU rfl rfl rfl ?_);(refine aDP oq aU ?_;intro b201 m201 o201);(refine aDh o201 3 rfl aU rfl (by decide) (aI ⟨rfl,rfl⟩ ?_);intro m202 o202);refine rR (fA aM rfl rfl rfl ?_);(refine aDN o202 3 rfl aY rfl (by simp) (aI ⟨rfl,rfl⟩ ?_);intro m204 o204);refine rR (fA aM rfl rfl rfl ?_);(refine aDN o204 3 rfl dC rfl (by simp) (aI ⟨rfl,rfl⟩ ?_);intro m206 o206);refine rR (fA aM rfl rfl rfl ?_);(refine aDN o206 3 rfl aY rfl (by simp) (aI ⟨rfl,rfl⟩ ?_);intro m208 o208);refine rR (fA aM rfl rfl rfl ?_);refine rR (aDe o208 2 rfl aY rfl rfl ?_);refine aDR (fun hc=>absurd hc (by omega)) (fun c211=>?_);refine aDU [0,1,2,3,4,6,7,9] [5,8] [10,11] [0,1,2,3,4,5,6,7,8,9,10,11] mixed (by kernel_rfl) rfl (fun _ _ _ _ h=>h) ?_;refine nC rfl ?_;refine fA bS rfl rfl rfl ?_;refine fA aM rfl rfl rfl ?_;refine aDe o208 2 rfl aY rfl rfl ?_;refine aDx Tryz.underlying195 qX rfl rfl (by omega) (by omega) ?_;refine fA rO rfl rfl rfl ?_;refine load1 aO rfl (o208.old hf2) ?_;refine aDm rfl rfl (by first|omega|(simp;omega)) ?_;(refine aDO o208 aJ aO rfl rfl (by decide) (aI rfl ?_);intro b220 m220 o220);refine aH [be++opw,[40]] 2 30 [2,3] (i:=4) ‹_› rfl rfl rfl hp rfl (by omega) (by omega) (by simp;omega) (by omega) (by omega) (fun p1 v1 bs1 k1 m1 hp1 hb1 hk1 hl1 oq=>?_);have o4:Own B [box b [p1,v1,.int .i64 k1] 58,row v1 5 1 bs1.length (bytes bs1),box b50 [.int .i64 kd,.string ⟨⟨tb⟩⟩,.slice e3 ks.length f3,.slice e1 cs.length f1,.slice e2 ns.length f2,.string ⟨⟨a⟩⟩,.string ⟨⟨s⟩⟩,.int .i64 g,.int .i64 z] 42,box b201 [.int .i64 0,.string ⟨⟨tb⟩⟩,.slice none 0 0,.slice e1 cs.length f1,.slice e2 ns.length f2,.string ⟨⟨a⟩⟩,.string ⟨⟨s⟩⟩,.int .i64 g,.int .i64 0] 42] m1:=oq
   clear oq;refine rR (fA aM rfl rfl rfl ?_);refine rR (aDe o4 2 rfl dC rfl rfl ?_);refine rR (aDn rfl cE ?_);refine aD1 [10,11,12,67,68,69,70,71,72,73,74,75,76,77,78,79,80,81,82,83,84,85,86,87,88,89,90] [10,67] (fun vs' hh=>∃(i:Nat) (p' v':Value) (bs':aBs) (k':Int) (ps:List Pc),i≤ks.length∧vs'=[.int .i64 (lev+cC (ks.take i)),.int .i64 i]∧cW b p'∧dD (eM gM) (ks.take i)=some ps∧bs'=bs1++bK ps∧k'=k1+ps.length∧bs'.length≤bs1.length+(2000*gK (ks.take i)+30*i)∧k'≤k1+(2000*gK (ks.take i)+30*i)∧Own B [box b [p',v',.int .i64 k'] 58,row v' 5 1 bs'.length (bytes bs'),box b50 [.int .i64 kd,.string ⟨⟨tb⟩⟩,.slice e3 ks.length f3,.slice e1 cs.length f1,.slice e2 ns.length f2,.string ⟨⟨a⟩⟩,.string ⟨⟨s⟩⟩,.int .i64 g,.int .i64 z] 42,box b201 [.int .i64 0,.string ⟨⟨tb⟩⟩,.slice none 0 0,.slice e1 cs.length f1,.slice e2 ns.length f2,.string ⟨⟨a⟩⟩,.string ⟨⟨s⟩⟩,.int .i64 g,.int .i64 0] 42] hh) (fun vs' _=>match vs' with|[_,.int _ i]=>ks.length - i.toNat|_=>0) ?_ ?_
   ·exact⟨0,p1,v1,bs1,k1,[],by omega,by simp[cC],hp1,rfl,by simp[bK],by simp,by omega,by omega,o4⟩
   rintro vs' junk hh ⟨i,p',v',bs',k',ps,hi,rfl,hp',hQ,hb',hk',hl',hk2,oh⟩;clear o4;have hk2s:ks.length≤2:=by rw[hkl];unfold fU;split<;>(try split)<;>omega
   have hszl:=eP ks i;by_cases hlt:i<ks.length
   ·obtain⟨kx,hkx⟩:=getx hlt
    obtain⟨cx,hcx,hrx⟩:=pW rk hkx
    have hdx:=jG hkx;have hsz:=mC hkx;have hszl2:=eP ks (i+1);have hlv:=kT hkx;have hlvl:bZ kx≤cC ks:=mD hkx;have hlp:=pY kx;have hxOK:=nQ bks hkx;have hrx2:=hrx
    obtain⟨cxv,hcl⟩:=cx
    obtain⟨xk,xt,xks,xcs,xns,xa,xs_,xg,xo⟩:=kx
    rw[sS]at hrx2
    obtain⟨wk,wc,wn,wz,hcv,g1,g2,gx,g3,_⟩:=hrx2
    obtain⟨h1,h2,rfl⟩:=g1.isS
    obtain⟨h3,h4,rfl⟩:=g2.isS
    obtain⟨h5,h6,rfl⟩:=g3.isS
    dsimp only at hcv hrx;subst hcv;unfold wA at hcx hrx hcl;clear g1 g2 g3;by_cases h0:i=0
    ·subst h0
     refine aDR (fun c400=>?_) (fun hc=>absurd (by omega) hc);refine rR (aDo cE aU (q3.ext oh.ext) rfl (by omega) (by omega) ?_);refine rR (aDr aU (q3.ext oh.ext) (fun y:dM=>y.2) (by decide) rfl ‹_› ?_);(refine aDP oh aU ?_;intro b403 m403 o403);(refine aDh o403 4 rfl aU rfl (by decide) (aI ⟨rfl,rfl⟩ ?_);intro m404 o404);refine aDT ?_;refine aDU [0,1,3,4,7,8,10,11] [5,6] [9] [0,1,3,6,7,8,2,4,5,9,10,11] mixed (by kernel_rfl) rfl (fun _ _ _ _ h=>h) ?_;refine aDi o404 4 rfl aU rfl rfl rfl ?_;refine aDY (by omega) (by omega) ?_;(refine aDO (Own.refl _) aJ aO rfl rfl (by decide) (aI rfl ?_);intro b406 m406 o406);(refine aI o406.ext ?_;have o407:=Own.call o404 o406;simp only[lcA,lnA]at o407;clear o406);refine idxB o407 5 rfl aJ aO rfl rfl (by omega) (by first|omega|(simp;omega)) ?_;refine aDe o407 5 rfl aO rfl rfl ?_;refine XEnds.callJ [2,3] ‹_› rfl rfl (fun J oj=>hIH _ _ _ [] _ p' v' k' bs' _ (aEm hdx (by omega)) hxOK hrx hp' (.inl rfl) (by omega) hT hF oj (by omega) (by omega)) (fun ps2 p2 v2 bs2 k2 m2 hq2 hp2 hb2 hk2' hl2 _ hj2 oq=>?_) (fun m2 hq2 oq=>?_)
     case refine_2 =>
      have:dD (eM gM) ks=none:=aS hkx hQ hq2
      exact⟨hexQ.trans (by split;simp only[this,aG,oMN];rfl),rfl,oq⟩
     have o5:Own B [box b [p2,v2,.int .i64 k2] 58,row v2 5 1 bs2.length (bytes bs2),box b50 [.int .i64 kd,.string ⟨⟨tb⟩⟩,.slice e3 ks.length f3,.slice e1 cs.length f1,.slice e2 ns.length f2,.string ⟨⟨a⟩⟩,.string ⟨⟨s⟩⟩,.int .i64 g,.int .i64 z] 42,box b201 [.int .i64 0,.string ⟨⟨tb⟩⟩,.slice none 0 0,.slice e1 cs.length f1,.slice e2 ns.length f2,.string ⟨⟨a⟩⟩,.string ⟨⟨s⟩⟩,.int .i64 g,.int .i64 0] 42] m2:=oq;clear oq;refine max2 rfl rfl ?_;refine aDY (by omega) (by omega) ?_
     refine⟨rfl,?_⟩
     refine⟨⟨0+1,p2,v2,bs2,k2,ps++ps2,by omega,?_,hp2,bE hkx hQ hq2,by rw[hb2,hb'];simp[bK],by rw[hk2',hk'];simp;omega,by omega,by omega,Own.sel ‹_› [0,1,2,3] rfl⟩,by simp;omega⟩
     congr 2
     omega
    ·obtain rfl:i=1:=by omega
     refine aDR (fun c500=>?_) (fun hc=>absurd (by omega) hc);refine rR (aDo cE aU (q3.ext oh.ext) rfl (by omega) (by omega) ?_);refine rR (aDr aU (q3.ext oh.ext) (fun y:dM=>y.2) (by decide) rfl ‹_› ?_);(refine aDP oh aU ?_;intro b503 m503 o503);(refine aDh o503 4 rfl aU rfl (by decide) (aI ⟨rfl,rfl⟩ ?_);intro m504 o504);refine aDS ?_;refine rR (nC rfl ?_);refine rR (fA bS rfl rfl rfl ?_);(refine aDO o504 aJ aO rfl rfl (by decide) (aI rfl ?_);intro b507 m507 o507);refine aH [[44]] 1 30 [2,3,4] (i:=5) ‹_› rfl rfl rfl hp' rfl (by omega) (by omega) (by simp) (by omega) (by omega) (fun p3 v3 bs3 k3 m3 hp3 hb3 hk3 hl3 oq=>?_);have o5:=oq
     simp only[pick,lgS,lgZ]at o5
     clear oq oh;refine aDU [0,1,3,4,7,8,10,11] [5,6] [9] [0,1,3,6,7,8,2,4,5,9,10,11] mixed (by kernel_rfl) rfl (fun _ _ _ _ h=>h) ?_;refine aDi o5 4 rfl aU rfl rfl rfl ?_;refine aDY (by omega) (by omega) ?_;(refine aDO (Own.refl _) aJ aO rfl rfl (by decide) (aI rfl ?_);intro b551 m551 o551);(refine aI o551.ext ?_;have o552:=Own.call o5 o551;simp only[lcA,lnA]at o552;clear o551);refine idxB o552 5 rfl aJ aO rfl rfl (by omega) (by first|omega|(simp;omega)) ?_;refine aDe o552 5 rfl aO rfl rfl ?_;refine XEnds.callJ [2,3] ‹_› rfl rfl (fun J oj=>hIH _ _ _ [32] _ p3 v3 k3 bs3 _ (aEm hdx (by omega)) hxOK hrx hp3 (.inr rfl) (by omega) hT hF oj (by omega) (by omega)) (fun ps2 p2 v2 bs2 k2 m2 hq2 hp2 hb2 hk2' hl2 _ hj2 oq=>?_) (fun m2 hq2 oq=>?_)
     case refine_2 =>
      have:dD (eM gM) ks=none:=aS hkx hQ (by unfold eM;rw[if_neg (by decide),hq2];rfl)
      exact⟨hexQ.trans (by split;simp only[this,aG,oMN];rfl),rfl,oq⟩
     have o6:Own B [box b [p2,v2,.int .i64 k2] 58,row v2 5 1 bs2.length (bytes bs2),box b50 [.int .i64 kd,.string ⟨⟨tb⟩⟩,.slice e3 ks.length f3,.slice e1 cs.length f1,.slice e2 ns.length f2,.string ⟨⟨a⟩⟩,.string ⟨⟨s⟩⟩,.int .i64 g,.int .i64 z] 42,box b201 [.int .i64 0,.string ⟨⟨tb⟩⟩,.slice none 0 0,.slice e1 cs.length f1,.slice e2 ns.length f2,.string ⟨⟨a⟩⟩,.string ⟨⟨s⟩⟩,.int .i64 g,.int .i64 0] 42] m2:=oq;clear oq;refine max2 rfl rfl ?_;refine aDY (by omega) (by omega) ?_
     refine⟨rfl,?_⟩
     refine⟨⟨1+1,p2,v2,bs2,k2,ps++(aL [] [44]::ps2),by omega,?_,hp2,bE hkx hQ (by unfold eM;rw[if_neg (by decide),hq2];rfl),by rw[hb2,hb3,hb'];simp[bK,gE,wr,aL],by rw[hk2',hk3,hk'];simp;omega,by omega,by omega,Own.sel ‹_› [0,1,2,3] rfl⟩,by simp;omega⟩
     congr 2
     omega
   have hQ:=gN (aEs hlt) hQ
   rw[aEk (aEs hlt)]at hl' hk2 ⊢
   by_cases hk2x:kd=2
   ·subst hk2x
    have hB:fC 2 tb cs ns a s g=true↔tb=[]∧ns.length=0∧a=[]∧s=[]∧g=0:=by simp[fC]
    refine aDR (fun hc=>absurd hc (by omega)) (fun c860=>?_);refine rR (fA aM rfl rfl rfl ?_);refine rR (aDe oh 2 rfl aY rfl rfl ?_);refine aDT ?_;refine aDS ?_;refine rR (fA aM rfl rfl rfl ?_);refine rR (aDe oh 2 rfl nA rfl rfl ?_);refine WEnds.callJ [2,3] ‹_› rfl rfl (fun J oj=>vI _ b p' v' k' bs' cs _ _ hp' hT q1 bcs oj (by omega) (by omega)) (fun ps2 p2 v2 bs2 k2 m2 hq2 hp2 hb2 hk2' hl2 _ hj2 oq=>?_) (fun m2 hq2 oq=>?_)
    case refine_2 =>
     have hR:dZ 2 cs ns a s g=none:=hq2
     exact⟨hexQ.trans (by split;simp only[hQ,hR,aG,oMN,oMS];rfl),rfl,oq⟩
    have o6:Own B [box b [p2,v2,.int .i64 k2] 58,row v2 5 1 bs2.length (bytes bs2),box b50 [.int .i64 2,.string ⟨⟨tb⟩⟩,.slice e3 ks.length f3,.slice e1 cs.length f1,.slice e2 ns.length f2,.string ⟨⟨a⟩⟩,.string ⟨⟨s⟩⟩,.int .i64 g,.int .i64 z] 42,box b201 [.int .i64 0,.string ⟨⟨tb⟩⟩,.slice none 0 0,.slice e1 cs.length f1,.slice e2 ns.length f2,.string ⟨⟨a⟩⟩,.string ⟨⟨s⟩⟩,.int .i64 g,.int .i64 0] 42] m2:=oq;clear oq oh;have hR:dZ 2 cs ns a s g=some ps2:=hq2;refine rR (fA aM rfl rfl rfl ?_);(refine aDN o6 3 rfl nA rfl (by simp) (aI ⟨rfl,rfl⟩ ?_);intro m921 o921);refine rR (fA aM rfl rfl rfl ?_);refine rR (aDe o921 2 rfl aY rfl rfl ?_);refine aDS ?_;refine rR (nC rfl ?_);refine rR (fA bS rfl rfl rfl ?_);(refine aDO o921 aJ aO rfl rfl (by decide) (aI rfl ?_);intro b926 m926 o926);refine aH [[41]] 1 30 [2,3] (i:=4) ‹_› rfl rfl rfl hp2 rfl (by omega) (by omega) (by simp) (by omega) (by omega) (fun p9 v9 bs9 k9 m9 hp9 hb9 hk9 hl9 oq=>?_);have o9:Own B [box b [p9,v9,.int .i64 k9] 58,row v9 5 1 bs9.length (bytes bs9),box b50 [.int .i64 2,.string ⟨⟨tb⟩⟩,.slice e3 ks.length f3,.slice e1 cs.length f1,.slice e2 ns.length f2,.string ⟨⟨a⟩⟩,.string ⟨⟨s⟩⟩,.int .i64 g,.int .i64 z] 42,box b201 [.int .i64 0,.string ⟨⟨tb⟩⟩,.slice none 0 0,.slice none 0 0,.slice e2 ns.length f2,.string ⟨⟨a⟩⟩,.string ⟨⟨s⟩⟩,.int .i64 g,.int .i64 0] 42] m9:=oq;clear oq;refine rR (fA aM rfl rfl rfl ?_);refine rR (aDe o9 3 rfl aO rfl rfl ?_);refine aDR (fun c982=>?_) (fun c982=>?_);refine rR (fA aM rfl rfl rfl ?_);refine rR (aDe o9 3 rfl nA rfl rfl ?_)
    refine rR (aDn rfl nI ?_);refine aDS ?_;refine rR (fA aM rfl rfl rfl ?_);refine rR (aDe o9 3 rfl fG rfl rfl ?_);refine rR (aDn rfl aJ ?_);refine aDR (fun c989=>?_) (fun c989=>?_);refine rR (fA aM rfl rfl rfl ?_);refine rR (aDe o9 3 rfl aO rfl rfl ?_);refine aDR (fun c992=>?_) (fun c992=>?_);refine rR (fA aM rfl rfl rfl ?_);refine rR (aDe o9 3 rfl aO rfl rfl ?_);refine aDR (fun c995=>?_) (fun c995=>?_);refine rR (fA aM rfl rfl rfl ?_);refine rR (aDe o9 3 rfl aY rfl rfl ?_)
    any_goals (refine aDj (B:=B) ‹_› (aE false _) (fun e8 m8 _ oq=>by cases e8) fun e8 m8 oq=>?_;exact⟨hexQ.trans (if_neg fun hb=>by obtain⟨x0,x1,x2,x3,x4⟩:=hB.1 hb;first|contradiction|omega),rfl,oq⟩)
    refine aDj (B:=B) ‹_› (aE _ _) (fun e8 m8 _ oq=>?_) fun e8 m8 oq=>?_
    case refine_2 =>
     have e8:=of_decide_eq_false e8
     exact⟨hexQ.trans (if_neg fun hb=>by obtain⟨x0,x1,x2,x3,x4⟩:=hB.1 hb;omega),rfl,oq⟩
    have e8:=of_decide_eq_true e8;have hbare:=hB.2 ⟨by assumption,by omega,by assumption,by assumption,by omega⟩;refine aDZ rfl ?_;exact XEnds.done (ps:=[aD be opw,aL [] [40]]++(ps++(ps2++([aL [] [41]]++[])))) (hexQ.trans (by rw[if_pos hbare];simp only[hQ,hR,aG,oMS])) (oq.sel [0,1] rfl) hp9 (by rw[hb9,hb2,hb',hb1];simp[bK,gE,wr,aD,aL]) (by rw[hk9,hk2',hk',hk1];simp;omega) (by omega) (by omega)
   by_cases hk3x:kd=3
   ·exact(by omega:False).elim
   by_cases hk7x:kd=7
   ·exact(by omega:False).elim
   by_cases hk8x:kd=8
   ·exact(by omega:False).elim
   exact(by omega:False).elim
end Go.Proofs.YtohlogbnpfofpaaGreatDoor
