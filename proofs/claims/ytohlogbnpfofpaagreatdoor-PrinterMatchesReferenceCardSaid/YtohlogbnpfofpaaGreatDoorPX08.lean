/- Part 8 of the proof of matches_lifted: FnXb, FnXt, FnXc, FnXl, FnYa, FnQh, FnQi, FnYb, FnXd, FnXe, Laid, FnXf, FnXk, FnXn, FnXo0, FnXg0, FnXgT, FnXgD. -/
import Derived.Test.YtohlogbnpfofpaaGreatDoorRows
import Derived.Test.YtohlogbnpfofpaaGreatDoorTie
import Derived.ProofKit
import Derived.LaidMore
import Derived.OpenShut
import Derived.Stop.Joined
import Derived.Stop.LaidErr
import Derived.Lib.LaidTab
import Derived.Shelf.Vars
import Derived.Test.YtohlogbnpfofpaaGreatDoorPX07
set_option linter.all false
set_option maxHeartbeats 100000000
set_option maxRecDepth 100000
namespace Go.Proofs.YtohlogbnpfofpaaGreatDoor
open Go StillVC
theorem jY (B:Base)(b:Nat)(p v:Value)(k:Int)(bs:aBs)(x:Vl)(h:Heap)(hp:dI b p)(hT:kQ B.h)
  (o:Own B [box b [p,v,iv k] 58,row v 5 1 bs.length (bytes bs)] h) (hl:bs.length<=50000000000000) (ht:x.t.length<=1000000000000000) (hn:-9223372036854775808<=x.n/\x.n<=9223372036854775807) (hk:0<=k/\k<=50000000000000) :
  Spec Tryz.prog 123 [pv b 0,.agg ⟨[iv x.k,iv x.n,sv x.t]⟩] h (WEnds B b bs k 450 (cD x)):=by
 refine eN Tryz.func123 Tryz.ntmps123 ?_;by_cases h0:x.k=0
 ·refine xB o λb10 m10 o10=>?_
  refine nB o10 2 cG ?_;refine aDH o10 cG λb12 m12 o12=>?_;(refine sA o12 3 cG ?_;intro m13 o13);refine fB bP ?_;(refine sB o13 3 aK ?_;intro m15 o15);refine fB bP ?_;refine oB o15 2 aK ?_;refine bB λc18=>cB ?_;refine fB cC ?_;refine lA o15 aB aC λb21 m21 o21=>?_;refine aM [[32,110,117,108,108]] 1 30 [2,3] (i:=4) zA rfl rfl rfl hp rfl zO zO zS zO zO (λp1 v1 bs1 k1 m1 hp1 hb1 hk1 hl1 oq=>?_);have o1:=oq
  simp only[pick,lgS,lgZ]at o1
  clear oq;refine nB o1 3 cG ?_;refine rR (aDd bP ?_);refine rR (eqS nW rfl rfl rfl rfl ?_);refine aDc zA (aH _ _) (λe1 m2 _ oq=>?_) λe1 m2 oq=>?_
  ·simp at e1
   have hq:cD x=some [aG [32] [110,117,108,108]]:=by unfold cD;rw[if_pos h0,if_pos e1]
   refine aDS rfl ?_;exact aDV hq (oq.sel [0,1] rfl) hp1 (by rw[hb1];rfl) hk1 zO zO
  ·simp at e1
   have hq:cD x=none:=by unfold cD;rw[if_pos h0,if_neg (by rintro⟨a,b⟩;exact e1 a b)]
   exact⟨hq,rfl,oq⟩
 by_cases h4:x.k=4
 ·by_cases hmx:x.n=9223372036854775807
  ·refine xB o λb50 m50 o50=>?_
   refine nB o50 2 cG ?_;refine aDH o50 cG λb52 m52 o52=>?_;(refine sA o52 3 cG ?_;intro m53 o53);refine fB bP ?_;(refine sB o53 3 aK ?_;intro m55 o55);refine fB bP ?_;refine oB o55 2 aK ?_;refine bA λc58=>bA λc59=>?_;refine bA λc60=>bA λc61=>?_;refine bB λc62=>fB bP ?_;(refine sB o55 3 aK ?_;intro m64 o64);refine d1_ [0,1,2,3,5] [4] [7,8,9] [0,1,2,3,4,5,6,7,8,9] ?_;refine nC rfl ?_;refine fC cC ?_;refine fC bP ?_;refine oC o64 2 aK ?_;refine Ar.i64n (m:=-9223372036854775808) zD zD zO ?_;refine lA (Own.refl _) aB aC λb55 m55 o55=>?_;(refine aI o55.ext ?_;have o56:=Own.call o64 o55;simp only[lcA,lnA]at o56;clear o55);refine aDc zA (eS _ [[102,97,108,115,101],[116,114,117,101]] _ _ zO zO (Own.boxArr zA 4 rfl rfl zD) zS zS) (λe1 m2 _ oq=>by cases e1) λe1 m2 oq=>?_;have hq:cD x=none:=by unfold cD;rw[if_neg h0,if_neg zO,if_neg zO,if_neg zO,if_pos h4,if_neg zO]
   exact⟨hq,rfl,oq⟩
  ·refine xB o λb60 m60 o60=>?_
   refine nB o60 2 cG ?_;refine aDH o60 cG λb62 m62 o62=>?_;(refine sA o62 3 cG ?_;intro m63 o63);refine fB bP ?_;(refine sB o63 3 aK ?_;intro m65 o65);refine fB bP ?_;refine oB o65 2 aK ?_;refine bA λc68=>bA λc69=>?_;refine bA λc70=>bA λc71=>?_;refine bB λc72=>fB bP ?_;(refine sB o65 3 aK ?_;intro m74 o74);refine d1_ [0,1,2,3,5] [4] [7,8,9] [0,1,2,3,4,5,6,7,8,9] ?_;refine nC rfl ?_;refine fC cC ?_;refine fC bP ?_;refine oC o74 2 aK ?_;refine aR (lA (Own.refl _) aB aC λb79 m79 o79=>?_);(refine aI o79.ext ?_;have o80:=Own.call o74 o79;simp only[lcA,lnA]at o80;clear o79);refine aDc zA (eS _ [[102,97,108,115,101],[116,114,117,101]] _ _ zO zO (Own.boxArr zA 4 rfl rfl zD) zS zS) (λe1 m2 _ oq=>?_) λe1 m2 oq=>?_
   ·have e1:=of_decide_eq_true e1
    simp only[aD1,aD2]at e1
    have hw:([[102,97,108,115,101],[116,114,117,101]]:List aBs).getD (x.n+1 - 1).toNat []=(if x.n=0 then[102,97,108,115,101] else[116,114,117,101]):=by
     by_cases hz:x.n=0
     ·rw[hz];rfl
     ·have:x.n=1:=by omega
      rw[this];rfl
    rw[hw]
    have hwl:((if x.n=0 then[102,97,108,115,101] else[116,114,117,101]):aBs).length<=5:=by split<;>simp
    generalize hW:((if x.n=0 then[102,97,108,115,101] else[116,114,117,101]):aBs)=W at hwl
    refine lA oq aB aC λb70 m70 o70=>?_;refine aM [32::W] 1 30 [2,3] (i:=5) zA rfl rfl rfl hp rfl zO zO v_ zO zO (λp1 v1 bs1 k1 m1 hp1 hb1 hk1 hl1 oq=>?_);have o1:=oq
    simp only[pick,lgS,lgZ]at o1
    clear oq;refine nB o1 3 cG ?_;refine rR (aDd bP ?_);refine rR (eqS nW rfl rfl rfl rfl ?_);refine aDc zA (aH _ _) (λe2 m2 _ oq=>?_) λe2 m2 oq=>?_
    ·simp at e2
     have hq:cD x=some [aG [32] W]:=by unfold cD;rw[if_neg h0,if_neg zO,if_neg zO,if_neg zO,if_pos h4,if_pos ⟨e2,by omega⟩,hW]
     refine aDS rfl ?_;exact aDV hq (oq.sel [0,1] rfl) hp1 (by rw[hb1];simp[bX,gX,wr,aG]) hk1 zO zO
    ·simp at e2
     have hq:cD x=none:=by unfold cD;rw[if_neg h0,if_neg zO,if_neg zO,if_neg zO,if_pos h4,if_neg (by rintro⟨a,_⟩;exact e2 a)]
     exact⟨hq,rfl,oq⟩
   ·have e1:=of_decide_eq_false e1
    simp only[aD1,aD2]at e1
    have hq:cD x=none:=by unfold cD;rw[if_neg h0,if_neg zO,if_neg zO,if_neg zO,if_pos h4,if_neg zO]
    exact⟨hq,rfl,oq⟩
 by_cases h3:x.k=3
 ·refine xB o λb100 m100 o100=>?_
  refine nB o100 2 cG ?_;refine aDH o100 cG λb102 m102 o102=>?_;(refine sA o102 3 cG ?_;intro m103 o103);refine fB bP ?_;(refine sB o103 3 aK ?_;intro m105 o105);refine fB bP ?_;refine oB o105 2 aK ?_;refine bA λc108=>bA λc109=>?_;refine bA λc110=>bB λc111=>?_;refine fB bP ?_;(refine sB o105 3 aK ?_;intro m113 o113);refine d1_ [0,1,2,3] [4] [5,6,7] [0,1,2,3,4,5,6,7] ?_;refine nC rfl ?_;refine fC cC ?_;refine fC bP ?_;refine oC o113 2 aK ?_;refine aDc zA (bV x.n _ hn.1 hn.2 (hT.ext (Own.ext zA))) (λe1 m2 _ oq=>?_) λe1 m2 oq=>?_
  ·have hil:=bS e1
   refine lA oq aB aC λb110 m110 o110=>?_;refine aM [[32,64],Lib.itoa x.n] 2 30 [2,3] (i:=4) zA rfl rfl rfl hp rfl zO zO v_ zO zO (λp1 v1 bs1 k1 m1 hp1 hb1 hk1 hl1 oq=>?_);have o1:=oq
   simp only[pick,lgS,lgZ]at o1
   clear oq;refine nB o1 3 cG ?_;refine rR (aDd bP ?_);refine rR (eqS nW rfl rfl rfl rfl ?_);refine aDc zA (aH _ _) (λe2 m2 _ oq=>?_) λe2 m2 oq=>?_
   ·simp at e2
    have hq:cD x=some [aS [32] [64],cI [] x.n]:=by unfold cD;rw[if_neg h0,if_neg zO,if_neg zO,if_pos h3,if_pos ⟨e2,e1⟩]
    refine aDS rfl ?_;exact aDV hq (oq.sel [0,1] rfl) hp1 (by rw[hb1];simp[bX,gX,wr,aS,cI]) hk1 zO zO
   ·simp at e2
    have hq:cD x=none:=by unfold cD;rw[if_neg h0,if_neg zO,if_neg zO,if_pos h3,if_neg (by rintro⟨a,_⟩;exact e2 a)]
    exact⟨hq,rfl,oq⟩
  ·have hq:cD x=none:=by unfold cD;rw[if_neg h0,if_neg zO,if_neg zO,if_pos h3,if_neg (by rintro⟨_,e⟩;rw[e1]at e;cases e)]
   exact⟨hq,rfl,oq⟩
 by_cases h2:x.k=2
 ·by_cases hneg:x.n<0
  ·refine xB o λb140 m140 o140=>?_
   refine nB o140 2 cG ?_;refine aDH o140 cG λb142 m142 o142=>?_;(refine sA o142 3 cG ?_;intro m143 o143);refine fB bP ?_;(refine sB o143 3 aK ?_;intro m145 o145);refine fB bP ?_;refine oB o145 2 aK ?_;refine bA λc148=>bA λc149=>?_;refine bB λc150=>fB bP ?_;(refine sB o145 3 aK ?_;intro m152 o152);refine fB bP ?_;refine oB o152 2 aK ?_;refine bB λc155=>fB bP ?_;refine oB o152 2 aK ?_;refine aDc zA (aH _ _) (λe1 m2 _ oq=>?_) λe1 m2 oq=>?_
   ·have e1:=of_decide_eq_true e1
    refine d1_ [0,1,2,3,5] [4] [6,7,8] [0,1,2,3,4,5,6,7,8] ?_;refine nC rfl ?_;refine fC cC ?_;refine fC bP ?_;refine oC oq 2 aK ?_;refine aR ?_;have hno:dB (-x.n)=true:=decide_eq_true zO
    rw[Int.zero_sub]
    refine aDc zA (bV _ _ zO zO (hT.ext (Own.ext zA))) (λe2 m3 _ oq=>?_) λe2 m3 oq=>?_
    ·have hil:=bS hno
     refine lA oq aB aC λb160 m160 o160=>?_;refine aM [[32,45],Lib.itoa (-x.n)] 2 30 [2,3] (i:=4) zA rfl rfl rfl hp rfl zO zO v_ zO zO (λp1 v1 bs1 k1 m1 hp1 hb1 hk1 hl1 oq=>?_);have o1:=oq
     simp only[pick,lgS,lgZ]at o1
     clear oq;refine nB o1 3 cG ?_;refine rR (aDd bP ?_);refine rR (eqS nW rfl rfl rfl rfl ?_);refine aDc zA (aH _ _) (λe2 m2 _ oq=>?_) λe2 m2 oq=>?_
     ·simp at e2
      have hq:cD x=some [aS [32] [45],cI [] (-x.n)]:=by unfold cD;rw[if_neg h0,if_neg zO,if_pos h2,if_pos ⟨e2,by omega⟩,if_pos hneg]
      refine aDS rfl ?_;exact aDV hq (oq.sel [0,1] rfl) hp1 (by rw[hb1];simp[bX,gX,wr,aS,cI]) hk1 zO zO
     ·simp at e2
      have hq:cD x=none:=by unfold cD;rw[if_neg h0,if_neg zO,if_pos h2,if_neg (by rintro⟨a,_⟩;exact e2 a)]
      exact⟨hq,rfl,oq⟩
    ·rw[hno]at e2
     cases e2
   ·have e1:=of_decide_eq_false e1
    have hq:cD x=none:=by unfold cD;rw[if_neg h0,if_neg zO,if_pos h2,if_neg zO]
    exact⟨hq,rfl,oq⟩
  ·refine xB o λb200 m200 o200=>?_
   refine nB o200 2 cG ?_;refine aDH o200 cG λb202 m202 o202=>?_;(refine sA o202 3 cG ?_;intro m203 o203);refine fB bP ?_;(refine sB o203 3 aK ?_;intro m205 o205);refine fB bP ?_;refine oB o205 2 aK ?_;refine bA λc208=>bA λc209=>?_;refine bB λc210=>fB bP ?_;(refine sB o205 3 aK ?_;intro m212 o212);refine fB bP ?_;refine oB o212 2 aK ?_;refine bA λc215=>d1_ [0,1,2,3,6] [4] [5,7,8] [0,1,2,3,4,5,6,7,8] ?_;refine nC rfl ?_;refine fC cC ?_;refine fC bP ?_;refine oC o212 2 aK ?_;refine aDc zA (bV _ _ zO zO (hT.ext (Own.ext zA))) (λe2 m3 _ oq=>?_) λe2 m3 oq=>?_
   ·have hil:=bS e2
    have hnn:=of_decide_eq_true e2;refine aDb rfl rfl w_ ?_;refine lA oq aB aC λb211 m211 o211=>?_;refine aM [[32]++Lib.itoa x.n] 1 30 [2,3] (i:=4) zA rfl rfl rfl hp rfl zO zO v_ zO zO (λp1 v1 bs1 k1 m1 hp1 hb1 hk1 hl1 oq=>?_);have o1:=oq
    simp only[pick,lgS,lgZ]at o1
    clear oq;refine nB o1 3 cG ?_;refine rR (aDd bP ?_);refine rR (eqS nW rfl rfl rfl rfl ?_);refine aDc zA (aH _ _) (λe2 m2 _ oq=>?_) λe2 m2 oq=>?_
    ·simp at e2
     have hq:cD x=some [cI [32] x.n]:=by unfold cD;rw[if_neg h0,if_neg zO,if_pos h2,if_pos ⟨e2,by omega⟩,if_neg hneg]
     refine aDS rfl ?_;exact aDV hq (oq.sel [0,1] rfl) hp1 (by rw[hb1];simp[bX,gX,wr,cI]) hk1 zO zO
    ·simp at e2
     have hq:cD x=none:=by unfold cD;rw[if_neg h0,if_neg zO,if_pos h2,if_neg (by rintro⟨a,_⟩;exact e2 a)]
     exact⟨hq,rfl,oq⟩
   ·have hnn:=of_decide_eq_false e2
    have hq:cD x=none:=by unfold cD;rw[if_neg h0,if_neg zO,if_pos h2,if_neg zO]
    exact⟨hq,rfl,oq⟩
 by_cases h1:x.k=1
 ·refine xB o λb240 m240 o240=>?_
  refine nB o240 2 cG ?_;refine aDH o240 cG λb242 m242 o242=>?_;(refine sA o242 3 cG ?_;intro m243 o243);refine fB bP ?_;(refine sB o243 3 aK ?_;intro m245 o245);refine fB bP ?_;refine oB o245 2 aK ?_;refine bA λc248=>bB λc249=>?_;refine fB bP ?_;refine oB o245 2 aC ?_;refine rR (aDn rfl cE ?_);refine aDc zA (aH _ _) (λe1 m2 _ oq=>?_) λe1 m2 oq=>?_
  ·have e1:=of_decide_eq_true e1
   refine fB bP ?_;(refine sB oq 3 aC ?_;intro m251 o251);refine d2_ b240 [0,1,2,5,8,9] [6] [7,10,11] [0,1,2,5,6,3,4,7,8,9,10,11] ?_;refine nC rfl ?_;refine fC cC ?_;refine fC bP ?_;refine StillVCA.load1 aC rfl rfl ((o251.cellB 2 rfl _).trans rfl) ?_;refine lA o251 aB aC λb266 m266 o266=>?_;refine aI ((o266.boxBlk 2 rfl).trans (o251.boxBlk 2 rfl).symm) ?_;refine aDN (xI _ _ (Own.boxArr zA 4 rfl (n:=6) (c:=6) rfl zD)) ?_;rintro _ h2 ⟨rb,ra,rc,rfl,ob⟩;have o2:=Own.call (B:=B) zA ob
   simp only[lcA,lnA]at o2
   clear ob;refine aI ((o2.boxBlk 2 rfl).trans (o266.boxBlk 2 rfl).symm) ?_;refine aDN (aCJ rb ra rc _ x.t _ zO (o2.lend [5,6] [0,1,2,3] rfl)) ?_;rintro _ h3 ⟨rfl,oc⟩;have o3:=oc.back;clear oc o2
   simp only[pick,lgS,lgZ,lnA]at o3
   have hel:=aAb x.t;refine aDb rfl rfl w_ ?_;refine aDb rfl rfl w_ ?_;refine lA o3 aB aC λb282 m282 o282=>?_;refine aM [[32,34]++kO x.t++[34]] 1 410 [2,3] (i:=4) zA rfl rfl rfl hp rfl zO zO v_ zO zO (λp1 v1 bs1 k1 m1 hp1 hb1 hk1 hl1 oq=>?_);have o4:=oq
   simp only[pick,lgS,lgZ]at o4
   clear oq;refine nB o4 3 cG ?_;refine rR (aDd bP ?_);refine rR (eqS nW rfl rfl rfl rfl ?_);refine aDc zA (aH _ _) (λe2 m2 _ oq=>?_) λe2 m2 oq=>?_
   ·simp at e2
    have hq:cD x=some [txtT [32] x.t]:=by unfold cD;rw[if_neg h0,if_pos h1,if_pos ⟨e2,by omega⟩]
    refine aDS rfl ?_;exact aDV hq (oq.sel [0,1] rfl) hp1 (by rw[hb1];simp[bX,gX,wr,txtT]) hk1 zO zO
   ·simp at e2
    have hq:cD x=none:=by unfold cD;rw[if_neg h0,if_pos h1,if_neg (by rintro⟨a,_⟩;exact e2 a)]
    exact⟨hq,rfl,oq⟩
  ·have e1:=of_decide_eq_false e1
   have hq:cD x=none:=by unfold cD;rw[if_neg h0,if_pos h1,if_neg zO]
   exact⟨hq,rfl,oq⟩
 ·refine xB o λb300 m300 o300=>?_
  refine nB o300 2 cG ?_;refine aDH o300 cG λb302 m302 o302=>?_;(refine sA o302 3 cG ?_;intro m303 o303);refine fB bP ?_;(refine sB o303 3 aK ?_;intro m305 o305);refine fB bP ?_;refine oB o305 2 aK ?_;refine bA λc308=>bA λc309=>?_;refine bA λc310=>bA λc311=>?_;refine bA λc312=>aDc zA (aH _ _) (λe1 m2 _ oq=>by cases e1) λe1 m2 oq=>?_;have hq:cD x=none:=by unfold cD;rw[if_neg h0,if_neg h1,if_neg h2,if_neg h3,if_neg h4]
  exact⟨hq,rfl,oq⟩
def kG (kind:Int)(table:aBs)(vk vc vn:Value)(attr as_:aBs)(agg:Int)(z:Int):aVs :=
 [iv kind,sv table,vk,vc,vn,sv attr,sv as_,iv agg,iv z]
mutual
def fT (H:Heap)(c:aVs):Ex->Prop
 | .mk kind table kids conds names attr as_ agg _=>∃ vk vc vn z,c=kG kind table vk vc vn attr as_ agg z /\
   aY 14 H vc conds.length (conds.flatMap nN)/\aY 1 H vn names.length (names.flatMap sD)/\∃ xs:List dG,aY 9 H vk kids.length (xs.flatMap Subtype.val)/\pD H xs kids
def pD (H:Heap):List dG->List Ex->Prop
 | [],[]=>True
 | c::cs,x::xs=>fT H c.1 x/\pD H cs xs
 | _,_=>False
end
mutual
theorem fT.ext {H H':Heap}(e:Ext H H'):∀(x:Ex)(c:aVs),fT H c x->fT H' c x
 | .mk kind table kids conds names attr as_ agg off,c,h=>by
  rw[fT]at h ⊢
  obtain⟨vk,vc,vn,z,h1,h2,h3,xs,h4,h5⟩:=h
  exact⟨vk,vc,vn,z,h1,h2.ext e,h3.ext e,xs,h4.ext e,pD.ext e kids xs h5⟩
theorem pD.ext {H H':Heap}(e:Ext H H'):∀(xs:List Ex)(cs:List dG),pD H cs xs->pD H' cs xs
 | [],[],_=>trivial
 | x::xs,c::cs,h=>by
  rw[pD]at h ⊢
  exact⟨fT.ext e x c.1 h.1,pD.ext e xs cs h.2⟩
 | [],_::_,h=>(by rw[pD]at h;exact h.elim;all_goals simp)
 | _::_,[],h=>(by rw[pD]at h;exact h.elim;all_goals simp)
end
mutual
theorem nK.toH {I:Item}{H:Heap}(hI:I.sat H):∀(x:Ex)(c:aVs),nK I c x->fT H c x
 | .mk kind table kids conds names attr as_ agg off,c,h=>by
  rw[nK]at h
  rw[fT]
  obtain⟨vk,vc,vn,h1,h2,h3,xs,h4,h5⟩:=h
  exact⟨vk,vc,vn,off,h1,h2 H hI,h3 H hI,xs,h4 H hI,tK.toH hI kids xs h5⟩
theorem tK.toH {I:Item}{H:Heap}(hI:I.sat H):∀(xs:List Ex)(cs:List dG),tK I cs xs->pD H cs xs
 | [],[],_=>trivial
 | x::xs,c::cs,h=>by
  rw[tK]at h
  rw[pD]
  exact⟨nK.toH hI x c.1 h.1,tK.toH hI xs cs h.2⟩
 | [],_::_,h=>(by rw[tK]at h;exact h.elim;all_goals simp)
 | _::_,[],h=>(by rw[tK]at h;exact h.elim;all_goals simp)
end
theorem iC {H:Heap}:∀ {cs:List dG}{l:List Ex}{i:Nat}{x:Ex},pD H cs l->l[i]?=some x->∃ c,cs[i]?=some c/\fT H c.1 x
 | _,[],_,_,_,h=>by simp at h
 | c::cs,a::l,0,x,hq,h=>by simp at h;subst h;rw[pD]at hq;exact⟨c,rfl,hq.1⟩
 | c::cs,a::l,i+1,x,hq,h=>by rw[pD]at hq;exact iC (cs:=cs) (l:=l) (i:=i) hq.2 (by simpa using h)
 | [],a::l,_,_,hq,_=>by rw[pD]at hq;exact hq.elim;all_goals simp
theorem lU {H:Heap}:∀ {cs:List dG}{l:List Ex},pD H cs l->cs.length=l.length
 | [],[],_=>rfl
 | c::cs,a::l,hq=>by rw[pD]at hq;simp[lU hq.2]
 | c::cs,[],hq=>by rw[pD]at hq;exact hq.elim;all_goals simp
 | [],b::m,hq=>by rw[pD]at hq;exact hq.elim;all_goals simp
def eD (x:It)(z:Int)(vc vn vt vf vv vd:Value)(e0 e1 e2 e3 e4 e5 e6 e7 e8:Value):aVs :=
 [iv x.kind,sv x.name,iv z,sv x.table,sv x.attr,vc,vn,iv x.by_,iv x.n,iv x.m,vt,sv x.other,sv x.oattr,vf,vv,vd,e0,e1,e2,e3,e4,e5,e6,e7,e8]
def nP (H:Heap)(c:aVs)(x:It):Prop:=∃ z vc vn vt vf vv vd e0 e1 e2 e3 e4 e5 e6 e7 e8,c=eD x z vc vn vt vf vv vd e0 e1 e2 e3 e4 e5 e6 e7 e8 /\
 aY 5 H vc x.cols.length (x.cols.flatMap vE)/\aY 1 H vn x.names.length (x.names.flatMap sD)/\aY 7 H vt x.terms.length (x.terms.flatMap wP) /\
 aY 4 H vf x.fixed.length (x.fixed.flatMap xH)/\aY 2 H vv x.vars.length (x.vars.flatMap vrC)/\aY 14 H vd x.conds.length (x.conds.flatMap nN)/\fT H [e0,e1,e2,e3,e4,e5,e6,e7,e8] x.expr
theorem nP.ext {H H':Heap}{c:aVs}{x:It}(r:nP H c x)(e:Ext H H'):nP H' c x:=by
 obtain⟨z,vc,vn,vt,vf,vv,vd,e0,e1,e2,e3,e4,e5,e6,e7,e8,h1,h2,h3,h4,h5,h6,h7,h8⟩:=r
 exact⟨z,vc,vn,vt,vf,vv,vd,e0,e1,e2,e3,e4,e5,e6,e7,e8,h1,h2.ext e,h3.ext e,h4.ext e,h5.ext e,h6.ext e,h7.ext e,fT.ext e _ _ h8⟩
theorem itR.toH {I:Item}{H:Heap}(hI:I.sat H) {c:aVs}{x:It}(r:itR I c x):nP H c x:=by
 obtain⟨vc,vn,vt,vf,vv,vd,e0,e1,e2,e3,e4,e5,e6,e7,e8,h1,h2,h3,h4,h5,h6,h7,h8⟩:=r
 exact⟨x.off,vc,vn,vt,vf,vv,vd,e0,e1,e2,e3,e4,e5,e6,e7,e8,h1,h2 H hI,h3 H hI,h4 H hI,h5 H hI,h6 H hI,h7 H hI,nK.toH hI _ _ h8⟩
def qH (H:Heap)(v:Value)(xs:List It):Prop:=∃ cs:List kB,aY 25 H v xs.length (cs.flatMap Subtype.val)/\cs.length=xs.length/\∀(i:Nat)(x:It),xs[i]?=some x->∃ d:kB,cs[i]?=some d/\nP H d.1 x
theorem qH.ext {H H':Heap}{v:Value}{xs:List It}(r:qH H v xs)(e:Ext H H'):qH H' v xs:=by
 obtain⟨cs,h1,h2,h3⟩:=r
 refine⟨cs,h1.ext e,h2,λi x hx=>?_⟩
 obtain⟨d,h4,h5⟩:=h3 i x hx
 exact⟨d,h4,h5.ext e⟩
theorem aAK.toH {I:Item}{H:Heap}(hI:I.sat H) {v:Value}{xs:List It}(r:aAK I v xs):qH H v xs:=by
 obtain⟨cs,h1,h2⟩:=r
 obtain⟨ds,hd,hg⟩:=aA0 h2
 rw[hd]at h1
 have ha:=h1 H hI;have hlen:ds.length=xs.length:=by
  have h3:=ha.1
  rw[tJ (f:=Subtype.val) (sz:=25) (λy:kB=>y.2)]at h3
  omega
 refine⟨ds,ha,hlen,λi x hx=>?_⟩
 obtain⟨d,h4,h5⟩:=hg i x hx
 exact⟨d,h4,h5.toH hI⟩
def VlOK (v:Vl):Prop:=(-9223372036854775808<=v.k/\v.k<=9223372036854775807)/\(-9223372036854775808<=v.n/\v.n<=9223372036854775807)/\v.t.length<=1000000000000000
def aBz (x:Opd):Prop:=x.var.length<=1000000000000000/\x.attr.length<=1000000000000000/\VlOK x.val
def uL (x:Cnd):Prop:=aBz x.left/\(-9223372036854775808<=x.op/\x.op<=9223372036854775807)/\aBz x.right/\(-9223372036854775808<=x.add/\x.add<=9223372036854775807)
def aCp (x:Col):Prop:=x.name.length<=1000000000000000/\(-9223372036854775808<=x.kind/\x.kind<=9223372036854775807)/\VlOK x.dflt
def aCn (x:Trm):Prop:=x.attr.length<=1000000000000000/\(-9223372036854775808<=x.measure/\x.measure<=9223372036854775807)/\(-9223372036854775808<=x.tol/\x.tol<=9223372036854775807)/\(-9223372036854775808<=x.num/\x.num<=9223372036854775807) /\
 (-9223372036854775808<=x.den/\x.den<=9223372036854775807)/\(-9223372036854775808<=x.gives/\x.gives<=9223372036854775807)/\(-9223372036854775808<=x.takes/\x.takes<=9223372036854775807)
def aCo (x:Nmd):Prop:=x.name.length<=1000000000000000/\VlOK x.val
def VrOK (x:Vr):Prop:=x.name.length<=1000000000000000/\x.table.length<=1000000000000000
mutual
def gK:Ex->Prop
 | .mk k t ks cs ns a s g _=>(-9223372036854775808<=k/\k<=9223372036854775807)/\t.length<=1000000000000000/\tS ks/\(∀ c∈cs,uL c)/\(∀ n∈ns,n.length<=1000000000000000)/\a.length<=1000000000000000/\s.length<=1000000000000000/\(-9223372036854775808<=g/\g<=9223372036854775807)/\ks.length<=1000000000000000/\cs.length<=1000000000000000/\ns.length<=1000000000000000
def tS:List Ex->Prop
 | []=>True
 | x::xs=>gK x/\tS xs
end
theorem gG:∀ {l:List Ex}{i:Nat}{x:Ex},tS l->l[i]?=some x->gK x
 | [],_,_,_,h=>by simp at h
 | a::l,0,x,hq,h=>by simp at h;subst h;rw[tS]at hq;exact hq.1
 | a::l,i+1,x,hq,h=>by rw[tS]at hq;exact gG (l:=l) (i:=i) hq.2 (by simpa using h)
def fO (x:It):Prop:=(-9223372036854775808<=x.kind/\x.kind<=9223372036854775807)/\x.name.length<=1000000000000000/\x.table.length<=1000000000000000/\x.attr.length<=1000000000000000/\(∀ c∈x.cols,aCp c)/\(∀ n∈x.names,n.length<=1000000000000000) /\
 (-9223372036854775808<=x.by_/\x.by_<=9223372036854775807)/\(-9223372036854775808<=x.n/\x.n<=9223372036854775807)/\(-9223372036854775808<=x.m/\x.m<=9223372036854775807)/\(∀ t∈x.terms,aCn t)/\x.other.length<=1000000000000000/\x.oattr.length<=1000000000000000 /\
 (∀ f∈x.fixed,aCo f)/\(∀ v∈x.vars,VrOK v)/\(∀ c∈x.conds,uL c)/\gK x.expr /\
 x.cols.length<=1000000000000000/\x.names.length<=1000000000000000/\x.terms.length<=1000000000000000/\x.fixed.length<=1000000000000000/\x.vars.length<=1000000000000000/\x.conds.length<=1000000000000000
mutual
def fD:Ex->Nat
 | .mk _ _ ks cs ns _ _ _ _=>1+cs.length+ns.length+gI ks
def gI:List Ex->Nat
 | []=>0
 | x::xs=>fD x+gI xs
end
mutual
theorem aBc:∀(x:Ex),dE x<=fD x
 | .mk k t ks cs ns a s g o=>by
  have:=aCf ks
  rw[dE,fD]
  omega
theorem aCf:∀(xs:List Ex),dK xs<=gI xs
 | []=>aD6 _
 | x::xs=>by
  have h1:=aBc x;have h2:=aCf xs
  rw[dK,gI]
  omega
end
def dF (x:It):Nat:=1+x.cols.length+x.names.length+x.terms.length+x.fixed.length+x.vars.length+x.conds.length+fD x.expr
theorem indexS_spec (ss:List aBs)(s:aBs)(vs:Value)(h:Heap)(hA:Arr h vs (strs ss))(hl:ss.length<=100) :
  bG Tryz.prog 176 [vs,sv s] h λr h'=>∃ i:Int,r=iv i/\(0<=i↔s∈ss)/\Own h [] h':=by
 refine eN Tryz.func176 Tryz.ntmps176 ?_;have o0:=Own.refl h;have hsl:(strs ss).length=ss.length:=by simp[strs]
 refine rR (aDv hA zA aB ?_);refine aDT [4,5,8,9,10,11,12,13,14,15,16,17,18] [8] (λvs' hh=>∃(i:Nat),i<=ss.length/\vs'=[.int .i64 i]/\(∀(j:Nat) (c:aBs),j<i->ss[j]?=some c->c≠s)/\Own h [] hh) (λvs' _=>match vs' with|[.int _ i]=>ss.length - i.toNat|_=>0) ?_ ?_
 ·exact⟨0,by omega,rfl,λj c hj=>by omega,o0⟩
 ·rintro vs' junk hh ⟨i,hi,rfl,hE,oh⟩
  by_cases hlt:i<ss.length
  ·obtain⟨c,hc⟩:=getx hlt
   have hss:(strs ss)[i]?=some (sv c):=by simp[strs,hc]
   by_cases he:s=c
   ·refine bB λc20=>?_
    refine rR (idx aB aC (hA.ext oh.ext) rfl zO zO ?_);refine rR (aDq (hA.ext oh.ext) aC rfl a_ ?_);refine bB λc23=>rO ?_
    exact⟨_,rfl,⟨λ_=>by subst he;exact aDY hc,λ_=>by omega⟩,oh⟩
   ·refine bB λc30=>?_
    refine rR (idx aB aC (hA.ext oh.ext) rfl zO zO ?_);refine rR (aDq (hA.ext oh.ext) aC rfl a_ ?_);refine bA λc33=>aR ?_
    refine⟨rfl,?_⟩
    refine⟨⟨i+1,by omega,rfl,λj d hj hd=>?_,oh⟩,by simp;omega⟩
    by_cases hji:j=i
    ·subst hji
     rw[hc]at hd
     cases hd
     exact λe=>he e.symm
    ·exact hE j d zO hd
  ·refine bA λc40=>?_
   refine rO ?_
   refine⟨_,rfl,⟨λh=>by omega,λhm=>?_⟩,oh⟩
   obtain⟨j,hj⟩:=aEm.1 hm
   exact absurd rfl (hE j s (by have:=(aDZ.1 hj).1;omega) hj)
theorem tO (ss:List aBs)(s:aBs)(vs:Value)(h:Heap)(hA:Arr h vs (strs ss))(hl:ss.length<=100) :
  bG Tryz.prog 168 [vs,sv s] h λr h'=>r=.bool (decide (s∈ss))/\Own h [] h':=by
 refine eN Tryz.func168 Tryz.ntmps168 ?_;have o0:=Own.refl h;refine aDN (indexS_spec ss s vs _ hA hl) ?_;rintro _ h1 ⟨i,rfl,hi,o1⟩;refine rO ?_
 refine⟨?_,o1⟩
 congr 1
 exact decide_eq_decide.2 hi
theorem vP (s:aBs):reserved s=decide (s∈[[116,114,117,101],[102,97,108,115,101],[110,117,108,108]]):=by
 unfold reserved;exact decide_eq_decide.2 zS
theorem yQ (B:Base)(b:Nat)(p v:Value)(k:Int)(bs:aBs)(x:Opd)(h:Heap)(hp:dI b p)(hT:kQ B.h)
  (o:Own B [box b [p,v,iv k] 58,row v 5 1 bs.length (bytes bs)] h) (hl:bs.length<=50000000000000) (hx:aBz x) (hk:0<=k/\k<=50000000000000) :
  Spec Tryz.prog 151 [pv b 0,.agg ⟨opdC x⟩] h (WEnds B b bs k 500 (iA x)):=by
 obtain⟨xv,xa,xc,⟨vk,vn,vt⟩⟩:=x
 obtain⟨b1,b2,b3,b4,b5⟩:=hx
 simp only at b1 b2 b3 b4 b5;show Spec Tryz.prog 151 [pv b 0,.agg ⟨[sv xv,sv xa,.bool xc,iv vk,iv vn,sv vt]⟩] h _;refine eN Tryz.func151 Tryz.ntmps151 ?_;cases xc with
 | true =>
  by_cases hv:xv=[]
  ·by_cases ha:xa=[]
   ·subst hv ha
    have hq:iA ⟨[],[],true,⟨vk,vn,vt⟩⟩=cD ⟨vk,vn,vt⟩:=rfl
    rw[hq]
    refine xB o λb10 m10 o10=>?_;refine fB cY ?_;refine oB o10 2 yF ?_;refine aDK (fB cY ?_);refine oB o10 2 aC ?_;refine aDK (fB cY ?_);refine oB o10 2 aC ?_;refine aDc zA (aH _ _) (λe1 m2 _ oq=>?_) λe1 m2 oq=>absurd (of_decide_eq_false e1) zS;refine fB cY ?_;refine nB oq 2 cG ?_;refine WEnds.callJ [2] zA rfl rfl (λJ oj=>jY _ b p v k bs ⟨vk,vn,vt⟩ _ hp hT oj zO b5 b4 zO) (λps p1 v1 bs1 k1 m3 hq1 hp1 hb1 hk1 hl1 _ hk2 oq=>?_) (λm3 hq1 oq=>?_)
    ·refine aDS rfl ?_
     exact aDV hq1 (oq.sel [0,1] rfl) hp1 hb1 hk1 zO zO
    ·exact⟨hq1,rfl,oq⟩
   ·have hq:iA ⟨xv,xa,true,⟨vk,vn,vt⟩⟩=none:=by unfold iA;rw[if_pos rfl,if_neg (λh=>ha h.2)]
    refine xB o λb60 m60 o60=>?_;refine fB cY ?_;refine oB o60 2 yF ?_;refine aDK (fB cY ?_);refine oB o60 2 aC ?_;refine bB λc65=>fB cY ?_;refine oB o60 2 aC ?_;refine aDc zA (aH _ _) (λe1 m2 _ oq=>absurd (of_decide_eq_true e1) ha) λe1 m2 oq=>?_
    exact⟨hq,rfl,oq⟩
  ·have hq:iA ⟨xv,xa,true,⟨vk,vn,vt⟩⟩=none:=by unfold iA;rw[if_pos rfl,if_neg (λh=>hv h.1)]
   refine xB o λb80 m80 o80=>?_;refine fB cY ?_;refine oB o80 2 yF ?_;refine aDK (fB cY ?_);refine oB o80 2 aC ?_;refine bA λc85=>aDc zA (aH _ _) (λe1 m2 _ oq=>by cases e1) λe1 m2 oq=>?_
   exact⟨hq,rfl,oq⟩
 | false =>
  by_cases hz:vk=0/\vn=0/\vt=[]
  case neg =>
   have hq:iA ⟨xv,xa,false,⟨vk,vn,vt⟩⟩=none:=by unfold iA;rw[if_neg zS,if_pos hz]
   have hzb:(decide (vk=0)&&(decide (vn=0)&&(decide (vt=[])&&true)))=false:=by
    rw[aEh]
    intro h
    simp at h
    exact hz ⟨h.1,h.2.1,h.2.2⟩
   by_cases hv:xv=[]
   ·refine xB o λb100 m100 o100=>?_
    refine fB cY ?_;refine oB o100 2 yF ?_;refine aDL (fB cY ?_);refine oB o100 2 aC ?_;refine bB λc105=>fB cY ?_;refine oB o100 2 aC ?_;refine fB cY ?_;refine nB o100 2 cG ?_;refine rR (aDd bP ?_);refine rR (eqS nW rfl rfl rfl rfl ?_);refine Br.ffE zA ?_;refine aDc zA (aH _ _) (λe1 m2 _ oq=>by cases e1) λe1 m2 oq=>?_
    exact⟨hq,rfl,oq⟩
   ·refine xB o λb150 m150 o150=>?_
    refine fB cY ?_;refine oB o150 2 yF ?_;refine aDL (fB cY ?_);refine oB o150 2 aC ?_;refine bA λc155=>fB cY ?_;refine nB o150 2 cG ?_;refine rR (aDd bP ?_);refine rR (eqS nW rfl rfl rfl rfl ?_);refine Br.ffE zA ?_;refine aDc zA (aH _ _) (λe1 m2 _ oq=>by cases e1) λe1 m2 oq=>?_
    exact⟨hq,rfl,oq⟩
  obtain⟨rfl,rfl,rfl⟩:=hz
  by_cases hv:xv=[]
  ·subst hv
   have hq:iA ⟨[],xa,false,⟨0,0,[]⟩⟩=if reserved xa=true then none else bN [32] xa:=by unfold iA;rw[if_neg zS,if_neg zS,if_pos rfl]
   refine xB o λb200 m200 o200=>?_;refine fB cY ?_;refine oB o200 2 yF ?_;refine aDL (fB cY ?_);refine oB o200 2 aC ?_;refine aDK (fB cY ?_);refine oB o200 2 aC ?_;refine fB cY ?_;refine nB o200 2 cG ?_;refine rR (aDd bP ?_);refine rR (eqS nW rfl rfl rfl rfl ?_);refine aDK (lA o200 aB aC λb211 m211 o211=>?_);refine aDN (tO [[116,114,117,101],[102,97,108,115,101],[110,117,108,108]] xa _ _ (Own.boxArr zA 3 rfl rfl zD) zD) ?_;rintro _ m1 ⟨rfl,oc⟩;have o1:=oc.thenE (B:=B) zA
   rw[← vP]
   clear oc;cases hr:reserved xa with
   | true =>
    refine aDc zA (aH _ _) (λe1 m2 _ oq=>by cases e1) λe1 m2 oq=>?_
    exact⟨hq.trans (by rw[if_pos hr]),rfl,oq⟩
   | false =>
    refine aDc zA (aH _ _) (λe1 m2 _ oq=>?_) λe1 m2 oq=>by cases e1
    rw[if_neg (by rw[hr];decide)]at hq
    refine d1_ [0,1,2,3,5] [] [4,6,7] [0,1,2,3,4,5,6,7] ?_;refine nC rfl ?_;refine fC cC ?_;refine aDc zA (bT xa _ zO) (λe2 m3 _ oq=>?_) λe2 m3 oq=>?_
    ·have hnl:=bJ e2
     refine aDb rfl rfl w_ ?_;refine lA oq aB aC λb351 m351 o351=>?_;refine aM [[32]++xa] 1 30 [2] (i:=4) zA rfl rfl rfl hp rfl zO zO v_ zO zO (λp1 v1 bs1 k1 m1 hp1 hb1 hk1 hl1 oq=>?_);have o4:=oq
     simp only[pick,lgS,lgZ]at o4
     clear oq;refine fB cY ?_;refine oB o4 2 aC ?_;refine aDL (aDS rfl ?_);exact aDV (hq.trans (aD e2)) (o_ [0,1]) hp1 (by rw[hb1];simp[bX,gX,wr,aG]) hk1 zO zO
    ·exact⟨hq.trans (dM e2),rfl,oq⟩
  ·have hq:iA ⟨xv,xa,false,⟨0,0,[]⟩⟩=if reserved xv=true then none else fM xv xa:=by unfold iA;rw[if_neg zS,if_neg zS,if_neg hv]
   refine xB o λb400 m400 o400=>?_;refine fB cY ?_;refine oB o400 2 yF ?_;refine aDL (fB cY ?_);refine oB o400 2 aC ?_;refine bA λc405=>fB cY ?_;refine nB o400 2 cG ?_;refine rR (aDd bP ?_);refine rR (eqS nW rfl rfl rfl rfl ?_);refine aDK (lA o400 aB aC λb410 m410 o410=>?_);refine aDN (tO [[116,114,117,101],[102,97,108,115,101],[110,117,108,108]] xv _ _ (Own.boxArr zA 3 rfl rfl zD) zD) ?_;rintro _ m1 ⟨rfl,oc⟩;have o1:=oc.thenE (B:=B) zA
   rw[← vP]
   clear oc;cases hr:reserved xv with
   | true =>
    refine aDc zA (aH _ _) (λe1 m2 _ oq=>by cases e1) λe1 m2 oq=>?_
    exact⟨hq.trans (by rw[if_pos hr]),rfl,oq⟩
   | false =>
    refine aDc zA (aH _ _) (λe1 m2 _ oq=>?_) λe1 m2 oq=>by cases e1
    rw[if_neg (by rw[hr];decide)]at hq
    refine d1_ [0,1,2,3,5] [] [4,6,7] [0,1,2,3,4,5,6,7] ?_;refine nC rfl ?_;refine fC cC ?_;refine aDc zA (bT xv _ zO) (λe2 m3 _ oq=>?_) λe2 m3 oq=>?_
    ·have hnl:=bJ e2
     refine aDb rfl rfl w_ ?_;refine lA oq aB aC λb551 m551 o551=>?_;refine aM [[32]++xv] 1 30 [2] (i:=4) zA rfl rfl rfl hp rfl zO zO v_ zO zO (λp1 v1 bs1 k1 m1 hp1 hb1 hk1 hl1 oq=>?_);have o4:=oq
     simp only[pick,lgS,lgZ]at o4
     clear oq;refine fB cY ?_;refine oB o4 2 aC ?_;refine bD λc582=>d1_ [0,1,2,3] [4] [5,6,7] [0,1,2,3,4,5,6,7] ?_;refine nC rfl ?_;refine fC cC ?_;refine fC cY ?_;refine oC o4 2 aC ?_;refine aDc zA (bT xa _ zO) (λe3 m3 _ oq=>?_) λe3 m3 oq=>?_
     ·have hnl2:=bJ e3
      refine lA oq aB aC λb600 m600 o600=>?_;refine aM [[46],xa] 2 30 [2] (i:=3) zA rfl rfl rfl hp1 rfl zO zO v_ zO zO (λp2 v2 bs2 k2 m1 hp2 hb2 hk2 hl2 oq=>?_);have o5:=oq
      simp only[pick,lgS,lgZ]at o5
      clear oq;refine aDS rfl ?_;have hpl:fM xv xa=some [aG [32] xv,aS [] [46],aG [] xa]:=by unfold fM;simp only[aD e2,aD e3,aO,oMS];rfl
      exact aDV (hq.trans hpl) (o_ [0,1]) hp2 (by rw[hb2,hb1];simp[bX,gX,wr,aG,aS]) (by rw[hk2,hk1];simp;omega) zO zO
     ·exact⟨hq.trans (by unfold fM;simp only[aD e2,dM e3,aO,oMN]),rfl,oq⟩
    ·exact⟨hq.trans (by unfold fM;simp only[dM e2,aO]),rfl,oq⟩
def dD {α:Type}(one:Nat->α->Option (List Pc))(l:List α):Option (List Pc):=aO (l.mapIdx one)
theorem aAT {α:Type}{one:Nat->α->Option (List Pc)}{l:List α}{i:Nat}{x:α}{p:List Pc}(hx:l[i]?=some x)(hp:dD one (l.take i)=some p):dD one (l.take (i+1))=(one i x).map (p++·):=by
 have hi:i<l.length:=(aDZ.1 hx).1;have ht:l.take (i+1)=l.take i++[x]:=by rw[aEr,hx];simp
 unfold dD at hp ⊢
 rw[ht,List.mapIdx_append,gM,hp]
 have hl:(l.take i).length=i:=by rw[aEC];omega
 rw[hl]
 show(match some p,aO [one (0+i) x] with
  | some p,some q=>some (p++q)
  | _,_=>none)=_
 rw[aEg]
 cases one i x<;>simp[aO]
theorem loopQ_none {α:Type}{one:Nat->α->Option (List Pc)}{l:List α}{i:Nat}(hp:dD one (l.take i)=none):dD one l=none:=by
 have:dD one (l.take i++l.drop i)=none:=by
  unfold dD at hp ⊢
  rw[List.mapIdx_append,gM,hp]
 rwa [aEw]at this
theorem aV {α:Type}{one:Nat->α->Option (List Pc)}{l:List α}{i:Nat}{x:α}{p:List Pc}(hx:l[i]?=some x)(hp:dD one (l.take i)=some p)(h:one i x=none):dD one l=none :=
 loopQ_none (i:=i+1) (by rw[aAT hx hp,h];rfl)
theorem bL {α:Type}{one:Nat->α->Option (List Pc)}{l:List α}{i:Nat}{x:α}{p q:List Pc}(hx:l[i]?=some x)(hp:dD one (l.take i)=some p)(h:one i x=some q):dD one (l.take (i+1))=some (p++q):=by
 rw[aAT hx hp,h];rfl
theorem fF {α:Type}{one:Nat->α->Option (List Pc)}{l:List α}{i:Nat}{o:Option (List Pc)}(hi:l.length<=i)(hp:dD one (l.take i)=o):dD one l=o:=by
 rwa [aEa hi]at hp
theorem rF {α β:Type}(f0 f1:α->β)(x:α)(r:List α):(x::r).mapIdx (λi y=>if i=0 then f0 y else f1 y)=f0 x::r.map f1:=by
 rw[List.mapIdx_cons]
 congr 1
 simp only[Nat.add_one_ne_zero,if_false]
 induction r with
 | nil=>rfl
 | cons y r ih=>rw[List.mapIdx_cons,ih];rfl
theorem seqQ_last (a l:List (Option (List Pc))):aO (a++l)=aO (a++[aO l]):=by
 rw[gM,gM]
 cases aO a with
 | none=>rfl
 | some p =>
  cases aO l with
  | none=>rfl
  | some q=>simp[aO]
def pQ (i:Nat)(x:Cnd):Option (List Pc):=(kP x).map ((if i=0 then aG [32] [119,104,101,114,101] else aG [32] [97,110,100])::·)
theorem aB0 (p:Pc)(o:Option (List Pc))(r:List (Option (List Pc))):aO (some [p]::o::r)=aO (o.map (p::·)::r):=by
 cases o with
 | none=>rfl
 | some q =>
  show((aO r).map (q++·)).map ([p]++·)=(aO r).map ((p::q)++·)
  rw[Option.map_map]
  rfl
theorem zM (l:List Cnd)(h:l≠[]):lW l=dD pQ l:=by
 cases l with
 | nil=>exact absurd rfl h
 | cons x r =>
  show aO (some [aG [32] [119,104,101,114,101]]::kP x::r.map λy=>(kP y).map (aG [32] [97,110,100]::·))=_
  unfold dD
  rw[aB0]
  congr 1
  have:=rF (λx=>(kP x).map (aG [32] [119,104,101,114,101]::·)) (λx=>(kP x).map (aG [32] [97,110,100]::·)) x r
  rw[← this]
  congr 1
  funext i y
  unfold pQ;split<;>rfl
def eK {α:Type}(one:aBs->α->Option (List Pc))(i:Nat)(x:α):Option (List Pc):=if i=0 then one [] x else(one [32] x).map (aS [] [44]::·)
theorem pL {α:Type}(one:aBs->α->Option (List Pc))(l:List α)(h:l≠[]):eO one [] l=dD (eK one) l:=by
 cases l with
 | nil=>exact absurd rfl h
 | cons x r =>
  show aO (one [] x::r.map λy=>(one [32] y).map (aS [] [44]::·))=_
  unfold dD
  rw[show(x::r).mapIdx (eK one)=_ from rF (one []) (λy=>(one [32] y).map (aS [] [44]::·)) x r]
def aBJ (i:Nat)(x:Nmd):Option (List Pc):=(pW x).map ((if i=0 then aG [32] [119,104,101,114,101] else aS [] [44])::·)
theorem zF (l:List Nmd):xU l=dD aBJ l:=by
 cases l with
 | nil=>rfl
 | cons x r =>
  show aO (some [aG [32] [119,104,101,114,101]]::pW x::r.map λy=>(pW y).map (aS [] [44]::·))=_
  unfold dD
  rw[aB0]
  congr 1
  have:=rF (λx=>(pW x).map (aG [32] [119,104,101,114,101]::·)) (λx=>(pW x).map (aS [] [44]::·)) x r
  rw[← this]
  congr 1
  funext i y
  unfold aBJ;split<;>rfl
theorem aAl (l:List Trm):aO (l.map bM)=dD (λ_=>bM) l:=by
 unfold dD
 congr 1
 induction l with
 | nil=>rfl
 | cons x r ih=>rw[List.mapIdx_cons,aEx,ih]
def pE:aVs->aVs->Option Bool
 | [],[]=>some true
 | a::xs,b::ys=>match scEq a b,pE xs ys with
  | some p,some q=>some (p&&q)
  | _,_=>none
 | _,_=>none
theorem cmpL_app:∀ {a c b d:aVs}{r:Bool},a.length=c.length->pE (a++b) (c++d)=some r->∃ p q,pE a c=some p/\pE b d=some q/\r=(p&&q)
 | [],[],b,d,r,_,h=>⟨true,r,rfl,h,by simp⟩
 | x::a,y::c,b,d,r,hl,h=>by
  simp only[lcA,pE]at h
  split at h
  ·rename_i p q hp hq
   obtain⟨p',q',h1,h2,rfl⟩:=cmpL_app (a:=a) (c:=c) (by simpa using hl) hq
   refine⟨p&&p',q',?_,h2,?_⟩
   ·simp only[pE,hp,h1]
   ·simp only[Option.some.injEq]at h
    rw[← h,Bool.and_assoc]
  ·cases h
 | [],y::c,_,_,_,hl,_=>by simp at hl
 | x::a,[],_,_,_,hl,_=>by simp at hl
theorem aBi:∀ {a b:aVs}{r:Bool},pE a b=some r->a.length=b.length
 | [],[],_,_=>rfl
 | x::a,y::b,r,h=>by
  simp only[pE]at h
  split at h
  ·rename_i p q hp hq
   simp[aBi hq]
  ·cases h
 | [],_::_,_,h=>by simp[pE]at h
 | _::_,[],_,h=>by simp[pE]at h
section
variable {P : Program}
def FitsC (b:Bool)(ks:List Nat)(v v':Value)(r:Bool):Prop:=match b with
 | true=>∃ xs ys,v=.agg ⟨xs⟩/\v'=.agg ⟨ys⟩/\xs.map kE=ks/\pE xs ys=some r
 | false=>[kE v]=ks/\scEq v v'=some r
theorem part_fitsC {t:TypeId}{b:Bool}{ks:List Nat}{xs ys:aVs}{o:Nat}{u:TypeDesc}{r:Bool}(hu:P.underlying t=some u)(hb:mM u=b)(hs:(P.info? t).map (·.size)=some ks.length)(hk:((xs.drop o).take ks.length).map kE=ks)
  (hc:pE ((xs.drop o).take ks.length) ((ys.drop o).take ks.length)=some r) (h1:b=false->ks.length=1) (w:World) :
  ∃ v v',(part t (⟨xs⟩:Array Value) o).run P w=.ok v w/\(part t (⟨ys⟩:Array Value) o).run P w=.ok v' w/\FitsC b ks v v' r:=by
 have hI:(isAgg t).run P w=.ok b w:=by
  simp only[isAgg,Sem.run_bind,run_underlying hu,Result.andThen_ok]
  subst hb;cases u<;>simp[mM]
 cases b with
 | true =>
  obtain⟨i,hi,hsz⟩:=aEo.1 hs
  have hS:(sizeOf t).run P w=.ok ks.length w:=by simp[sizeOf,typeInfo,hi,hsz]
  have ex:∀ zs:aVs,Value.agg ((⟨zs⟩:Array Value).extract o (o+ks.length))=.agg ⟨(zs.drop o).take ks.length⟩:=λzs=>by
   congr 1
   apply Array.toList_inj.1
   simp[List.take_drop]
  exact⟨.agg ((⟨xs⟩:Array Value).extract o (o+ks.length)),.agg ((⟨ys⟩:Array Value).extract o (o+ks.length)),by simp[part,hI,hS],by simp[part,hI,hS],_,_,ex xs,ex ys,hk,hc⟩
 | false =>
  have hl:=h1 rfl
  match ks,hl with
  | [k],_ =>
   cases hx:xs.drop o with
   | nil=>rw[hx]at hk;simp at hk
   | cons y l =>
    rw[hx]at hk hc
    cases hy:ys.drop o with
    | nil=>rw[hy]at hc;simp[pE]at hc
    | cons y' l' =>
     rw[hy]at hc
     have h2:xs[o]?=some y:=by
      have:=congrArg (·[0]?) hx
      simpa using this
     have h3:ys[o]?=some y':=by
      have:=congrArg (·[0]?) hy
      simpa using this
     refine⟨y,y',by simp[part,hI,h2],by simp[part,hI,h3],?_⟩
     simp only[aD1,aD2,aEp,aES,pE]at hc
     simp only[aD1,aD2,aEp,aES,aEx,List.map_nil]at hk
     refine⟨hk,?_⟩
     split at hc
     ·rename_i p q hp hq
      simp only[Option.some.injEq]at hq hc
      subst hq
      rw[hp,← hc]
      simp
     ·cases hc
theorem aA8 {D:Nat}{rec_:TypeId->Option (Bool×List Nat)}{xs ys:aVs}(w:World)
  (hu:∀ t b ks,rec_ t=some (b,ks)->(∃ u,P.underlying t=some u/\mM u=b)/\(b=false->ks.length=1))
  (hr:∀ t b ks v v' r,rec_ t=some (b,ks)->FitsC b ks v v' r->(Op.equalIn D t v v').run P w=.ok r w) :
  ∀(fs:List Field) (o:Nat) (ks:List Nat) (r:Bool),goF P rec_ fs o=some ks->(xs.drop o).map kE=ks->pE (xs.drop o) (ys.drop o)=some r->(Op.eqFields D ⟨xs⟩ ⟨ys⟩ fs).run P w=.ok r w
 | [],o,ks,r,h,hk,hc=>by
  cases h
  have h0:xs.drop o=[]:=by simpa using hk
  rw[h0]at hc
  have:=aBi hc
  rw[aD3.1 this.symm]at hc
  simp only[pE,Option.some.injEq]at hc
  subst hc
  simp[Op.eqFields]
 | f::fs,o,ks,r,h,hk,hc=>by
  unfold goF at h;split at h
  ·rename_i hn
   simp only[aD0,bne_iff_ne,ne_eq,beq_iff_eq]at hn
   obtain⟨hn,rfl⟩:=hn
   split at h
   ·cases h
   ·rename_i b k1 hrec
    split at h
    ·rename_i hsz
     simp only[beq_iff_eq]at hsz
     obtain⟨k2,h2,h3⟩:=aEo.1 h
     subst h3
     obtain⟨⟨u,hu1,hu2⟩,h1⟩:=hu _ _ _ hrec
     have hka:((xs.drop f.offset).take k1.length).map kE=k1:=by
      have:=congrArg (List.take k1.length) hk
      rw[← List.map_take]at this
      simpa using this
     have hkb:(xs.drop (f.offset+k1.length)).map kE=k2:=by
      have:=congrArg (List.drop k1.length) hk
      rw[← List.map_drop,aEP]at this
      simpa using this
     have hll:=aBi hc;have hs1:pE ((xs.drop f.offset).take k1.length++(xs.drop f.offset).drop k1.length) ((ys.drop f.offset).take k1.length++(ys.drop f.offset).drop k1.length)=some r:=by
      rw[aEw,aEw];exact hc
     obtain⟨p,q,hp1,hq1,rfl⟩:=cmpL_app (by rw[aEC,aEC,hll]) hs1
     rw[aEP,aEP]at hq1
     obtain⟨v,v',hp,hp',hf⟩:=part_fitsC (P:=P) hu1 hu2 hsz hka hp1 h1 w
     have ih:=aA8 (xs:=xs) (ys:=ys) w hu hr fs _ k2 q h2 hkb hq1
     simp only[Op.eqFields,Sem.run_bind,Sem.run_ite]
     rw[if_pos hn,hp]
     simp only[Result.andThen_ok]
     rw[hp']
     simp only[Result.andThen_ok]
     rw[hr _ _ _ _ _ _ hrec hf]
     cases p
     ·simp
     ·simpa using ih
    ·cases h
  ·cases h
theorem deep_cmp (w:World):∀(d e:Nat)(t:TypeId)(b:Bool)(ks:List Nat)(v v':Value)(r:Bool),tM P d t=some (b,ks)->FitsC b ks v v' r->(Op.equalIn (d+e) t v v').run P w=.ok r w
 | 0,_,_,_,_,_,_,_,h,_=>by cases h
 | d+1,e,t,b,ks,v,v',r,h,hf=>by
  rw[show d+1+e=(d+e)+1 by omega]
  unfold tM at h;split at h
  ·rename_i hu
   cases h
   obtain⟨h1,h2⟩:=hf
   simp only[List.cons.injEq,and_true]at h1
   exact nR w (by rw[hu,h1];rfl) (by rw[h1];decide) h2
  ·rename_i hu
   cases h
   obtain⟨h1,h2⟩:=hf
   simp only[List.cons.injEq,and_true]at h1
   exact nR w (by rw[hu,h1];rfl) (by rw[h1];decide) h2
  ·rename_i hu
   cases h
   obtain⟨h1,h2⟩:=hf
   simp only[List.cons.injEq,and_true]at h1
   exact nR w (by rw[hu,h1];rfl) (by rw[h1];decide) h2
  ·rename_i fs hu
   split at h
   ·cases h
   ·rename_i hst
    obtain⟨k',h1,h2⟩:=aEo.1 h
    cases h2
    obtain⟨xs,ys,rfl,rfl,hk,hc⟩:=hf
    have hfo:P.fieldsOf t=fs:=by simp[Program.fieldsOf,hu]
    rw[run_equalIn_struct w _ t ⟨xs⟩ ⟨ys⟩ (by rw[hfo];exact hu) (by simpa using hst),hfo]
    exact aA8 w (λt b ks h=>⟨deepP_und h,λhb=>by subst hb;exact deepP_one h⟩) (λt b ks v v' r h hf=>deep_cmp w d e t b ks v v' r h hf) fs.toList 0 _ r h1 (by simpa using hk) (by simpa using hc)
  ·cases h
variable {ty : TypeId} {s : aVs} {h : Heap} {K : KK} {Q : QQ}
theorem StillVC.neDeep {pr:Bool}{t t':TypeId}{x y:Operand}{xs ys:aVs}{ks:List Nat}{r:Bool}(hp:tM P 5 t=some (true,ks))(hg:P.eqGuardType P.depth t=false)(hx:ev s x=.agg ⟨xs⟩)(hy:ev s y=.agg ⟨ys⟩)(hk:xs.map kE=ks)
  (hc:pE xs ys=some r) (hK:K (.bool (!r)) false h):StillVC pr P (.binOp .neq t x y t') ty s h K :=
 .pure' _ false (λw=>by
  have hr:(Op.equalIn 10000 t (.agg ⟨xs⟩) (.agg ⟨ys⟩)).run P w=.ok r w:=deep_cmp w 5 9995 t true ks _ _ r hp ⟨xs,ys,rfl,rfl,hk,hc⟩
  simp only[execOp,hx,hy,Sem.run_bind,run_eqGuard_agg w .neq t x y _ _ hg,Result.andThen_ok,run_neq_struct,hr,Sem.run_pure]) hK
end
theorem cmp_cnd (x y:Cnd):∃ r,pE (nN x) (nN y)=some r/\(r=true↔x=y):=by
 obtain⟨⟨a1,a2,a3,⟨a4,a5,a6⟩⟩,a7,⟨a8,a9,a10,⟨a11,a12,a13⟩⟩,a14⟩:=x
 obtain⟨⟨b1,b2,b3,⟨b4,b5,b6⟩⟩,b7,⟨b8,b9,b10,⟨b11,b12,b13⟩⟩,b14⟩:=y
 exact⟨_,rfl,by simp only[aD0,decide_eq_true_eq,Cnd.mk.injEq,Opd.mk.injEq,Vl.mk.injEq,and_assoc,and_true]⟩
theorem cmp_col (x y:Col):∃ r,pE (vE x) (vE y)=some r/\(r=true↔x=y):=by
 obtain⟨a1,a2,⟨a3,a4,a5⟩⟩:=x
 obtain⟨b1,b2,⟨b3,b4,b5⟩⟩:=y
 exact⟨_,rfl,by simp only[aD0,decide_eq_true_eq,Col.mk.injEq,Vl.mk.injEq,and_true]⟩
theorem cmp_trm (x y:Trm):∃ r,pE (wP x) (wP y)=some r/\(r=true↔x=y):=by
 obtain⟨a1,a2,a3,a4,a5,a6,a7⟩:=x
 obtain⟨b1,b2,b3,b4,b5,b6,b7⟩:=y
 exact⟨_,rfl,by simp only[aD0,decide_eq_true_eq,Trm.mk.injEq,and_true]⟩
theorem cmp_vr (x y:Vr):∃ r,pE (vrC x) (vrC y)=some r/\(r=true↔x=y):=by
 obtain⟨a1,a2⟩:=x
 obtain⟨b1,b2⟩:=y
 exact⟨_,rfl,by simp only[aD0,decide_eq_true_eq,Vr.mk.injEq,and_true]⟩
theorem aB3 {α β:Type}{f:α->Option β}:∀ {l:List α}{r:List β},l.mapM f=some r->r.length=l.length/\∀(i:Nat)(x:α),l[i]?=some x->∃ y,r[i]?=some y/\f x=some y
 | [],r,h=>by
  simp at h
  subst h
  simp
 | x::l,r,h=>by
  rw[List.mapM_cons]at h
  cases hx:f x with
  | none=>rw[hx]at h;cases h
  | some y =>
   cases hl:l.mapM f with
   | none=>rw[hx,hl]at h;cases h
   | some s =>
    rw[hx,hl]at h
    cases h
    obtain⟨h1,h2⟩:=aB3 hl
    refine⟨by simp[h1],λi z hz=>?_⟩
    cases i with
    | zero=>simp at hz;subst hz;exact⟨y,rfl,hx⟩
    | succ i=>exact h2 i z (by simpa using hz)
abbrev pB:Nat->Nat->Prop:=λ_ _=>True
theorem aY.isS {sz n:Nat}{h:Heap}{v:Value}{xs:aVs}(a:aY sz h v n xs):∃ e f,v=.slice e n f:=by
 obtain⟨_,e,f,hv,_⟩:=a
 exact⟨e,f,hv⟩
theorem oH {α:Type}{a b:List α}(hl:a.length=b.length)(h:∀ j,j<a.length->a[j]?=b[j]?):a=b:=by
 apply List.ext_getElem?
 intro j;by_cases hj:j<a.length
 ·exact h j hj
 ·rw[aEA zO,aEA zO]
theorem qI {α:Type}{a b:List α}{i:Nat}{s:α}(h:∀ j,j<i->a[j]?=b[j]?)(ha:a[i]?=some s)(hb:b[i]?=some s):∀ j,j<i+1->a[j]?=b[j]?:=λj hj=>by
 by_cases e:j=i
 ·subst e
  rw[ha,hb]
 ·exact h j zO
theorem aAP {α:Type}{a b:List α}{i:Nat}{s t:α}(ha:a[i]?=some s)(hb:b[i]?=some t)(h:¬ s=t):¬ a=b:=λe=>by
 subst e
 rw[ha]at hb
 exact h (Option.some.inj hb)
theorem aAr (a b:List aBs)(va vb:Value)(h:Heap)(hA:Arr h va (strs a))(hB:Arr h vb (strs b))(hl:a.length<=1000000000000000)(hl2:b.length<=1000000000000000) :
  bG Tryz.prog 119 [va,vb] h λr h'=>r=.bool (decide (a=b))/\Own h [] h':=by
 have hsl:(strs a).length=a.length:=by simp[strs]
 have hsl2:(strs b).length=b.length:=by simp[strs]
 refine eN Tryz.func119 Tryz.ntmps119 ?_;have o0:=Own.refl h;by_cases hlen:a.length=b.length
 ·refine rR (aDv hA zA aB ?_)
  refine rR (aDv hB zA aB ?_);refine bC λc12=>?_;refine aDT [4,5,11,12,13,14,15,16,17,18,19,20,21,22,23,24,25] [5] (λvs hh=>∃(i:Nat),i<=a.length/\vs=[.int .i64 i]/\(∀ j,j<i->a[j]?=b[j]?)/\Own h [] hh) (λvs _=>match vs with|[.int _ i]=>a.length - i.toNat|_=>0) ?_ ?_
  ·exact⟨0,by omega,rfl,λj hj=>by omega,o0⟩
  ·rintro vs junk hh ⟨i,hi,rfl,hpre,oh⟩
   by_cases hlt:i<a.length
   ·obtain⟨s,hs⟩:=getx hlt
    obtain⟨t,ht⟩:=getx (show i<b.length by omega)
    have hss:(strs a)[i]?=some (sv s):=by simp[strs,hs]
    have htt:(strs b)[i]?=some (sv t):=by simp[strs,ht]
    by_cases he:s=t
    ·subst he
     refine rR (aDv (hA.ext oh.ext) zA aB ?_);refine bB λc21=>d1_ [0,1,2,4,5,6,8] [3,7] [] [0,1,2,3,4,5,6,7,8] ?_;refine idx aB aC (hA.ext oh.ext) rfl zO zO ?_;refine aDq (hA.ext oh.ext) aC rfl a_ ?_;refine idx aB aC (hB.ext oh.ext) rfl zO zO ?_;refine aDq (hB.ext oh.ext) aC rfl a_ ?_;refine bC λc26=>aR ?_
     refine⟨rfl,?_⟩
     exact⟨⟨i+1,by omega,rfl,qI hpre hs ht,o_ []⟩,by simp;omega⟩
    ·refine rR (aDv (hA.ext oh.ext) zA aB ?_)
     refine bB λc61=>d1_ [0,1,2,4,5,6,8] [3,7] [] [0,1,2,3,4,5,6,7,8] ?_;refine idx aB aC (hA.ext oh.ext) rfl zO zO ?_;refine aDq (hA.ext oh.ext) aC rfl a_ ?_;refine idx aB aC (hB.ext oh.ext) rfl zO zO ?_;refine aDq (hB.ext oh.ext) aC rfl a_ ?_;refine bD λc66=>rO ?_
     exact⟨congrArg Value.bool (decide_eq_false (aAP hs ht he)).symm,oh⟩
   ·refine rR (aDv (hA.ext oh.ext) zA aB ?_)
    refine bA λc41=>rO ?_
    exact⟨congrArg Value.bool (decide_eq_true (oH hlen λj hj=>hpre j zO)).symm,oh⟩
 ·refine rR (aDv hA zA aB ?_)
  refine rR (aDv hB zA aB ?_);refine bD λc82=>rO ?_
  exact⟨congrArg Value.bool (decide_eq_false λe=>hlen (by rw[e])).symm,o0⟩
theorem vL (a b:List Cnd)(va vb:Value)(h:Heap)(hA:aY 14 h va a.length (a.flatMap nN))(hB:aY 14 h vb b.length (b.flatMap nN))(hl:a.length<=1000000000000000)(hl2:b.length<=1000000000000000) :
  bG Tryz.prog 120 [va,vb] h λr h'=>∃ bb:Bool,r=.bool bb/\(bb=true↔a=b)/\Own h [] h':=by
 refine eN Tryz.func120 Tryz.ntmps120 ?_;have o0:=Own.refl h;by_cases hlen:a.length=b.length
 ·refine rR (aDw hA gL ?_)
  refine rR (aDw hB gL ?_);refine bC λc12=>?_;refine aDT [4,5,11,12,13,14,15,16,17,18,19,20,21,22,23,24,25] [5] (λvs hh=>∃(i:Nat),i<=a.length/\vs=[.int .i64 i]/\(∀ j,j<i->a[j]?=b[j]?)/\Own h [] hh) (λvs _=>match vs with|[.int _ i]=>a.length - i.toNat|_=>0) ?_ ?_
  ·exact⟨0,by omega,rfl,λj hj=>by omega,o0⟩
  ·rintro vs junk hh ⟨i,hi,rfl,hpre,oh⟩
   by_cases hlt:i<a.length
   ·obtain⟨s,hs⟩:=getx hlt
    obtain⟨t,ht⟩:=getx (show i<b.length by omega)
    obtain⟨r,hc,hr⟩:=cmp_cnd s t
    cases r with
    | true =>
     obtain rfl:=hr.1 rfl;refine rR (aDw (hA.ext oh.ext) gL ?_);refine bB λc21=>d1_ [0,1,2,4,5,6,8] [3,7] [] [0,1,2,3,4,5,6,7,8] ?_;refine aDe gL eB (hA.ext oh.ext) rfl zO zO ?_;refine aDg eB (hA.ext oh.ext) (λ_=>rfl) zD rfl zA ?_;refine aDe gL eB (hB.ext oh.ext) rfl zO zO ?_;refine aDg eB (hB.ext oh.ext) (λ_=>rfl) zD rfl zA ?_;refine neDeep dp_cond eg_cond rfl rfl rfl hc ?_;refine aDL (aR ?_)
     refine⟨rfl,?_⟩
     exact⟨⟨i+1,by omega,rfl,qI hpre hs ht,o_ []⟩,by simp;omega⟩
    | false =>
     refine rR (aDw (hA.ext oh.ext) gL ?_);refine bB λc61=>d1_ [0,1,2,4,5,6,8] [3,7] [] [0,1,2,3,4,5,6,7,8] ?_;refine aDe gL eB (hA.ext oh.ext) rfl zO zO ?_;refine aDg eB (hA.ext oh.ext) (λ_=>rfl) zD rfl zA ?_;refine aDe gL eB (hB.ext oh.ext) rfl zO zO ?_;refine aDg eB (hB.ext oh.ext) (λ_=>rfl) zD rfl zA ?_;refine neDeep dp_cond eg_cond rfl rfl rfl hc ?_;refine aDK (rO ?_)
     exact⟨false,rfl,⟨λh=>(by cases h),λe=>absurd e (aAP hs ht λe=>by have:=hr.2 e;cases this)⟩,o_ []⟩
   ·refine rR (aDw (hA.ext oh.ext) gL ?_)
    refine bA λc41=>rO ?_
    exact⟨true,rfl,⟨λ_=>oH hlen λj hj=>hpre j zO,λ_=>rfl⟩,oh⟩
 ·refine rR (aDw hA gL ?_)
  refine rR (aDw hB gL ?_);refine bD λc82=>rO ?_
  exact⟨false,rfl,⟨λh=>(by cases h),λe=>absurd (by rw[e]) hlen⟩,o0⟩
theorem exsQ_of {Q:Nat->Nat->Prop}:∀ {l m:List Ex},l.length=m.length->(∀(i:Nat)(x y:Ex),l[i]?=some x->m[i]?=some y->ExQ Q x y)->wM Q l m
 | [],[],_,_=>trivial
 | a::l,b::m,hl,h=>⟨h 0 a b rfl rfl,exsQ_of (by simpa using hl) λi x y hx hy=>h (i+1) x y (by simpa using hx) (by simpa using hy)⟩
 | a::l,[],hl,_=>by simp at hl
 | [],b::m,hl,_=>by simp at hl
theorem oT:∀(n:Nat)(x y:Ex)(c d:aVs)(h:Heap)(_:eL x<=n)(_:gK x)(_:gK y)(_:fT h c x)(_:fT h d y),
  bG Tryz.prog 122 [.agg ⟨c⟩,.agg ⟨d⟩,.bool false] h λr h'=>∃ bb:Bool,r=.bool bb/\(bb=true↔ExQ pB x y)/\Own h [] h'
 | 0,.mk _ _ _ _ _ _ _ _ _,_,_,_,_,hd,_,_,_,_=>absurd hd (by rw[eL];omega)
 | n+1,.mk k t ks cs ns a s g o,.mk k' t' ks' cs' ns' a' s' g' o',c,d,h,hd,hB,hB',hc,hD=>by
  rw[eL]at hd
  rw[gK]at hB hB'
  rw[fT]at hc hD
  rw[ExQ]
  obtain⟨vk,vc,vn,z,rfl,q1,q2,xs,q3,rk⟩:=hc
  obtain⟨uk,uc,un,z',rfl,w1,w2,ys,w3,pk⟩:=hD
  obtain⟨_,_,b4,_,_,_,_,_,b1,b2,b3⟩:=hB
  obtain⟨_,_,d4,_,_,_,_,_,d1,d2,d3⟩:=hB'
  obtain⟨e1,f1,rfl⟩:=q1.isS
  obtain⟨e2,f2,rfl⟩:=q2.isS
  obtain⟨e3,f3,rfl⟩:=q3.isS
  obtain⟨e4,f4,rfl⟩:=w1.isS
  obtain⟨e5,f5,rfl⟩:=w2.isS
  obtain⟨e6,f6,rfl⟩:=w3.isS
  rw[jC]at q2 w2
  unfold kG;have hxs:xs.length=ks.length:=lU rk;have hys:ys.length=ks'.length:=lU pk;refine eN Tryz.func122 Tryz.ntmps122 ?_;have o0:=Own.refl h;by_cases c0:k=k'
  case neg =>
   refine xB o0 λb10 m10 o10=>?_;refine xB o10 λb11 m11 o11=>?_;refine aDL (fB aE ?_);refine oB o11 0 aK ?_;refine fB aE ?_;refine oB o11 1 aK ?_;refine bD λc16=>aDK ?_;refine rO ?_
   exact⟨false,rfl,⟨λh=>(by cases h),λhq=>absurd hq.1 c0⟩,o_ []⟩
  subst k';by_cases c1:t=t'
  case neg =>
   refine xB o0 λb60 m60 o60=>?_;refine xB o60 λb61 m61 o61=>?_;refine aDL (fB aE ?_);refine oB o61 0 aK ?_;refine fB aE ?_;refine oB o61 1 aK ?_;refine bC λc66=>fB aE ?_;refine oB o61 0 aC ?_;refine fB aE ?_;refine oB o61 1 aC ?_;refine bD λc71=>aDK ?_;refine rO ?_
   exact⟨false,rfl,⟨λh=>(by cases h),λhq=>absurd hq.2.1 c1⟩,o_ []⟩
  subst t';by_cases c2:a=a'
  case neg =>
   refine xB o0 λb110 m110 o110=>?_;refine xB o110 λb111 m111 o111=>?_;refine aDL (fB aE ?_);refine oB o111 0 aK ?_;refine fB aE ?_;refine oB o111 1 aK ?_;refine bC λc116=>fB aE ?_;refine oB o111 0 aC ?_;refine fB aE ?_;refine oB o111 1 aC ?_;refine bC λc121=>fB aE ?_;refine oB o111 0 aC ?_;refine fB aE ?_;refine oB o111 1 aC ?_;refine bD λc126=>aDK ?_;refine rO ?_
   exact⟨false,rfl,⟨λh=>(by cases h),λhq=>absurd hq.2.2.2.2.1 c2⟩,o_ []⟩
  subst a';by_cases c3:s=s'
  case neg =>
   refine xB o0 λb160 m160 o160=>?_;refine xB o160 λb161 m161 o161=>?_;refine aDL (fB aE ?_);refine oB o161 0 aK ?_;refine fB aE ?_;refine oB o161 1 aK ?_;refine bC λc166=>fB aE ?_;refine oB o161 0 aC ?_;refine fB aE ?_;refine oB o161 1 aC ?_;refine bC λc171=>fB aE ?_;refine oB o161 0 aC ?_;refine fB aE ?_;refine oB o161 1 aC ?_;refine bC λc176=>fB aE ?_;refine oB o161 0 aC ?_;refine fB aE ?_;refine oB o161 1 aC ?_;refine bD λc181=>aDK ?_;refine rO ?_
   exact⟨false,rfl,⟨λh=>(by cases h),λhq=>absurd hq.2.2.2.2.2.1 c3⟩,o_ []⟩
  subst s';by_cases c4:g=g'
  case neg =>
   refine xB o0 λb210 m210 o210=>?_;refine xB o210 λb211 m211 o211=>?_;refine aDL (fB aE ?_);refine oB o211 0 aK ?_;refine fB aE ?_;refine oB o211 1 aK ?_;refine bC λc216=>fB aE ?_;refine oB o211 0 aC ?_;refine fB aE ?_;refine oB o211 1 aC ?_;refine bC λc221=>fB aE ?_;refine oB o211 0 aC ?_;refine fB aE ?_;refine oB o211 1 aC ?_;refine bC λc226=>fB aE ?_;refine oB o211 0 aC ?_;refine fB aE ?_;refine oB o211 1 aC ?_;refine bC λc231=>fB aE ?_;refine oB o211 0 aK ?_;refine fB aE ?_;refine oB o211 1 aK ?_;refine bD λc236=>aDK ?_;refine rO ?_
   exact⟨false,rfl,⟨λh=>(by cases h),λhq=>absurd hq.2.2.2.2.2.2.1 c4⟩,o_ []⟩
  subst g';by_cases hkl:ks.length=ks'.length
  case neg =>
   refine xB o0 λb260 m260 o260=>?_;refine xB o260 λb261 m261 o261=>?_;refine aDL (fB aE ?_);refine oB o261 0 aK ?_;refine fB aE ?_;refine oB o261 1 aK ?_;refine bC λc266=>fB aE ?_;refine oB o261 0 aC ?_;refine fB aE ?_;refine oB o261 1 aC ?_;refine bC λc271=>fB aE ?_;refine oB o261 0 aC ?_;refine fB aE ?_;refine oB o261 1 aC ?_;refine bC λc276=>fB aE ?_;refine oB o261 0 aC ?_;refine fB aE ?_;refine oB o261 1 aC ?_;refine bC λc281=>fB aE ?_;refine oB o261 0 aK ?_;refine fB aE ?_;refine oB o261 1 aK ?_;refine bC λc286=>fB aE ?_;refine oB o261 0 cR ?_;refine lB cH ?_;refine fB aE ?_;refine oB o261 1 cR ?_;refine lB cH ?_;refine bD λc293=>aDK ?_;refine rO ?_
   exact⟨false,rfl,⟨λh=>(by cases h),λhq=>absurd (exsQ_len hq.2.2.2.2.2.2.2.2) hkl⟩,o_ []⟩
  refine xB o0 λb500 m500 o500=>?_;refine xB o500 λb501 m501 o501=>?_;refine aDL (fB aE ?_);refine oB o501 0 aK ?_;refine fB aE ?_;refine oB o501 1 aK ?_;refine bC λc506=>fB aE ?_;refine oB o501 0 aC ?_;refine fB aE ?_;refine oB o501 1 aC ?_;refine bC λc511=>fB aE ?_;refine oB o501 0 aC ?_;refine fB aE ?_;refine oB o501 1 aC ?_;refine bC λc516=>fB aE ?_;refine oB o501 0 aC ?_;refine fB aE ?_;refine oB o501 1 aC ?_;refine bC λc521=>fB aE ?_;refine oB o501 0 aK ?_;refine fB aE ?_;refine oB o501 1 aK ?_;refine bC λc526=>fB aE ?_;refine oB o501 0 cR ?_;refine lB cH ?_;refine fB aE ?_;refine oB o501 1 cR ?_;refine lB cH ?_;refine bC λc533=>fB aE ?_;refine oB o501 0 cS ?_;refine fB aE ?_;refine oB o501 1 cS ?_;refine aDN (aAr ns ns' _ _ _ (q2.ext (Own.ext (B:=h) zA)).to1 (w2.ext (Own.ext (B:=h) zA)).to1 b3 d3) ?_;rintro _ hs1 ⟨rfl,oc1⟩;have os1:=oc1.thenE zA;by_cases hns:ns=ns'
  case neg =>
   rw[decide_eq_false hns]
   refine aDK (aDK ?_);refine rO ?_
   exact⟨false,rfl,⟨λh=>(by cases h),λhq=>absurd hq.2.2.2.1 hns⟩,o_ []⟩
  subst ns'
  rw[decide_eq_true rfl]
  refine bC λc700=>fB aE ?_;refine oB os1 0 kI ?_;refine fB aE ?_;refine oB os1 1 kI ?_;refine aDN (vL cs cs' _ _ _ (q1.ext os1.ext) (w1.ext os1.ext) b2 d2) ?_;rintro _ hs2 ⟨bb,rfl,hbb,oc2⟩;have os2:=oc2.thenE os1;cases bb with
  | false =>
   refine aDK (rO ?_)
   exact⟨false,rfl,⟨λh=>(by cases h),λhq=>by have:=hbb.2 hq.2.2.1;cases this⟩,o_ []⟩
  | true =>
  obtain rfl:=hbb.1 rfl;refine aDL ?_;refine aDT [6,7,76,77,78,79,80,81,82,83,84,85,86,87,88,89,90,91,92,93,94,95] [7] (λvs hh=>∃(i:Nat),i<=ks.length/\vs=[.int .i64 i]/\(∀(j:Nat) (x y:Ex),j<i->ks[j]?=some x->ks'[j]?=some y->ExQ pB x y)/\Own h [box b500 [.int .i64 k,.string ⟨⟨t⟩⟩,.slice e3 ks.length f3,.slice e1 cs.length f1,.slice e2 ns.length f2,.string ⟨⟨a⟩⟩,.string ⟨⟨s⟩⟩,.int .i64 g,.int .i64 z] 42,box b501 [.int .i64 k,.string ⟨⟨t⟩⟩,.slice e6 ks'.length f6,.slice e4 cs.length f4,.slice e5 ns.length f5,.string ⟨⟨a⟩⟩,.string ⟨⟨s⟩⟩,.int .i64 g,.int .i64 z'] 42] hh) (λvs _=>match vs with|[.int _ i]=>ks.length - i.toNat|_=>0) ?_ ?_
  ·exact⟨0,by omega,rfl,λj x y hj=>by omega,os2⟩
  ·rintro vs junk hh ⟨i,hi,rfl,hpre,oh⟩
   clear oc1 os1 oc2 os2;by_cases hlt:i<ks.length
   ·obtain⟨kx,hkx⟩:=getx hlt
    obtain⟨ky,hky⟩:=getx (show i<ks'.length by omega)
    obtain⟨cx,hcx,hrx⟩:=iC rk hkx
    obtain⟨cy,hcy,hry⟩:=iC pk hky
    refine fB aE ?_;refine oB oh 0 cR ?_;refine lB cH ?_;refine bB λc903=>d1_ [0,2,3,5,7,8,10,12] [1,4,6,9] [11] [0,1,2,3,4,5,6,7,8,9,10,11,12] ?_;refine fC aE ?_;refine oC oh 0 cR ?_;refine aDe cH aQ (q3.ext oh.ext) rfl zO zO ?_;refine aDg aQ (q3.ext oh.ext) (λy:dG=>y.2) zD rfl zA ?_;refine fC aE ?_;refine oC oh 1 cR ?_;refine aDe cH aQ (w3.ext oh.ext) rfl zO zO ?_;refine aDg aQ (w3.ext oh.ext) (λy:dG=>y.2) zD rfl zA ?_;refine aDN (oT n kx ky cx.1 cy.1 _ (aEc (fX hkx) zO) (gG b4 hkx) (gG d4 hky) (fT.ext oh.ext _ _ hrx) (fT.ext oh.ext _ _ hry)) ?_;rintro _ hs3 ⟨bb,rfl,hbk,oc3⟩;have os3:=oc3.thenE oh;cases bb with
    | true =>
     refine aDL (aR ?_)
     refine⟨rfl,?_⟩
     refine⟨⟨i+1,by omega,rfl,λj x y hj hx hy=>?_,o_ [0,1]⟩,by simp;omega⟩
     by_cases e:j=i
     ·subst e
      rw[hkx]at hx
      rw[hky]at hy
      cases hx
      cases hy
      exact hbk.1 rfl
     ·exact hpre j x y zO hx hy
    | false =>
     refine aDK (rO ?_)
     refine⟨false,rfl,⟨λh=>(by cases h),λhq=>?_⟩,o_ []⟩
     obtain⟨y',hy',hxy⟩:=exsQ_get hq.2.2.2.2.2.2.2.2 hkx
     rw[hky]at hy'
     cases hy'
     have:=hbk.2 hxy
     cases this
   ·refine fB aE ?_
    refine oB oh 0 cR ?_;refine lB cH ?_;refine bA λc1053=>rO ?_
    exact⟨true,rfl,⟨λ_=>⟨rfl,rfl,rfl,rfl,rfl,rfl,rfl,trivial,exsQ_of hkl λj x y hx hy=>hpre j x y (by have:=(aDZ.1 hx).1;omega) hx hy⟩,λ_=>rfl⟩,o_ []⟩
theorem vT (B:Base)(b:Nat)(p v:Value)(k:Int)(bs:aBs)(l:List Cnd)(vs:Value)(h:Heap)(hp:dI b p)(hT:kQ B.h)(hA:aY 14 B.h vs l.length (l.flatMap nN))(hOK:∀ c∈l,uL c)
  (o:Own B [box b [p,v,iv k] 58,row v 5 1 bs.length (bytes bs)] h) (hl:bs.length+2000*l.length<=50000000000000) (hk:0<=k/\k+2000*l.length<=50000000000000) :
  Spec Tryz.prog 127 [pv b 0,vs] h (WEnds B b bs k (2000*l.length) (lW l)):=by
 obtain⟨ya,yc,rfl⟩:=hA.isS
 refine eN Tryz.func127 Tryz.ntmps127 ?_;by_cases h0:l=[]
 ·subst h0
  refine lB gL ?_;refine aDc zA (aH _ _) (λe1 m2 _ oq=>by cases e1) λe1 m2 oq=>?_
  exact⟨rfl,rfl,oq⟩
 have hpos:0<l.length:=List.length_pos_iff.2 h0;refine lB gL ?_;refine aDc zA (aH _ _) (λe1 m2 oc oq=>?_) λe1 m2 oq=>absurd (of_decide_eq_false e1) zO;clear oc o
 rw[zM l h0]
 refine lB gL ?_;refine aDT [4,6,13,14,15,16,17,18,19,20,21,22,23,24,25,26,27,28,29,30,31,32,33,34,35,36,37,38,39,40,41,42,43,44,45,46,47,48,49,50,51,52,53,54,55,56,57,58,59,60,61,62,63,64,65,66,67,68,69,70,71,72,73,74] [4,13] (λvs' hh=>∃(i:Nat) (p' v':Value) (bs' be:aBs) (k':Int) (ps:List Pc),i<=l.length/\be=(if i=0 then[32,119,104,101,114,101] else[32,97,110,100])/\vs'=[.string ⟨⟨be⟩⟩,.int .i64 i]/\dI b p'/\dD pQ (l.take i)=some ps/\bs'=bs++bX ps/\k'=k+ps.length/\bs'.length<=bs.length+2000*i/\k'<=k+2000*i/\Own B [box b [p',v',.int .i64 k'] 58,row v' 5 1 bs'.length (bytes bs')] hh) (λvs' _=>match vs' with|[_,.int _ i]=>l.length - i.toNat|_=>0) ?_ ?_
 ·exact⟨0,p,v,bs,_,k,[],by omega,rfl,rfl,hp,rfl,by simp[bX],by simp,by omega,by omega,oq⟩
 ·rintro vs' junk hh ⟨i,p',v',bs',be,k',ps,hi,hbe,rfl,hp',hQ,hb',hk',hl',hk2,oh⟩
  clear oq;by_cases hlt:i<l.length
  ·obtain⟨x,hx⟩:=getx hlt
   have hxOK:=hOK x (aDY hx)
   obtain⟨hL,hop,hR,hadd⟩:=hxOK
   have hbl:be.length<=6:=by rw[hbe];split<;>simp
   have hkk:0<=k':=by omega
   have hm:2000*i+2000<=2000*l.length:=by omega
   refine bB λc50=>rR (aDe gL eB (hA.ext oh.ext) rfl zO zO ?_);refine rR (aDg eB (hA.ext oh.ext) (λ_=>rfl) zD rfl zA ?_);refine aDH oh eB λb53 m53 o53=>?_;(refine sA o53 2 eB ?_;intro m54 o54);refine cB ?_;refine fB cC ?_;refine lA o54 aB aC λb57 m57 o57=>?_;refine aM [be] 1 30 [2] (i:=3) zA rfl rfl rfl hp' rfl zO zO v_ zO zO (λp1 v1 bs1 k1 m1 hp1 hb1 hk1 hl1 oq=>?_);have o1:=oq
   simp only[pick,lgS,lgZ]at o1
   clear oq;have hone:pQ i x=(aO [iA x.left,opQ x.op,iA x.right,rW x.add]).map ((if i=0 then aG [32] [119,104,101,114,101] else aG [32] [97,110,100])::·):=rfl;generalize hw:(if i=0 then aG [32] [119,104,101,114,101] else aG [32] [97,110,100])=w at hone;have hwb:gX w=be:=by rw[hbe,← hw];split<;>rfl
   refine fB fG ?_;refine nB o1 2 lE ?_;refine WEnds.callJ [2] zA rfl rfl (λJ oj=>yQ _ b p1 v1 k1 bs1 x.left _ hp1 hT oj zO hL zO) (λps2 p2 v2 bs2 k2 m2 hq2 hp2 hb2 hk2' hl2 _ hj2 oq=>?_) (λm2 hq2 oq=>?_)
   case refine_2 =>
    have:pQ i x=none:=by rw[hone];simp only[hq2,aO,oMN]
    exact⟨aV hx hQ this,rfl,oq⟩
   have o2:=oq
   simp only[pick,lgS,lgZ]at o2
   clear oq o1;refine d1_ [0,1,2,3] [4] [6,7,8] [0,1,2,3,4,5,6,7,8] ?_;refine nC rfl ?_;refine fC cC ?_;refine fC fG ?_;refine oC o2 2 aK ?_;refine lA (Own.refl _) aB aC λb124 m124 o124=>?_;(refine aI o124.ext ?_;have o125:=Own.call o2 o124;simp only[lcA,lnA]at o125;clear o124);refine aDc zA (eS _ [[61],[33,61],[60],[60,61]] _ _ zO zO (Own.boxArr zA 3 rfl rfl zD) zS zS) (λe3 m3 _ oq=>?_) λe3 m3 oq=>?_
   case refine_2 =>
    have e3:=of_decide_eq_false e3
    simp only[aD1,aD2]at e3
    have:pQ i x=none:=by rw[hone];simp only[hq2,show opQ x.op=none from if_neg zO,aO,oMN]
    exact⟨aV hx hQ this,rfl,oq⟩
   have e3:=of_decide_eq_true e3
   simp only[aD1,aD2]at e3
   have hq3:opQ x.op=some [aS [32] (([[61],[33,61],[60],[60,61]]:List aBs).getD (x.op - 1).toNat [])]:=if_pos zO;have hwl:(([[61],[33,61],[60],[60,61]]:List aBs).getD (x.op - 1).toNat []).length<=2:=by
    have:x.op=1∨x.op=2∨x.op=3∨x.op=4:=by omega
    rcases this with h|h|h|h<;>rw[h]<;>decide
   generalize (([[61],[33,61],[60],[60,61]]:List aBs).getD (x.op - 1).toNat [])=opw at hq3 hwl
   refine lA oq aB aC λb140 m140 o140=>?_;refine aM [32::opw] 1 30 [2] (i:=4) zA rfl rfl rfl hp2 rfl zO zO v_ zO zO (λp4 v4 bs4 k4 m4 hp4 hb4 hk4 hl4 oq=>?_);have o4:=oq
   simp only[pick,lgS,lgZ]at o4
   clear oq o2;refine fB fG ?_;refine nB o4 2 lE ?_;refine WEnds.callJ [2] zA rfl rfl (λJ oj=>yQ _ b p4 v4 k4 bs4 x.right _ hp4 hT oj zO hR zO) (λps5 p5 v5 bs5 k5 m5 hq5 hp5 hb5 hk5 hl5 _ hj5 oq=>?_) (λm5 hq5 oq=>?_)
   case refine_2 =>
    have:pQ i x=none:=by rw[hone];simp only[hq2,hq3,hq5,aO,oMN]
    exact⟨aV hx hQ this,rfl,oq⟩
   have o5:=oq
   simp only[pick,lgS,lgZ]at o5
   clear oq o4;by_cases hr:-9999999999<=x.add/\x.add<=9999999999
   case neg =>
    have hq6:rW x.add=none:=if_pos hr;have hn:pQ i x=none:=by rw[hone];simp only[hq2,hq3,hq5,hq6,aO,oMN]
    by_cases hr1:-9999999999<=x.add
    ·refine fB fG ?_
     refine oB o5 2 aK ?_;refine bB λc202=>fB fG ?_;refine oB o5 2 aK ?_;refine aDc zA (aH _ _) (λe6 m6 _ oq=>absurd (of_decide_eq_true e6) zO) λe6 m6 oq=>?_
     exact⟨aV hx hQ hn,rfl,oq⟩
    ·refine fB fG ?_
     refine oB o5 2 aK ?_;refine bA λc222=>aDc zA (aH _ _) (λe6 m6 _ oq=>by cases e6) λe6 m6 oq=>?_
     exact⟨aV hx hQ hn,rfl,oq⟩
   refine fB fG ?_;refine oB o5 2 aK ?_;refine bB λc242=>fB fG ?_;refine oB o5 2 aK ?_;refine aDc zA (aH _ _) (λe6 m6 _ oq=>?_) λe6 m6 oq=>absurd (of_decide_eq_false e6) zO;clear o5;have hend:∀ ps6,rW x.add=some ps6->pQ i x=some (w::(ps2++([aS [32] opw]++(ps5++(ps6++[]))))):=λps6 h=>by
    rw[hone];simp only[hq2,hq3,hq5,h,aO,oMS]
   have hbs:bs5=bs++bX (ps++(w::(ps2++([aS [32] opw]++ps5)))):=by
    rw[hb5,hb4,hb2,hb1,hb',← hwb]
    simp[bX,gX,wr,aS]
   have hks:k5=k+(ps++(w::(ps2++([aS [32] opw]++ps5)))).length:=by
    rw[hk5,hk4,hk2',hk1,hk']
    simp
    omega
   by_cases hpos:0<x.add
   ·have hno:dB x.add=true:=decide_eq_true zO
    have hil:=bS hno;have hq6:rW x.add=some [aS [32] [43],cI [32] x.add]:=by unfold rW;rw[if_neg zO,if_pos hpos]
    refine fB fG ?_;refine oB oq 2 aK ?_;refine bB λc262=>d1_ [0,1,2,3,6] [4] [5,7,8] [0,1,2,3,4,5,6,7,8] ?_;refine nC rfl ?_;refine fC cC ?_;refine fC fG ?_;refine oC oq 2 aK ?_;refine aDc zA (bV _ _ zO zO (hT.ext (Own.ext (B:=B) zA))) (λe7 m7 _ oq=>?_) λe7 m7 oq=>(by rw[hno]at e7;cases e7);refine aDb rfl rfl w_ ?_;refine lA oq aB aC λb281 m281 o281=>?_;refine aM [[32,43],[32]++Lib.itoa x.add] 2 30 [2] (i:=3) zA rfl rfl rfl hp5 rfl zO zO v_ zO zO (λp8 v8 bs8 k8 m8 hp8 hb8 hk8 hl8 oq=>?_);have o8:=oq
    simp only[pick,lgS,lgZ]at o8
    clear oq;refine aR ?_
    refine⟨rfl,?_⟩
    refine⟨⟨i+1,p8,v8,bs8,_,k8,ps++(w::(ps2++([aS [32] opw]++(ps5++([aS [32] [43],cI [32] x.add]++[]))))),by omega,?_,rfl,hp8,bL hx hQ (hend _ hq6),by rw[hb8,hbs];simp[bX,gX,wr,aS,cI],by rw[hk8,hks];simp;omega,by omega,by omega,o_ [0,1]⟩,by simp;omega⟩
    rw[if_neg zO]
   by_cases hneg:x.add<0
   ·have hno:dB (-x.add)=true:=decide_eq_true zO
    have hil:=bS hno;have hq6:rW x.add=some [aS [32] [45],cI [32] (-x.add)]:=by unfold rW;rw[if_neg zO,if_neg hpos,if_pos hneg]
    refine fB fG ?_;refine oB oq 2 aK ?_;refine bA λc312=>fB fG ?_;refine oB oq 2 aK ?_;refine bB λc315=>d1_ [0,1,2,3,5,7] [4] [6,8,9] [0,1,2,3,4,5,6,7,8,9] ?_;refine nC rfl ?_;refine fC cC ?_;refine fC fG ?_;refine oC oq 2 aK ?_;refine aR ?_
    rw[Int.zero_sub]
    refine aDc zA (bV _ _ zO zO (hT.ext (Own.ext (B:=B) zA))) (λe7 m7 _ oq=>?_) λe7 m7 oq=>(by rw[hno]at e7;cases e7);refine aDb rfl rfl w_ ?_;refine lA oq aB aC λb331 m331 o331=>?_;refine aM [[32,45],[32]++Lib.itoa (-x.add)] 2 30 [2] (i:=3) zA rfl rfl rfl hp5 rfl zO zO v_ zO zO (λp8 v8 bs8 k8 m8 hp8 hb8 hk8 hl8 oq=>?_);have o8:=oq
    simp only[pick,lgS,lgZ]at o8
    clear oq;refine aR ?_
    refine⟨rfl,?_⟩
    refine⟨⟨i+1,p8,v8,bs8,_,k8,ps++(w::(ps2++([aS [32] opw]++(ps5++([aS [32] [45],cI [32] (-x.add)]++[]))))),by omega,?_,rfl,hp8,bL hx hQ (hend _ hq6),by rw[hb8,hbs];simp[bX,gX,wr,aS,cI],by rw[hk8,hks];simp;omega,by omega,by omega,o_ [0,1]⟩,by simp;omega⟩
    rw[if_neg zO]
   ·have hq6:rW x.add=some []:=by unfold rW;rw[if_neg zO,if_neg hpos,if_neg hneg]
    refine fB fG ?_;refine oB oq 2 aK ?_;refine bA λc362=>fB fG ?_;refine oB oq 2 aK ?_;refine bA λc365=>aR ?_
    refine⟨rfl,?_⟩
    refine⟨⟨i+1,p5,v5,bs5,_,k5,ps++(w::(ps2++([aS [32] opw]++(ps5++([]++[]))))),by omega,?_,rfl,hp5,bL hx hQ (hend _ hq6),by rw[hbs];simp,by rw[hks];simp,by omega,by omega,o_ [0,1]⟩,by simp;omega⟩
    rw[if_neg zO]
  ·refine bA λc400=>?_
   refine aDS rfl ?_;have hQ2:=fF (aEs hlt) hQ;exact aDV hQ2 oh hp' hb' hk' zO zO
theorem aAZ:∀(r:List Ex)(b:aBs)(x:Ex),jH b (x::r)=aO (gP b x::r.map λy=>(gP [32] y).map (aS [] [44]::·))
 | [],b,x=>by
  show(match gP b x,jH [32] [] with
   | some p,some q=>some (p++(if ([]:List Ex).isEmpty then[] else[aS [] [44]])++q)
   | _,_=>none)=_
  cases gP b x<;>simp[aO,jH]
 | y::r,b,x=>by
  show(match gP b x,jH [32] (y::r) with
   | some p,some q=>some (p++(if (y::r).isEmpty then[] else[aS [] [44]])++q)
   | _,_=>none)=_
  rw[aAZ r [32] y,aEx]
  cases gP b x with
  | none=>rfl
  | some p =>
   cases gP [32] y with
   | none=>rfl
   | some q =>
    cases h:aO (r.map λy=>(gP [32] y).map (aS [] [44]::·))<;>simp[aO,h]
theorem oX (ks:List Ex):jH [] ks=dD (eK gP) ks:=by
 cases ks with
 | nil=>rfl
 | cons x r =>
  rw[aAZ]
  unfold dD
  rw[show(x::r).mapIdx (eK gP)=_ from rF (gP []) (λy=>(gP [32] y).map (aS [] [44]::·)) x r]
theorem lG:∀ {l:List Ex}{i:Nat}{x:Ex},l[i]?=some x->dK (l.take (i+1))=max (dK (l.take i)) (dE x)
 | [],_,_,h=>by simp at h
 | y::l,0,x,h=>by simp at h;subst h;simp[dK]
 | y::l,i+1,x,h=>by
  have:=lG (l:=l) (i:=i) (x:=x) (by simpa using h)
  rw[aEp,aEp,dK,dK,this]
  omega
theorem mO:∀ {l:List Ex}{i:Nat}{x:Ex},l[i]?=some x->gI (l.take (i+1))=gI (l.take i)+fD x
 | [],_,_,h=>by simp at h
 | y::l,0,x,h=>by simp at h;subst h;simp[gI]
 | y::l,i+1,x,h=>by
  have:=mO (l:=l) (i:=i) (x:=x) (by simpa using h)
  rw[aEp,aEp,gI,gI,this]
  omega
theorem fJ (l:List Ex)(i:Nat):gI (l.take i)<=gI l:=by
 induction l generalizing i with
 | nil=>simp
 | cons x l ih =>
  cases i with
  | zero=>simp[gI]
  | succ i=>rw[aEp,gI,gI];have:=ih i;omega
def aCX:aVs:=[sv [],iv 0,sv [],iv 0,sv [115,101,108,101,99,116],iv 1,sv [112,114,111,106,101,99,116],iv 1,sv [106,111,105,110],iv 2,
 sv [117,110,105,111,110],iv 2,sv [109,105,110,117,115],iv 2,sv [114,101,110,97,109,101],iv 1,sv [103,114,111,117,112],iv 1]
def iY (h:Heap):Prop:=∀ i,i<18->bI h ⟨1,i,none⟩=aCX[i]?
theorem iY.ext {h h':Heap}(w:iY h)(e:Ext h h'):iY h':=λi hi=>by
 obtain⟨v,hv⟩:=getx (l:=aCX) (show i<aCX.length from hi)
 rw[hv]
 exact e.cell ((w i hi).trans hv)
theorem qM {h:Heap}(w:iY h)(k:Int)(h1:1<=k)(h8:k<=8):bI h ⟨1,0+k.toNat*2+1,none⟩=some (iv (fW k))/\(k≠1->bI h ⟨1,0+k.toNat*2+0,none⟩=some (sv (dV.getD (k - 2).toNat []))):=by
 have:k=1∨k=2∨k=3∨k=4∨k=5∨k=6∨k=7∨k=8:=by omega
 rcases this with rfl|rfl|rfl|rfl|rfl|rfl|rfl|rfl
 ·exact⟨w 3 zD,λh=>absurd rfl h⟩
 ·exact⟨w 5 zD,λ_=>w 4 zD⟩
 ·exact⟨w 7 zD,λ_=>w 6 zD⟩
 ·exact⟨w 9 zD,λ_=>w 8 zD⟩
 ·exact⟨w 11 zD,λ_=>w 10 zD⟩
 ·exact⟨w 13 zD,λ_=>w 12 zD⟩
 ·exact⟨w 15 zD,λ_=>w 14 zD⟩
 ·exact⟨w 17 zD,λ_=>w 16 zD⟩
def XEnds (B:Base)(b:Nat)(bs:aBs)(k:Int)(c:Nat)(o:Option (List Pc))(lev:Int):Ending->Heap->Prop :=
 Ends (λr h'=>∃ ps p' v',o=some ps/\r=iv lev/\dI b p'/\(bX ps).length<=c/\ps.length<=c/\Own B [box b [p',v',iv (k+ps.length)] 58,row v' 5 1 (bs++bX ps).length (bytes (bs++bX ps))] h')
  λq h'=>o=none/\q=xZ/\Own B [] h'
section
variable {g : FuncId} {args s : aVs} {B : Base} {L : List Item} {b i : Nat} {p v : Value} {k lev : Int} {bs : aBs} {h : Heap} {K : KK} {Q : QQ}
theorem XEnds.callJ {c:Nat}{opt:Option (List Pc)}(js:List Nat)(o:Own B L h)(e:pick L [0,1]=[box b [p,v,iv k] 58,row v 5 1 bs.length (bytes bs)])(hd:dst ([0,1]++js)=true)
  (sp:∀ J,Own ⟨B.h,J++B.T⟩ [box b [p,v,iv k] 58,row v 5 1 bs.length (bytes bs)] h->Spec Tryz.prog g args h (XEnds ⟨B.h,J++B.T⟩ b bs k c opt lev))
  (hret:∀ ps p' v' bs' k' h',opt=some ps->dI b p'->bs'=bs++bX ps->k'=k+ps.length->bs'.length<=bs.length+c->k<=k'->k'<=k+c->Own B (box b [p',v',iv k'] 58::row v' 5 1 bs'.length (bytes bs')::pick L js) h'->K (iv lev) false h')
  (hpan:∀ h',opt=none->Own B [] h'->Q (.panic xZ) s h'):CallVC Tryz.prog g args s h K Q:=by
 have o1:=o.lend [0,1] js hd
 rw[e]at o1
 exact aDO (sp _ o1) (λ_ _ ⟨ps,p',v',h1,h2,h3,h4,h5,o2⟩=>by
  subst h2;exact hret ps p' v' (bs++bX ps) _ _ h1 h3 rfl rfl (by rw[aDX];omega) zO zO o2.back) (λ_ _ ⟨h1,h2,o2⟩=>by subst h2;exact hpan _ h1 (o2.back.sel [] rfl))
theorem XEnds.done {c:Nat}{opt:Option (List Pc)}{ps:List Pc}{bs':aBs}{k':Int}(hq:opt=some ps)(o:Own B [box b [p,v,iv k'] 58,row v 5 1 bs'.length (bytes bs')] h)(hp:dI b p)(hb:bs'=bs++bX ps)(hk:k'=k+ps.length)
  (hc:bs'.length<=bs.length+c) (hc2:k'<=k+c):XEnds B b bs k c opt lev (.returned (iv lev)) h:=by
 subst hb;subst hk
 rw[aDX]at hc
 exact⟨ps,p,v,hq,rfl,hp,by omega,by omega,o⟩
end
end Go.Proofs.YtohlogbnpfofpaaGreatDoor
namespace Go.Proofs.YtohlogbnpfofpaaGreatDoor
open Go Go.ChangeShapes Go.WideShapes Go.ChangeAt Go.RowKit
abbrev laid3:List (String×DataW Unit):=Rows.printerInverseRow.laid
theorem laidOut:laidOutB Tryz.prog=true:=by kernel_rfl
theorem own:ownKnob Tryz.prog.godebug=none:=by kernel_rfl
theorem gPow:Tryz.prog.globalNamed "internal/strconv.uint64pow10"=some 5:=by kernel_rfl
theorem tPow:(Tryz.prog.globals[5]?).map (·.type)=some 271:=by kernel_rfl
theorem cPow:Tryz.prog.cellsOf 271=20:=by kernel_rfl
theorem cU64:Tryz.prog.cellsOf 178=1:=by kernel_rfl
theorem gWords:Tryz.prog.globalNamed "cleanse/parser.words"=some 0:=by kernel_rfl
theorem tWords:(Tryz.prog.globals[0]?).map (·.type)=some 115:=by kernel_rfl
theorem cWords:Tryz.prog.cellsOf 115=10:=by kernel_rfl
theorem cStr:Tryz.prog.cellsOf 9=1:=by kernel_rfl
theorem gForms:Tryz.prog.globalNamed "cleanse/printer.forms"=some 1:=by kernel_rfl
theorem tForms:(Tryz.prog.globals[1]?).map (·.type)=some 195:=by kernel_rfl
theorem cInt:Tryz.prog.cellsOf 3=1:=by kernel_rfl
theorem cForms:Tryz.prog.cellsOf 195=18:=by kernel_rfl
theorem cForm:Tryz.prog.cellsOf 194=2:=by kernel_rfl
theorem tab_of_laid {W:World}(h:laidMetH Tryz.prog laid3 W):kQ W.heap:=by
 rw[MakeChecks.laidMetH_plain _ _ _ (by kernel_rfl)]at h
 have h2:=laidMet.tail (laidMet.tail h);have e:Rows.laid_internal_strconv_uint64pow10 (H:=Unit)=Lib.tabData .u64 Lib.pow10Tab:=by rfl
 rw[e]at h2
 have key:=Lib.tabIs_of_head gPow tPow Tryz.underlying271 Tryz.underlying178 cU64 cPow h2;intro w hw;unfold Lib.TabIs World.var? at key ⊢
 rw[hw]
 exact key
theorem aBK {H:Type}{enc:TypeId×Value->H}{P:Program}{w:World}{base:Nat}{sp:Nat->Bool}{held:Bool}{fuel:Nat}{t e:TypeId}{n:Nat}{cs:aVs}{zs:List aBs}{p:List MemPlace}
  (ht:P.underlying t=some (.array n e)) (he:P.underlying e=some .string) (hce:P.cellsOf e=1) (hct:P.cellsOf t=n)
  (h:DataW.trod enc P w base sp held fuel t cs=some (.agg (zs.map λz=>.lit (.string z)),p)):cs=strs zs:=by
 obtain⟨xs,m,_,hx,hl,hxl,hi⟩:=DataW.trod_array ht h
 have hxs:xs.map (·.1)=zs.map λz=>(DataW.lit (.string z):DataW H):=by
  have:=congrArg Prod.fst hx
  simpa using this.symm
 have hzl:zs.length=n:=by
  have:=congrArg List.length hxs
  simp at this
  omega
 rw[hct]at hl
 apply List.ext_getElem?
 intro i;by_cases hin:i<n
 ·have h1:=hi i hin
  rw[hce,Nat.mul_one]at h1
  cases hy:xs[i]? with
  | none=>rw[List.getElem?_eq_none_iff]at hy;omega
  | some y =>
   rw[hy]at h1
   obtain⟨s,hc,hz,_⟩:=DataW.trod_string he h1
   have hci:cs[i]?=some (.string s):=by
    have:=congrArg (·[0]?) hc
    simpa[aER,aEM] using this
   have h2:(xs.map (·.1))[i]?=some y.1:=by simp[hy]
   rw[hxs,hz]at h2
   simp only[aEv,aEo,DataW.lit.injEq,Lit.string.injEq]at h2
   obtain⟨z,hzi,hzs⟩:=h2
   rw[hci]
   simp only[strs,aEv,hzi,oMS,Option.some.injEq]
   obtain⟨⟨sd⟩⟩:=s
   simp only at hzs
   rw[hzs]
 ·rw[aEA zO,aEA (by simp[strs];omega)]
theorem words_of_laid {W:World}(h:laidMetH Tryz.prog laid3 W):lX W.heap:=by
 rw[MakeChecks.laidMetH_plain _ _ _ (by kernel_rfl)]at h
 have h2:=laidMet.tail (laidMet.tail (laidMet.tail (laidMet.tail (laidMet.tail h))))
 obtain⟨ps,⟨g',t',cs,fuel,p,q,hg',ht',hvar,hd,_,_⟩,_⟩:=h2
 obtain rfl:=Option.some.inj (gWords.symm.trans hg');obtain rfl:=Option.some.inj (tWords.symm.trans ht');have e:Rows.laid_cleanse_parser_words (H:=Unit)=.agg (cU.map λz=>.lit (.string z)):=by rfl
 rw[e]at hd
 have hc:=aBK Tryz.underlying115 Tryz.underlying9 cStr cWords hd;intro i hi
 have:=World.var?_cell gWords hvar i
 rw[hH]at this
 rw[this,← hc]
 simp
def formsL:List (aBs×Int):=[([],0),([],0),([115,101,108,101,99,116],1),([112,114,111,106,101,99,116],1),([106,111,105,110],2),([117,110,105,111,110],2),([109,105,110,117,115],2),([114,101,110,97,109,101],1),([103,114,111,117,112],1)]
def formFs (fs:Array Field)(s i:TypeId):Prop:=∃ a b:Field,fs[0]?=some a/\fs[1]?=some b/\fs.size=2/\a.type=s/\a.offset=0/\b.type=i/\b.offset=1
theorem aA5:∀(zs:List (aBs×Int))(cs:aVs),cs.length=zs.length*2->(∀(i:Nat)(z:aBs×Int),zs[i]?=some z->(cs.drop (i*2)).take 2=[sv z.1,.int .i64 z.2])->cs=zs.flatMap λz=>[sv z.1,.int .i64 z.2]
 | [],cs,h,_=>by
  rw[aD2,Nat.zero_mul]at h
  exact aD3.1 h
 | z::zs,cs,h,e=>by
  rw[aD1]at h
  match cs,h with
  | c0::c1::cs',h =>
   have e0:=e 0 z rfl
   simp at e0
   have:=aA5 zs cs' (by simp only[aD1]at h;omega) (λi y hy=>by
    have:=e (i+1) y (by simpa using hy)
    rw[show(i+1)*2=i*2+2 by omega]at this
    simpa using this)
   rw[aEf,e0.1,e0.2,← this]
   rfl
  | [c0],h=>simp at h;omega
  | [],h=>simp at h
theorem aBk {H:Type}{enc:TypeId×Value->H}{P:Program}{w:World}{base:Nat}{sp:Nat->Bool}{held:Bool}{fuel:Nat}{t e ts ti:TypeId}{n:Nat}{fs:Array Field}{cs:aVs}{zs:List (aBs×Int)}{p:List MemPlace}
  (ht:P.underlying t=some (.array n e)) (he:P.underlying e=some (.struct fs)) (hfs:formFs fs ts ti) (hs:P.underlying ts=some .string) (hi:P.underlying ti=some (.int .i64)) (hcs:P.cellsOf ts=1) (hci:P.cellsOf ti=1) (hce:P.cellsOf e=2) (hct:P.cellsOf t=n*2)
  (h:DataW.trod enc P w base sp held fuel t cs=some (.agg (zs.map λz=>.agg [.lit (.string z.1),.lit (.int .i64 z.2)]),p)):cs=zs.flatMap λz=>[sv z.1,.int .i64 z.2]:=by
 obtain⟨a,b,ha,hb,hsz,a1,a2,b1,b2⟩:=hfs
 obtain⟨xs,m,_,hx,hl,hxl,hel⟩:=DataW.trod_array ht h
 have hxs:xs.map (·.1)=zs.map λz=>(DataW.agg [.lit (.string z.1),.lit (.int .i64 z.2)]:DataW H):=by
  have:=congrArg Prod.fst hx
  simpa using this.symm
 have hzl:zs.length=n:=by
  have:=congrArg List.length hxs
  simp at this
  omega
 rw[hct]at hl
 have each:∀(i:Nat) (z:aBs×Int),zs[i]?=some z->(cs.drop (i*2)).take 2=[sv z.1,.int .i64 z.2]:=by
  intro i z hz;have hin:i<n:=by have:=(aDZ.1 hz).1;omega
  have h1:=hel i hin
  rw[hce]at h1
  obtain⟨y,hy⟩:=getx (l:=xs) (i:=i) zO
  rw[hy]at h1
  have h2:(xs.map (·.1))[i]?=some y.1:=by simp[hy]
  rw[hxs,aEv,hz]at h2
  have h2:y.1=.agg [.lit (.string z.1),.lit (.int .i64 z.2)]:=(Option.some.inj h2).symm
  obtain⟨ws,k,_,hw,hlw,hws,hf⟩:=DataW.trod_struct he h1
  have hw1:ws.map (·.1)=[.lit (.string z.1),.lit (.int .i64 z.2)]:=by
   have:=congrArg Prod.fst hw
   rw[h2]at this
   simpa using this.symm
  have f0:=hf 0 a ha;have f1:=hf 1 b hb
  rw[a1,a2,hcs]at f0
  rw[b1,b2,hci]at f1
  rw[hce]at hlw
  obtain⟨u,v,rfl⟩:∃ u v,ws=[u,v]:=by
   match ws,hws.trans hsz with
   | [u,v],_=>exact⟨u,v,rfl⟩
  simp only[aEx,List.map_nil,List.cons.injEq,and_true]at hw1
  obtain⟨⟨⟨s0⟩⟩,c0,x0,_⟩:=DataW.trod_string hs f0
  obtain⟨n0,c1,x1,_⟩:=DataW.trod_int hi f1
  have e0:s0=z.1:=by
   have q:=hw1.1
   rw[show u.1=.lit (.string s0) from congrArg Prod.fst x0]at q
   simpa using q
  have e1:n0=z.2:=by
   have q:=hw1.2
   rw[show v.1=.lit (.int .i64 n0) from congrArg Prod.fst x1]at q
   simpa using q
  subst e0;subst e1;generalize (cs.drop (i*2)).take 2=l at hlw c0 c1
  match l,hlw with
  | [g0,g1],_ =>
   simp at c0 c1
   rw[c0,c1]
 exact aA5 zs cs zO each
theorem forms_of_laid {W:World}(h:laidMetH Tryz.prog laid3 W):iY W.heap:=by
 rw[MakeChecks.laidMetH_plain _ _ _ (by kernel_rfl)]at h
 have h2:=laidMet.tail (laidMet.tail (laidMet.tail (laidMet.tail (laidMet.tail (laidMet.tail h)))))
 obtain⟨ps,⟨g',t',cs,fuel,p,q,hg',ht',hvar,hd,_,_⟩,_⟩:=h2
 obtain rfl:=Option.some.inj (gForms.symm.trans hg');obtain rfl:=Option.some.inj (tForms.symm.trans ht');have e:Rows.laid_cleanse_printer_forms (H:=Unit)=.agg (formsL.map λz=>.agg [.lit (.string z.1),.lit (.int .i64 z.2)]):=by rfl
 rw[e]at hd
 have hc:=aBk Tryz.underlying195 Tryz.underlying194 ⟨_,_,rfl,rfl,rfl,rfl,rfl,rfl,rfl⟩ Tryz.underlying9 Tryz.underlying3 cStr cInt cForm cForms hd;intro i hi
 have:=World.var?_cell gForms hvar i
 rw[hH]at this
 rw[this,← (show cs.toList=aCX from hc)]
 simp
theorem door_met (os:Os)(args:Array Value):laidMetH Tryz.prog laid3 ((World.doorLaid Tryz.prog 400 os).forCall (λ_ _=>0) ⟨#[],args,[]⟩).memory :=
 laidMetH_of_parts3 (fuel:=8) (laidMet_of_run' 8 (by kernel_rfl) (by kernel_rfl)) (by kernel_rfl) (by kernel_rfl)
end Go.Proofs.YtohlogbnpfofpaaGreatDoor
namespace Go.Proofs.YtohlogbnpfofpaaGreatDoor
open Go StillVC
def clr1 (x:It):It:={ x with cols:=[],names:=[] }
def clr2 (x:It):It:={ x with n:=0 }
def aBj (x:It):It:={ x with table:=[],attr:=[],by_:=0,n:=if 3<=x.by_ then 0 else x.n,m:=if x.by_=4 then 0 else x.m }
def clr4 (x:It):It:={ x with table:=[],n:=0,terms:=[] }
def clr5 (x:It):It:={ x with table:=[],attr:=[],by_:=0 }
def clr6 (x:It):It:={ x with table:=[],names:=[] }
def clr7 (x:It):It:={ x with table:=[],names:=[],attr:=[],fixed:=[] }
def clr8 (x:It):It:={ x with table:=[],attr:=[],other:=[],oattr:=[] }
def clr9 (x:It):It:={ x with vars:=[],conds:=[] }
def clr10 (x:It):It:={ x with expr:=ex0 }
def eX (x:It):It :=
 if x.kind=1 then clr1 x else if x.kind=2 then clr2 x else if x.kind=3 then aBj x else if x.kind=4 then clr4 x else if x.kind=5 then clr5 x
 else if x.kind=6 then clr6 x else if x.kind=7 then clr7 x else if x.kind=8 then clr8 x else if x.kind=9 then clr9 x else clr10 x
def xX (x:It):Bool:=match x.expr with
 | .mk k tb ks cs ns a as_ g _=>decide ((x.cols=[]/\x.names=[]/\x.terms=[]/\x.fixed=[]/\x.vars=[]/\x.conds=[]/\ks=[]/\cs=[]/\ns=[]) /\
   (x.name=[]/\x.table=[]/\x.attr=[]/\x.other=[]/\x.oattr=[]/\tb=[]/\a=[]/\as_=[])/\x.by_=0/\x.n=0/\x.m=0/\k=0/\g=0)
def eC (x:It):It:=if x.kind=5 then x else { x with name:=[] }
def part1 (x:It):Option (List Pc):=aO [some [aS [] [40]],eO iP [] x.cols,some [aS [] [41],aG [32] [107,101,121]],eO bN [32] x.names]
def part2 (x:It):Option (List Pc):=aO [some [aG [32] [116,114,117,115,116]],iU [32] x.n]
def part3 (x:It):Option (List Pc):=aO [some [aG [32] [111,110]],fM x.table x.attr,some [aG [32] [98,121]],hO x.by_ [[101,120,97,99,116],[116,111,107,101,110],[112,114,101,102,105,120],[115,107,101,116,99,104]],(if 3<=x.by_ then iU [32] x.n else some []),(if x.by_=4 then iU [32] x.m else some [])]
def part4 (x:It):Option (List Pc):=aO ([some [aG [32] [111,110]],bN [32] x.table,some [aG [32] [97,116]],iU [32] x.n,some [aS [32] [123]]]++x.terms.map bM)
def part5 (x:It):Option (List Pc):=aO [fM x.table x.attr,some [aG [32] [98,121]],hO x.by_ [[108,97,116,101,115,116],[109,111,115,116],[116,114,117,115,116,101,100],[108,111,110,103,101,115,116],[108,101,97,115,116],[103,114,101,97,116,101,115,116]]]
def part6 (x:It):Option (List Pc):=aO [some [aG [32] [111,110]],bN [32] x.table,some [aS [] [40]],eO bN [] x.names,some [aS [] [41]]]
def part7 (x:It):Option (List Pc):=aO [some [aG [32] [111,110]],bN [32] x.table,some [aS [] [40]],eO bN [] x.names,some [aS [] [41],aG [32] [116,111]],bN [32] x.attr,xU x.fixed]
def part8 (x:It):Option (List Pc):=aO [fM x.table x.attr,some [aG [32] [105,110]],fM x.other x.oattr]
def part9 (x:It):Option (List Pc):=aO [eO (λ_=>lI) [] x.vars,lW x.conds]
def aCP (x:It):Option (List Pc):=aO [some [aS [32] [61]],gP [32] x.expr]
theorem kK (x:It):eP x=if x.kind=1 then part1 x else if x.kind=2 then part2 x else if x.kind=3 then part3 x else if x.kind=4 then part4 x else if x.kind=5 then part5 x else if x.kind=6 then part6 x else if x.kind=7 then part7 x else if x.kind=8 then part8 x else if x.kind=9 then part9 x else aCP x:=rfl
theorem aBI {α:Type}{l:List α}:l.length=0↔l=[]:=aD3
theorem empty_bare {x:It}(h1:1<=x.kind)(h10:x.kind<=10):xX (eX (eC x))=(gY x&&(decide (x.kind=10)||lC x.expr)):=by
 obtain⟨k,nm,off,tb,at_,cols,nms,by_,n,m,tms,oth,oat,fx,vr,cd,⟨ek,etb,eks,ecs,ens,ea,eas,eg,eo⟩⟩:=x
 simp only at h1 h10
 rw[aEe]
 have:k=1∨k=2∨k=3∨k=4∨k=5∨k=6∨k=7∨k=8∨k=9∨k=10:=by omega
 rcases this with rfl|rfl|rfl|rfl|rfl|rfl|rfl|rfl|rfl|rfl <;>
  simp only[eC,eX,clr1,clr2,aBj,clr4,clr5,clr6,clr7,clr8,clr9,clr10,xX,gY,lC,ex0,aBI,decide_eq_true_eq,aD0,aEB]<;>simp<;>exact⟨λh=>by simp_all,λh=>by simp_all⟩
def IEnds (B:Base)(b bx:Nat)(bs:aBs)(k:Int)(c:Nat)(cs:aVs)(o:Option (List Pc)):Ending->Heap->Prop :=
 Ends (λr h'=>∃ ps p' v',o=some ps/\r=.tuple #[]/\dI b p'/\(bX ps).length<=c/\ps.length<=c/\Own B [box b [p',v',iv (k+ps.length)] 58,row v' 5 1 (bs++bX ps).length (bytes (bs++bX ps)),box bx cs 44] h')
  λq h'=>o=none/\q=xZ/\Own B [] h'
section
variable {g : FuncId} {args s : aVs} {B : Base} {L : List Item} {b bx i : Nat} {p v : Value} {k : Int} {bs : aBs} {h : Heap} {K : KK} {Q : QQ} {cs : aVs}
theorem IEnds.done {c:Nat}{opt:Option (List Pc)}{ps:List Pc}{bs':aBs}{k':Int}(hq:opt=some ps)(o:Own B [box b [p,v,iv k'] 58,row v 5 1 bs'.length (bytes bs'),box bx cs 44] h)(hp:dI b p)(hb:bs'=bs++bX ps)(hk:k'=k+ps.length)
  (hc:bs'.length<=bs.length+c) (hc2:k'<=k+c):IEnds B b bx bs k c cs opt (.returned (.tuple #[])) h:=by
 subst hb;subst hk
 rw[aDX]at hc
 exact⟨ps,p,v,hq,rfl,hp,by omega,by omega,o⟩
end
theorem lD {n:Int}{ws:List aBs}(h:1<=n/\n<=ws.length):hO n ws=some [aG [32] (ws.getD (n - 1).toNat [])]:=if_pos h
theorem mU {n:Int}{ws:List aBs}(h:¬ (1<=n/\n<=ws.length)):hO n ws=none:=if_neg h
theorem lS {ws:List aBs}{M:Nat}(h:∀ s∈ws,s.length<=M)(i:Nat):(ws.getD i []).length<=M:=by
 rw[aEi]
 cases hi:ws[i]? with
 | none=>simp
 | some s=>exact h s (aDY hi)
theorem emptyB_eq (x:It)(k:Int)(tb:aBs)(ks:List Ex)(cs:List Cnd)(ns:List aBs)(a s:aBs)(g:Int)(o:Nat)(he:x.expr=.mk k tb ks cs ns a s g o) :
  xX x=decide ((x.cols.length:Int)+x.names.length+x.terms.length+x.fixed.length+x.vars.length+x.conds.length+ks.length+cs.length+ns.length=0/\x.name++x.table++x.attr++x.other++x.oattr++tb++a++s=[]/\x.by_=0/\x.n=0/\x.m=0/\k=0/\g=0):=by
 unfold xX
 rw[he]
 apply decide_eq_decide.2
 constructor
 ·rintro⟨⟨h1,h2,h3,h4,h5,h6,h7,h8,h9⟩,⟨t1,t2,t3,t4,t5,t6,t7,t8⟩,r⟩
  rw[h1,h2,h3,h4,h5,h6,h7,h8,h9,t1,t2,t3,t4,t5,t6,t7,t8]
  exact⟨by simp,rfl,r⟩
 ·rintro⟨h,t,r⟩
  simp only[List.append_eq_nil_iff]at t
  obtain⟨⟨⟨⟨⟨⟨⟨t1,t2⟩,t3⟩,t4⟩,t5⟩,t6⟩,t7⟩,t8⟩:=t
  exact⟨⟨aBI.1 zO,aBI.1 zO,aBI.1 zO,aBI.1 zO,aBI.1 zO,aBI.1 zO,aBI.1 zO,aBI.1 zO,aBI.1 zO⟩,⟨t1,t2,t3,t4,t5,t6,t7,t8⟩,r⟩
theorem vU (x:It)(c:aVs)(h:Heap)(hOK:fO x)(hc:nP h c x):bG Tryz.prog 35 [.agg ⟨c⟩] h λr h'=>r=.bool (xX x)/\Own h [] h':=by
 obtain⟨z,vc,vn,vt,vf,vv,vd,e0,e1,e2,e3,e4,e5,e6,e7,e8,rfl,q1,q2,q3,q4,q5,q6,rx⟩:=hc
 obtain⟨bkind,bname,btable,battr,bcols,bnames,bby,bn,bm,bterms,both,boat,bfixed,bvars,bconds,bexpr,lcols,lnames,lterms,lfixed,lvars,lconds⟩:=hOK
 obtain⟨kind,name,off,table,attr,cols,names,by_,n,m,terms,other,oattr,fixed,vars,conds,⟨k,tb,ks,cs,ns,a,s,g,o⟩⟩:=x
 have hem:=emptyB_eq ⟨kind,name,off,table,attr,cols,names,by_,n,m,terms,other,oattr,fixed,vars,conds,⟨k,tb,ks,cs,ns,a,s,g,o⟩⟩ k tb ks cs ns a s g o rfl
 rw[hem]
 clear hem
 rw[gK]at bexpr
 rw[fT]at rx
 dsimp only at *
 obtain⟨bk,btb,bks,bcs,bns,ba,bs_,bg,lk,lc,ln⟩:=bexpr
 obtain⟨wk,wc,wn,wz,hcv,g1,g2,gx,g3,_⟩:=rx
 obtain⟨h1,h2,rfl⟩:=g1.isS
 obtain⟨h3,h4,rfl⟩:=g2.isS
 obtain⟨h5,h6,rfl⟩:=g3.isS
 unfold kG at hcv
 simp only[List.cons.injEq,and_true]at hcv
 obtain⟨rfl,rfl,rfl,rfl,rfl,rfl,rfl,rfl,rfl⟩:=hcv
 obtain⟨y1,z1,rfl⟩:=q1.isS
 obtain⟨y2,z2,rfl⟩:=q2.isS
 obtain⟨y3,z3,rfl⟩:=q3.isS
 obtain⟨y4,z4,rfl⟩:=q4.isS
 obtain⟨y5,z5,rfl⟩:=q5.isS
 obtain⟨y6,z6,rfl⟩:=q6.isS
 clear q1 q2 q3 q4 q5 q6 g1 g2 g3;unfold eD;dsimp only;refine eN Tryz.func35 Tryz.ntmps35 ?_;have o0:=Own.refl h;refine xB o0 λb10 m10 o10=>?_;refine fB aA ?_;refine oB o10 0 kU ?_;refine lB iQ ?_;refine fB aA ?_;refine oB o10 0 cS ?_;refine lB aB ?_;refine aR (fB aA ?_);refine oB o10 0 mC ?_;refine lB mE ?_;refine aR (fB aA ?_);refine oB o10 0 lZ ?_;refine lB kV ?_;refine aR (fB aA ?_);refine oB o10 0 lK ?_;refine lB jW ?_;refine aR (fB aA ?_);refine oB o10 0 kI ?_;refine lB gL ?_;refine aR (fB aA ?_);refine fB aE ?_;refine oB o10 0 cR ?_;refine lB cH ?_;refine aR (fB aA ?_);refine fB aE ?_;refine oB o10 0 kI ?_;refine lB gL ?_;refine aR (fB aA ?_);refine fB aE ?_;refine oB o10 0 cS ?_;refine lB aB ?_;refine aR (fB aA ?_);refine oB o10 0 aC ?_;refine fB aA ?_;refine oB o10 0 aC ?_;refine rR (aDb rfl rfl w_ ?_);refine fB aA ?_;refine oB o10 0 aC ?_;refine rR (aDb rfl rfl w_ ?_);refine fB aA ?_;refine oB o10 0 aC ?_;refine rR (aDb rfl rfl w_ ?_);refine fB aA ?_;refine oB o10 0 aC ?_;refine rR (aDb rfl rfl w_ ?_);refine fB aA ?_;refine fB aE ?_;refine oB o10 0 aC ?_;refine rR (aDb rfl rfl w_ ?_);refine fB aA ?_;refine fB aE ?_;refine oB o10 0 aC ?_;refine rR (aDb rfl rfl w_ ?_);refine fB aA ?_;refine fB aE ?_;refine oB o10 0 aC ?_;refine rR (aDb rfl rfl w_ ?_)
 refine aDJ (λc67=>?_) (λc67=>?_);refine aDJ (λc68=>?_) (λc68=>?_);refine fB aA ?_;refine oB o10 0 aK ?_;refine aDJ (λc71=>?_) (λc71=>?_);refine fB aA ?_;refine oB o10 0 aK ?_;refine aDJ (λc74=>?_) (λc74=>?_);refine fB aA ?_;refine oB o10 0 aK ?_;refine aDJ (λc77=>?_) (λc77=>?_);refine fB aA ?_;refine fB aE ?_;refine oB o10 0 aK ?_;refine aDJ (λc81=>?_) (λc81=>?_);refine fB aA ?_;refine fB aE ?_;refine oB o10 0 aK ?_;refine rO ?_
 rotate_left
 refine rO ?_
 rotate_left
 refine rO ?_
 rotate_left
 refine rO ?_
 rotate_left
 refine rO ?_
 rotate_left
 refine rO ?_
 rotate_left
 refine rO ?_
 all_goals first
  | exact⟨congrArg Value.bool (decide_eq_false (λh=>by obtain⟨h1,h2,h3,h4,h5,h6,h7⟩:=h;first|contradiction|omega)).symm,o_ []⟩
  | exact⟨congrArg Value.bool (decide_eq_decide.2 ⟨λhg=>⟨by omega,by assumption,by omega,by omega,by omega,by omega,hg⟩,λhh=>hh.2.2.2.2.2.2⟩),o_ []⟩
theorem StillVC.buildG {pr:Bool}{P:Program}{ty:TypeId}{s:aVs}{h:Heap}{K:KK}{t e:TypeId}{n by_ byA:Nat}{z:Value}{zero vs:aVs}{parts:List (Nat×Operand)}(hT:ArrT P t e n z by_)(hZ:TyI P t true zero byA)
  (hf:Instr.fill (λi=>some (i*1,1)) zero.toArray (parts.map λp=>(p.1,ev s p.2))=some vs.toArray) (hk:K (.agg ⟨vs⟩) false h):StillVC pr P (.build t ⟨parts⟩) ty s h K:=by
 refine .pure' _ false (λw=>?_) hk
 simp only[Nat.mul_one]at hf
 obtain⟨inf,z',hi,_,hz,hc,_⟩:=hZ.info
 have hparts:((⟨parts⟩:Array (Nat×Operand)).map λx=>match x with|(i,x)=>(i,ev s x)).toList=parts.map λp=>(p.1,ev s p.2):=by simp
 have key:(Instr.build t ((⟨parts⟩:Array (Nat×Operand)).map λx=>match x with|(i,x)=>(i,ev s x))).run P w=.ok (.agg vs.toArray) w:=by
  unfold Instr.build
  simp only[Sem.run_bind,zeroValue,typeInfo,run_program,hi,hz,Sem.run_pure,Result.andThen_ok,run_underlying hT.arr,hT.el.sizeOf,hc,hparts]
  simp[hf]
 simp only[List.map_toArray]at key
 simp[execOp,key]
def wrF (f:FuncId):Value:=.func (.func f) #[] #[]
def wrFs:aVs:=[.nilFunc,wrF 70,wrF 71,wrF 72,wrF 73,wrF 74,wrF 75,wrF 76,wrF 77,wrF 78,wrF 79]
theorem vG (h:Heap):bG Tryz.prog 34 [] h λr h'=>r=.agg ⟨wrFs⟩/\Own h [] h':=by
 refine eN Tryz.func34 Tryz.ntmps34 ?_;have o0:=Own.refl h;refine aDH o0 ty80 λb10 m10 o10=>?_;refine rR (buildG (vs:=wrFs) arr80 ty80 k_ ?_);unfold wrFs wrF;(refine sA o10 0 ty80 ?_;intro m20 o20);refine RetVC.cell1 rfl o20 0 rfl ty80 rfl rfl ?_
 exact⟨rfl,o20.sel [] rfl⟩
theorem aAO (i:Nat):(dV.getD i []).length<=7:=by
 by_cases h:i<7
 ·have:i=0∨i=1∨i=2∨i=3∨i=4∨i=5∨i=6:=by omega
  rcases this with rfl|rfl|rfl|rfl|rfl|rfl|rfl<;>decide
 ·rw[aEi,aEA (by show 7<=i;omega)]
  decide
theorem mP:∀ {l:List Ex}{i:Nat}{x:Ex},l[i]?=some x->dE x<=dK l
 | [],_,_,h=>by simp at h
 | y::l,0,x,h=>by simp at h;subst h;rw[dK];exact Nat.le_max_left _ _
 | y::l,i+1,x,h=>by
  have:=mP (l:=l) (i:=i) (x:=x) (by simpa using h)
  rw[dK]
  exact aEc this (Nat.le_max_right _ _)
theorem qN:∀(x:Ex),1<=dE x
 | .mk _ _ _ _ _ _ _ _ _=>by rw[dE];omega
def aBA (b n:Nat):Prop:=∀(x:Ex)(B:Base)(c:aVs)(be:aBs)(lev:Int)(p v:Value)(k:Int)(bs:aBs)(h:Heap)(_:eL x<=n)(_:gK x)(_:fT B.h c x)(_:dI b p)(_:be=[]∨be=[32])(_:0<=lev/\lev+dE x<=1000000000000)(_:kQ B.h)(_:iY B.h)
  (_:Own B [box b [p,v,iv k] 58,row v 5 1 bs.length (bytes bs)] h) (_:bs.length+2000*fD x<=50000000000000) (_:0<=k/\k+2000*fD x<=50000000000000),
  Spec Tryz.prog 128 [pv b 0,sv be,.agg ⟨c⟩,iv lev] h (XEnds B b bs k (2000*fD x) (gP be x) (lev+dE x - 1))
theorem prExpr_cT (b n:Nat)(hIH:aBA b n)(kd:Int)(tb:aBs)(ks:List Ex)(cs:List Cnd)(ns:List aBs)(a s:aBs)(g:Int)(off:Nat)(hcls:kd<2∨8<kd)(B:Base)(c:aVs)(be:aBs)(lev:Int)(p v:Value)(k:Int)(bs:aBs)(h:Heap)(hd:eL (.mk kd tb ks cs ns a s g off)<=n+1)(hOK:gK (.mk kd tb ks cs ns a s g off))(hc:fT B.h c (.mk kd tb ks cs ns a s g off))(hp:dI b p)(hbe:be=[]∨be=[32])(hlev:0<=lev/\lev+dE (.mk kd tb ks cs ns a s g off)<=1000000000000)(hT:kQ B.h)(hF:iY B.h)
  (o:Own B [box b [p,v,iv k] 58,row v 5 1 bs.length (bytes bs)] h) (hl:bs.length+2000*fD (.mk kd tb ks cs ns a s g off)<=50000000000000) (hk:0<=k/\k+2000*fD (.mk kd tb ks cs ns a s g off)<=50000000000000) :
  Spec Tryz.prog 128 [pv b 0,sv be,.agg ⟨c⟩,iv lev] h (XEnds B b bs k (2000*fD (.mk kd tb ks cs ns a s g off)) (gP be (.mk kd tb ks cs ns a s g off)) (lev+dE (.mk kd tb ks cs ns a s g off) - 1)):=by
  rw[eL]at hd
  rw[gK]at hOK
  rw[fT]at hc
  rw[fD]at hl hk ⊢
  rw[dE]at hlev ⊢
  rw[show lev+((dK ks+1:Nat):Int) - 1=lev+dK ks by omega]
  obtain⟨bk,btb,bks,bcs,bns,ba,bs_,bg,lk,lc,ln⟩:=hOK
  obtain⟨vk,vc,vn,z,rfl,q1,q2,xs,q3,rk⟩:=hc
  rw[jC]at q2
  obtain⟨e1,f1,rfl⟩:=q1.isS
  obtain⟨e2,f2,rfl⟩:=q2.isS
  obtain⟨e3,f3,rfl⟩:=q3.isS
  unfold kG;have hxs:xs.length=ks.length:=lU rk;have hbel:be.length<=1:=by rcases hbe with rfl|rfl<;>simp
  refine eN Tryz.func128 Tryz.ntmps128 ?_;by_cases hkd:1<=kd/\kd<=8
  case neg =>
   have hq:gP be (.mk kd tb ks cs ns a s g off)=none:=by rw[gP,if_neg (λh=>hkd ⟨h.1,h.2.1⟩)]
   by_cases h1:1<=kd
   ·refine xB o λb10 m10 o10=>?_
    refine d1_ [0,2,3,4,6,7,8,9,11,12,14,15,17,18] [1,5,10,13,16] [19] [0,1,2,3,4,5,6,7,8,9,10,11,12,13,14,15,16,17,18,19] ?_;refine fC aE ?_;refine oC o10 2 aK ?_;refine bB λc13=>fC aE ?_;refine oC o10 2 aK ?_;refine bA λc16=>aDc zA (aH _ _) (λe1 m2 _ oq=>by cases e1) λe1 m2 oq=>?_
    exact⟨hq,rfl,oq⟩
   ·refine xB o λb30 m30 o30=>?_
    refine d1_ [0,2,3,4,6,7,8,9,11,12,14,15,17,18] [1,5,10,13,16] [19] [0,1,2,3,4,5,6,7,8,9,10,11,12,13,14,15,16,17,18,19] ?_;refine fC aE ?_;refine oC o30 2 aK ?_;refine bA λc33=>aDc zA (aH _ _) (λe1 m2 _ oq=>by cases e1) λe1 m2 oq=>?_
    exact⟨hq,rfl,oq⟩
  have hfa:=qM hF kd hkd.1 hkd.2;have hf1:=hfa.1;refine xB o λb50 m50 o50=>?_;refine d1_ [0,2,3,4,6,7,8,9,11,12,14,15,17,18] [1,5,10,13,16] [19] [0,1,2,3,4,5,6,7,8,9,10,11,12,13,14,15,16,17,18,19] ?_;refine fC aE ?_;refine oC o50 2 aK ?_;refine bB λc53=>fC aE ?_;refine oC o50 2 aK ?_;refine bB λc56=>fC aE ?_;refine oC o50 2 cR ?_;refine aDz rfl cH ?_;refine fC aE ?_;refine oC o50 2 aK ?_;refine aDo Tryz.underlying195 rQ rfl rfl zO zO ?_;refine fC sE ?_;refine load1 aK rfl (o50.old hf1) ?_;refine aDc zA (aH _ _) (λe1 m2 oc oq=>?_) λe1 m2 oq=>?_
  case refine_2 =>
   have e1:=of_decide_eq_false e1;have hq:gP be (.mk kd tb ks cs ns a s g off)=none:=by rw[gP,if_neg (λh=>e1 (by rw[h.2.2.1]))]
   exact⟨hq,rfl,oq⟩
  have hkl:ks.length=fW kd:=by have:=of_decide_eq_true e1;omega
  clear e1 oc;by_cases hkone:kd=1
  ·subst hkone
   obtain rfl:ks=[]:=aD3.1 hkl;have hexQ:gP be (.mk 1 tb [] cs ns a s g off)=if gJ 1 tb cs ns a s g=true then bN be tb else none:=by
    rw[gP]
    by_cases hb:gJ 1 tb cs ns a s g=true
    ·rw[if_pos ⟨by decide,by decide,rfl,hb⟩,if_pos rfl,if_pos hb]
    ·rw[if_neg (λh=>hb h.2.2.2),if_neg hb]
   have hB:gJ 1 tb cs ns a s g=true↔cs.length=0/\ns.length=0/\a=[]/\s=[]/\g=0:=by simp[gJ]
   refine nB oq 2 aQ ?_;refine aDH oq aQ λb101 m101 o101=>?_;(refine sA o101 3 aQ ?_;intro m102 o102);refine fB aE ?_;(refine sB o102 3 aK ?_;intro m104 o104);refine fB aE ?_;(refine sB o104 3 cR ?_;intro m106 o106);refine fB aE ?_;(refine sB o106 3 aK ?_;intro m108 o108);refine fB aE ?_;refine oB o108 2 aK ?_;refine aDK (d1_ [0,1,2,3,4,7] [5] [6,8,9] [0,1,2,3,4,5,6,7,8,9] ?_);refine nC rfl ?_;refine fC cC ?_;refine fC aE ?_;refine oC o108 2 aC ?_;refine aDc zA (bT tb _ btb) (λen m3 oc oq=>?_) λen m3 oq=>?_
   case refine_2 =>
    exact⟨hexQ.trans (by rw[dM en];split<;>rfl),rfl,oq⟩
   have hnl:=bJ en;clear oc;refine aDb rfl rfl w_ ?_;refine lA oq aB aC λb121 m121 o121=>?_;refine aM [be++tb] 1 30 [2,3] (i:=4) zA rfl rfl rfl hp rfl zO zO v_ zO zO (λp1 v1 bs1 k1 m1 hp1 hb1 hk1 hl1 oq=>?_);have o4:Own B [box b [p1,v1,iv k1] 58,row v1 5 1 bs1.length (bytes bs1),box b50 [iv 1,sv tb,.slice e3 ([]:List Ex).length f3,.slice e1 cs.length f1,.slice e2 ns.length f2,sv a,sv s,iv g,iv z] 42,box b101 [iv 0,sv tb,.slice none 0 0,.slice e1 cs.length f1,.slice e2 ns.length f2,sv a,sv s,iv g,iv 0] 42] m1:=oq;clear oq
   rw[show lev+((dK []:Nat):Int)=lev by simp[dK]]
   refine fB aE ?_;(refine sB o4 3 aC ?_;intro m151 o151);refine fB aE ?_;refine oB o151 2 cR ?_;refine lB cH ?_;refine aDT [10,11,12,67,68,69,70,71,72,73,74,75,76,77,78,79,80,81,82,83,84,85,86,87,88,89,90] [10,67] (λvs' hh=>vs'=[iv lev,iv 0]/\Own B [box b [p1,v1,iv k1] 58,row v1 5 1 bs1.length (bytes bs1),box b50 [iv 1,sv tb,.slice e3 ([]:List Ex).length f3,.slice e1 cs.length f1,.slice e2 ns.length f2,sv a,sv s,iv g,iv z] 42,box b101 [iv 0,sv [],.slice none 0 0,.slice e1 cs.length f1,.slice e2 ns.length f2,sv a,sv s,iv g,iv 0] 42] hh) (λvs' _=>0) ?_ ?_
   ·exact⟨rfl,o151⟩
   rintro vs' junk hh ⟨rfl,oh⟩;clear o151 o4;refine aDL (fB aE ?_);refine oB oh 2 aK ?_;refine aDK (fB aE ?_);refine oB oh 2 aK ?_;refine aDL (fB aE ?_);refine oB oh 3 aC ?_;refine aDK (fB aE ?_);refine oB oh 3 kI ?_;refine lB gL ?_;refine aDJ (λc169=>?_) (λc169=>?_);refine fB aE ?_;refine oB oh 3 cS ?_;refine lB aB ?_;refine aDJ (λc173=>?_) (λc173=>?_);refine fB aE ?_;refine oB oh 3 aC ?_;refine aDJ (λc176=>?_) (λc176=>?_);refine fB aE ?_;refine oB oh 3 aC ?_;refine aDJ (λc179=>?_) (λc179=>?_);refine fB aE ?_;refine oB oh 3 aK ?_
   any_goals (refine aDc (B:=B) zA (aH false _) (λe8 m8 _ oq=>by cases e8) λe8 m8 oq=>?_;exact⟨hexQ.trans (if_neg λhb=>by obtain⟨x0,x1,x2,x3,x4⟩:=hB.1 hb;first|contradiction|omega),rfl,oq⟩)
   refine aDc (B:=B) zA (aH _ _) (λe8 m8 _ oq=>?_) λe8 m8 oq=>?_
   case refine_2 =>
    have e8:=of_decide_eq_false e8
    exact⟨hexQ.trans (if_neg λhb=>by obtain⟨x0,x1,x2,x3,x4⟩:=hB.1 hb;omega),rfl,oq⟩
   have e8:=of_decide_eq_true e8;have hbare:=hB.2 ⟨by omega,by omega,by assumption,by assumption,by omega⟩;refine rO ?_;exact XEnds.done (hexQ.trans ((if_pos hbare).trans (aD en))) (oq.sel [0,1] rfl) hp1 (by rw[hb1];simp[bX,gX,wr,aG]) hk1 zO zO
  ·exact(by omega:False).elim
theorem prExpr_cD (b n:Nat)(hIH:aBA b n)(kd:Int)(tb:aBs)(ks:List Ex)(cs:List Cnd)(ns:List aBs)(a s:aBs)(g:Int)(off:Nat)(hcls:kd=4∨kd=5∨kd=6)(B:Base)(c:aVs)(be:aBs)(lev:Int)(p v:Value)(k:Int)(bs:aBs)(h:Heap)(hd:eL (.mk kd tb ks cs ns a s g off)<=n+1)(hOK:gK (.mk kd tb ks cs ns a s g off))(hc:fT B.h c (.mk kd tb ks cs ns a s g off))(hp:dI b p)(hbe:be=[]∨be=[32])(hlev:0<=lev/\lev+dE (.mk kd tb ks cs ns a s g off)<=1000000000000)(hT:kQ B.h)(hF:iY B.h)
  (o:Own B [box b [p,v,iv k] 58,row v 5 1 bs.length (bytes bs)] h) (hl:bs.length+2000*fD (.mk kd tb ks cs ns a s g off)<=50000000000000) (hk:0<=k/\k+2000*fD (.mk kd tb ks cs ns a s g off)<=50000000000000) :
  Spec Tryz.prog 128 [pv b 0,sv be,.agg ⟨c⟩,iv lev] h (XEnds B b bs k (2000*fD (.mk kd tb ks cs ns a s g off)) (gP be (.mk kd tb ks cs ns a s g off)) (lev+dE (.mk kd tb ks cs ns a s g off) - 1)):=by
  rw[eL]at hd
  rw[gK]at hOK
  rw[fT]at hc
  rw[fD]at hl hk ⊢
  rw[dE]at hlev ⊢
  rw[show lev+((dK ks+1:Nat):Int) - 1=lev+dK ks by omega]
  obtain⟨bk,btb,bks,bcs,bns,ba,bs_,bg,lk,lc,ln⟩:=hOK
  obtain⟨vk,vc,vn,z,rfl,q1,q2,xs,q3,rk⟩:=hc
  rw[jC]at q2
  obtain⟨e1,f1,rfl⟩:=q1.isS
  obtain⟨e2,f2,rfl⟩:=q2.isS
  obtain⟨e3,f3,rfl⟩:=q3.isS
  unfold kG;have hxs:xs.length=ks.length:=lU rk;have hbel:be.length<=1:=by rcases hbe with rfl|rfl<;>simp
  refine eN Tryz.func128 Tryz.ntmps128 ?_;by_cases hkd:1<=kd/\kd<=8
  case neg =>
   exact(by omega:False).elim
  have hfa:=qM hF kd hkd.1 hkd.2;have hf1:=hfa.1;refine xB o λb50 m50 o50=>?_;refine d1_ [0,2,3,4,6,7,8,9,11,12,14,15,17,18] [1,5,10,13,16] [19] [0,1,2,3,4,5,6,7,8,9,10,11,12,13,14,15,16,17,18,19] ?_;refine fC aE ?_;refine oC o50 2 aK ?_;refine bB λc53=>fC aE ?_;refine oC o50 2 aK ?_;refine bB λc56=>fC aE ?_;refine oC o50 2 cR ?_;refine aDz rfl cH ?_;refine fC aE ?_;refine oC o50 2 aK ?_;refine aDo Tryz.underlying195 rQ rfl rfl zO zO ?_;refine fC sE ?_;refine load1 aK rfl (o50.old hf1) ?_;refine aDc zA (aH _ _) (λe1 m2 oc oq=>?_) λe1 m2 oq=>?_
  case refine_2 =>
   have e1:=of_decide_eq_false e1;have hq:gP be (.mk kd tb ks cs ns a s g off)=none:=by rw[gP,if_neg (λh=>e1 (by rw[h.2.2.1]))]
   exact⟨hq,rfl,oq⟩
  have hkl:ks.length=fW kd:=by have:=of_decide_eq_true e1;omega
  clear e1 oc;by_cases hkone:kd=1
  ·exact(by omega:False).elim
  ·have hexQ:gP be (.mk kd tb ks cs ns a s g off)=if gJ kd tb cs ns a s g=true then aO [some [aG be (dV.getD (kd - 2).toNat []),aS [] [40]],dD (eK gP) ks,eW kd cs ns a s g,some [aS [] [41]]] else none:=by
    rw[gP]
    by_cases hb:gJ kd tb cs ns a s g=true
    ·rw[if_pos ⟨hkd.1,hkd.2,hkl,hb⟩,if_neg hkone,if_pos hb,oX]
    ·rw[if_neg (λh=>hb h.2.2.2),if_neg hb]
   have hf2:=hfa.2 hkone;have hol:=aAO (kd - 2).toNat;generalize dV.getD (kd - 2).toNat []=opw at hexQ hf2 hol;clear hfa;refine nB oq 2 aQ ?_;refine aDH oq aQ λb201 m201 o201=>?_;(refine sA o201 3 aQ ?_;intro m202 o202);refine fB aE ?_;(refine sB o202 3 aK ?_;intro m204 o204);refine fB aE ?_;(refine sB o204 3 cR ?_;intro m206 o206);refine fB aE ?_;(refine sB o206 3 aK ?_;intro m208 o208);refine fB aE ?_;refine oB o208 2 aK ?_;refine bA λc211=>d1_ [0,1,2,3,4,6,7,9] [5,8] [10,11] [0,1,2,3,4,5,6,7,8,9,10,11] ?_;refine nC rfl ?_;refine fC cC ?_;refine fC aE ?_;refine oC o208 2 aK ?_;refine aDo Tryz.underlying195 rQ rfl rfl zO zO ?_;refine fC sE ?_;refine load1 aC rfl (o208.old hf2) ?_;refine aDb rfl rfl w_ ?_;refine lA o208 aB aC λb220 m220 o220=>?_;refine aM [be++opw,[40]] 2 30 [2,3] (i:=4) zA rfl rfl rfl hp rfl zO zO v_ zO zO (λp1 v1 bs1 k1 m1 hp1 hb1 hk1 hl1 oq=>?_);have o4:Own B [box b [p1,v1,.int .i64 k1] 58,row v1 5 1 bs1.length (bytes bs1),box b50 [.int .i64 kd,.string ⟨⟨tb⟩⟩,.slice e3 ks.length f3,.slice e1 cs.length f1,.slice e2 ns.length f2,.string ⟨⟨a⟩⟩,.string ⟨⟨s⟩⟩,.int .i64 g,.int .i64 z] 42,box b201 [.int .i64 0,.string ⟨⟨tb⟩⟩,.slice none 0 0,.slice e1 cs.length f1,.slice e2 ns.length f2,.string ⟨⟨a⟩⟩,.string ⟨⟨s⟩⟩,.int .i64 g,.int .i64 0] 42] m1:=oq;clear oq;refine fB aE ?_;refine oB o4 2 cR ?_;refine lB cH ?_;refine aDT [10,11,12,67,68,69,70,71,72,73,74,75,76,77,78,79,80,81,82,83,84,85,86,87,88,89,90] [10,67] (λvs' hh=>∃(i:Nat) (p' v':Value) (bs':aBs) (k':Int) (ps:List Pc),i<=ks.length/\vs'=[.int .i64 (lev+dK (ks.take i)),.int .i64 i]/\dI b p'/\dD (eK gP) (ks.take i)=some ps/\bs'=bs1++bX ps/\k'=k1+ps.length/\bs'.length<=bs1.length+(2000*gI (ks.take i)+30*i)/\k'<=k1+(2000*gI (ks.take i)+30*i)/\Own B [box b [p',v',.int .i64 k'] 58,row v' 5 1 bs'.length (bytes bs'),box b50 [.int .i64 kd,.string ⟨⟨tb⟩⟩,.slice e3 ks.length f3,.slice e1 cs.length f1,.slice e2 ns.length f2,.string ⟨⟨a⟩⟩,.string ⟨⟨s⟩⟩,.int .i64 g,.int .i64 z] 42,box b201 [.int .i64 0,.string ⟨⟨tb⟩⟩,.slice none 0 0,.slice e1 cs.length f1,.slice e2 ns.length f2,.string ⟨⟨a⟩⟩,.string ⟨⟨s⟩⟩,.int .i64 g,.int .i64 0] 42] hh) (λvs' _=>match vs' with|[_,.int _ i]=>ks.length - i.toNat|_=>0) ?_ ?_
   ·exact⟨0,p1,v1,bs1,k1,[],by omega,by simp[dK],hp1,rfl,by simp[bX],by simp,by omega,by omega,o4⟩
   rintro vs' junk hh ⟨i,p',v',bs',k',ps,hi,rfl,hp',hQ,hb',hk',hl',hk2,oh⟩;clear o4;have hk2s:ks.length<=2:=by rw[hkl];unfold fW;split<;>(try split)<;>omega
   have hszl:=fJ ks i;by_cases hlt:i<ks.length
   ·obtain⟨kx,hkx⟩:=getx hlt
    obtain⟨cx,hcx,hrx⟩:=iC rk hkx
    have hdx:=fX hkx;have hsz:=mO hkx;have hszl2:=fJ ks (i+1);have hlv:=lG hkx;have hlvl:dE kx<=dK ks:=mP hkx;have hlp:=qN kx;have hxOK:=gG bks hkx;have hrx2:=hrx
    obtain⟨cxv,hcl⟩:=cx
    obtain⟨xk,xt,xks,xcs,xns,xa,xs_,xg,xo⟩:=kx
    rw[fT]at hrx2
    obtain⟨wk,wc,wn,wz,hcv,g1,g2,gx,g3,_⟩:=hrx2
    obtain⟨h1,h2,rfl⟩:=g1.isS
    obtain⟨h3,h4,rfl⟩:=g2.isS
    obtain⟨h5,h6,rfl⟩:=g3.isS
    dsimp only at hcv hrx;subst hcv;unfold kG at hcx hrx hcl;clear g1 g2 g3;by_cases h0:i=0
    ·subst h0
     refine bB λc400=>rR (aDe cH aQ (q3.ext oh.ext) rfl zO zO ?_);refine rR (aDg aQ (q3.ext oh.ext) (λy:dG=>y.2) zD rfl zA ?_);refine aDH oh aQ λb403 m403 o403=>?_;(refine sA o403 4 aQ ?_;intro m404 o404);refine aDL (d1_ [0,1,3,4,7,8,10,11] [5,6] [9] [0,1,3,6,7,8,2,4,5,9,10,11] ?_);refine aDr o404 4 rfl aQ rfl rfl rfl ?_;refine aR (lA (Own.refl _) aB aC λb406 m406 o406=>?_);(refine aI o406.ext ?_;have o407:=Own.call o404 o406;simp only[lcA,lnA]at o407;clear o406);refine idxB o407 5 rfl aB aC rfl rfl zO w_ ?_;refine oC o407 5 aC ?_;refine XEnds.callJ [2,3] zA rfl rfl (λJ oj=>hIH _ _ _ [] _ p' v' k' bs' _ (aEc hdx zO) hxOK hrx hp' (.inl rfl) zO hT hF oj zO zO) (λps2 p2 v2 bs2 k2 m2 hq2 hp2 hb2 hk2' hl2 _ hj2 oq=>?_) (λm2 hq2 oq=>?_)
     case refine_2 =>
      have:dD (eK gP) ks=none:=aV hkx hQ hq2
      exact⟨hexQ.trans (by split;simp only[this,aO,oMN];rfl),rfl,oq⟩
     have o5:Own B [box b [p2,v2,iv k2] 58,row v2 5 1 bs2.length (bytes bs2),box b50 [iv kd,sv tb,.slice e3 ks.length f3,.slice e1 cs.length f1,.slice e2 ns.length f2,sv a,sv s,iv g,iv z] 42,box b201 [iv 0,sv tb,.slice none 0 0,.slice e1 cs.length f1,.slice e2 ns.length f2,sv a,sv s,iv g,iv 0] 42] m2:=oq;clear oq;refine max2 rfl rfl ?_;refine aR ?_
     refine⟨rfl,?_⟩
     refine⟨⟨0+1,p2,v2,bs2,k2,ps++ps2,by omega,?_,hp2,bL hkx hQ hq2,by rw[hb2,hb'];simp[bX],by rw[hk2',hk'];simp;omega,by omega,by omega,o_ [0,1,2,3]⟩,by simp;omega⟩
     congr 2
     omega
    ·obtain rfl:i=1:=by omega
     refine bB λc500=>rR (aDe cH aQ (q3.ext oh.ext) rfl zO zO ?_);refine rR (aDg aQ (q3.ext oh.ext) (λy:dG=>y.2) zD rfl zA ?_);refine aDH oh aQ λb503 m503 o503=>?_;(refine sA o503 4 aQ ?_;intro m504 o504);refine aDK (cB ?_);refine fB cC ?_;refine lA o504 aB aC λb507 m507 o507=>?_;refine aM [[44]] 1 30 [2,3,4] (i:=5) zA rfl rfl rfl hp' rfl zO zO zS zO zO (λp3 v3 bs3 k3 m3 hp3 hb3 hk3 hl3 oq=>?_);have o5:=oq
     simp only[pick,lgS,lgZ]at o5
     clear oq oh;refine d1_ [0,1,3,4,7,8,10,11] [5,6] [9] [0,1,3,6,7,8,2,4,5,9,10,11] ?_;refine aDr o5 4 rfl aQ rfl rfl rfl ?_;refine aR (lA (Own.refl _) aB aC λb551 m551 o551=>?_);(refine aI o551.ext ?_;have o552:=Own.call o5 o551;simp only[lcA,lnA]at o552;clear o551);refine idxB o552 5 rfl aB aC rfl rfl zO w_ ?_;refine oC o552 5 aC ?_;refine XEnds.callJ [2,3] zA rfl rfl (λJ oj=>hIH _ _ _ [32] _ p3 v3 k3 bs3 _ (aEc hdx zO) hxOK hrx hp3 (.inr rfl) zO hT hF oj zO zO) (λps2 p2 v2 bs2 k2 m2 hq2 hp2 hb2 hk2' hl2 _ hj2 oq=>?_) (λm2 hq2 oq=>?_)
     case refine_2 =>
      have:dD (eK gP) ks=none:=aV hkx hQ (by unfold eK;rw[if_neg zD,hq2];rfl)
      exact⟨hexQ.trans (by split;simp only[this,aO,oMN];rfl),rfl,oq⟩
     have o6:Own B [box b [p2,v2,iv k2] 58,row v2 5 1 bs2.length (bytes bs2),box b50 [iv kd,sv tb,.slice e3 ks.length f3,.slice e1 cs.length f1,.slice e2 ns.length f2,sv a,sv s,iv g,iv z] 42,box b201 [iv 0,sv tb,.slice none 0 0,.slice e1 cs.length f1,.slice e2 ns.length f2,sv a,sv s,iv g,iv 0] 42] m2:=oq;clear oq;refine max2 rfl rfl ?_;refine aR ?_
     refine⟨rfl,?_⟩
     refine⟨⟨1+1,p2,v2,bs2,k2,ps++(aS [] [44]::ps2),by omega,?_,hp2,bL hkx hQ (by unfold eK;rw[if_neg zD,hq2];rfl),by rw[hb2,hb3,hb'];simp[bX,gX,wr,aS],by rw[hk2',hk3,hk'];simp;omega,by omega,by omega,o_ [0,1,2,3]⟩,by simp;omega⟩
     congr 2
     omega
   have hQ:=fF (aEs hlt) hQ
   rw[aEa (aEs hlt)]at hl' hk2 ⊢
   by_cases hk2x:kd=2
   ·exact(by omega:False).elim
   by_cases hk3x:kd=3
   ·exact(by omega:False).elim
   by_cases hk7x:kd=7
   ·exact(by omega:False).elim
   by_cases hk8x:kd=8
   ·exact(by omega:False).elim
   have hR:eW kd cs ns a s g=some []:=by unfold eW;rw[if_neg hk2x,if_neg hk3x,if_neg hk7x,if_neg hk8x]
   have hB:gJ kd tb cs ns a s g=true↔tb=[]/\cs.length=0/\ns.length=0/\a=[]/\s=[]/\g=0:=by simp[gJ,hkone,hk2x,hk3x,hk7x,hk8x]
   refine bA λc4100=>fB aE ?_;refine oB oh 2 aK ?_;refine bA λc4103=>bA λc4104=>?_;refine bA λc4105=>bA λc4106=>?_;refine bA λc4107=>fB aE ?_;refine oB oh 2 aK ?_;refine bD λc4110=>cB ?_;refine fB cC ?_;refine lA oh aB aC λb4113 m4113 o4113=>?_;refine aM [[41]] 1 30 [2,3] (i:=4) zA rfl rfl rfl hp' rfl zO zO zS zO zO (λp9 v9 bs9 k9 m9 hp9 hb9 hk9 hl9 oq=>?_);have o9:Own B [box b [p9,v9,iv k9] 58,row v9 5 1 bs9.length (bytes bs9),box b50 [iv kd,sv tb,.slice e3 ks.length f3,.slice e1 cs.length f1,.slice e2 ns.length f2,sv a,sv s,iv g,iv z] 42,box b201 [iv 0,sv tb,.slice none 0 0,.slice e1 cs.length f1,.slice e2 ns.length f2,sv a,sv s,iv g,iv 0] 42] m9:=oq;clear oq;refine fB aE ?_;refine oB o9 3 aC ?_;refine aDJ (λc4162=>?_) (λc4162=>?_);refine fB aE ?_;refine oB o9 3 kI ?_;refine lB gL ?_;refine aDJ (λc4166=>?_) (λc4166=>?_);refine fB aE ?_;refine oB o9 3 cS ?_;refine lB aB ?_;refine aDJ (λc4170=>?_) (λc4170=>?_);refine fB aE ?_;refine oB o9 3 aC ?_;refine aDJ (λc4173=>?_) (λc4173=>?_);refine fB aE ?_;refine oB o9 3 aC ?_;refine aDJ (λc4176=>?_) (λc4176=>?_);refine fB aE ?_;refine oB o9 3 aK ?_
   any_goals (refine aDc (B:=B) zA (aH false _) (λe8 m8 _ oq=>by cases e8) λe8 m8 oq=>?_;exact⟨hexQ.trans (if_neg λhb=>by obtain⟨x0,x1,x2,x3,x4,x5⟩:=hB.1 hb;first|contradiction|omega),rfl,oq⟩)
   refine aDc (B:=B) zA (aH _ _) (λe8 m8 _ oq=>?_) λe8 m8 oq=>?_
   case refine_2 =>
    have e8:=of_decide_eq_false e8
    exact⟨hexQ.trans (if_neg λhb=>by obtain⟨x0,x1,x2,x3,x4,x5⟩:=hB.1 hb;omega),rfl,oq⟩
   have e8:=of_decide_eq_true e8;have hbare:=hB.2 ⟨by assumption,by omega,by omega,by assumption,by assumption,by omega⟩;refine rO ?_;exact XEnds.done (ps:=[aG be opw,aS [] [40]]++(ps++([]++([aS [] [41]]++[])))) (hexQ.trans (by rw[if_pos hbare];simp only[hQ,hR,aO,oMS])) (oq.sel [0,1] rfl) hp9 (by rw[hb9,hb',hb1];simp[bX,gX,wr,aG,aS]) (by rw[hk9,hk',hk1];simp;omega) zO zO
end Go.Proofs.YtohlogbnpfofpaaGreatDoor
