/- Part 9 of the proof of canonical: FnQc, FnQd, FnQe, FnQf, FnQg, FnXa, FnRepS, FnRepO, FnRepB, FnRepN, FnRepR, FnXb, FnXt. -/
import Derived.Test.YtohlogbnpfofpaaGreatDoorPC08
set_option linter.all false
set_option maxHeartbeats 100000000
set_option maxRecDepth 100000
namespace Go.Proofs.YtohlogbnpfofpaaGreatDoor
open Go StillVC
theorem yE {v:Vl}{k n:Int}{t:aBs}(h1:v.k=k)(h2:v.n=n)(h3:v.t=t):v=⟨k,n,t⟩:=by cases v;simp_all
theorem pR (z:Nat) {t:Tok}{r:List Tok}(h3:t.kind≠3)(h2:t.kind≠2):dA z (t::r)=oC z (t::r):=by
 show(if t.kind=3 then _ else if t.kind=2 then _ else _)=_
 rw[if_neg h3,if_neg h2]
theorem litE_minus (z:Nat)(n:Int)(x:aBs)(r:List Tok):oC z (⟨4,[45],0,0⟩::⟨2,x,n,0⟩::r)=.ok (some ⟨2,-n,[]⟩,r):=by
 unfold oC
 rw[aDf (iI rfl)]
 rfl
theorem litE_at (z:Nat)(n:Int)(x:aBs)(r:List Tok):oC z (⟨4,[64],0,0⟩::⟨2,x,n,0⟩::r)=.ok (some ⟨3,n,[]⟩,r):=by
 unfold oC
 rw[aDf (fV (by decide))]
 simp only[aEd,if_false]
 rw[aDf (iI rfl)]
 rfl
theorem litE_true (z:Nat)(r:List Tok):oC z (⟨1,[116,114,117,101],0,0⟩::r)=.ok (some ⟨4,1,[]⟩,r):=by
 unfold oC
 rw[aDf (fV (by decide))]
 simp only[aEd,if_false]
 rw[aDf (fV (by decide))]
 simp only[aEd,if_false]
 rw[aDf (iI rfl)]
 rfl
theorem litE_false (z:Nat)(r:List Tok):oC z (⟨1,[102,97,108,115,101],0,0⟩::r)=.ok (some ⟨4,0,[]⟩,r):=by
 unfold oC
 rw[aDf (fV (by decide))]
 simp only[aEd,if_false]
 rw[aDf (fV (by decide))]
 simp only[aEd,if_false]
 rw[aDf (fV (by decide))]
 simp only[aEd,if_false]
 rw[aDf (iI rfl)]
 rfl
theorem litE_null (z:Nat)(r:List Tok):oC z (⟨1,[110,117,108,108],0,0⟩::r)=.ok (some vl0,r):=by
 unfold oC
 rw[aDf (fV (by decide))]
 simp only[aEd,if_false]
 rw[aDf (fV (by decide))]
 simp only[aEd,if_false]
 rw[aDf (fV (by decide))]
 simp only[aEd,if_false]
 rw[aDf (fV (by decide))]
 simp only[aEd,if_false]
 rw[aDf (iI rfl)]
 rfl
theorem litE_none (z:Nat) {t:Tok}{r:List Tok}(h1:dH t [45]=false)(h2:dH t [64]=false)(h3:dH t [116,114,117,101]=false)(h4:dH t [102,97,108,115,101]=false)(h5:dH t [110,117,108,108]=false):oC z (t::r)=.ok (none,t::r):=by
 unfold oC
 rw[aDf (fV h1)]
 simp only[aEd,if_false]
 rw[aDf (fV h2)]
 simp only[aEd,if_false]
 rw[aDf (fV h3)]
 simp only[aEd,if_false]
 rw[aDf (fV h4)]
 simp only[aEd,if_false]
 rw[aDf (fV h5)]
 rfl
theorem Rdx.literal (z:Nat) {v:Vl}{ps:List Pc}(h:bT v=some ps):Rdx (dA z) (aZ ps) (some v) []:=by
 intro r _;unfold bT at h;split at h
 ·rename_i hk
  split at h
  ·rename_i hc
   cases h
   rw[yE hk hc.1 hc.2]
   exact(pR z (by decide) (by decide)).trans (litE_null z r)
  ·cases h
 ·split at h
  ·rename_i hk
   split at h
   ·rename_i hc
    cases h
    rw[yE (v:=v) hk hc.1 rfl]
    rfl
   ·cases h
  ·split at h
   ·rename_i hk
    split at h
    ·rename_i hc
     cases h
     rw[yE (v:=v) hk rfl hc.1]
     by_cases hn:v.n<0
     ·rw[if_pos hn]
      refine(pR z (by decide) (by decide)).trans ((litE_minus z (-v.n) _ r).trans ?_)
      rw[Int.neg_neg]
     ·rw[if_neg hn]
      rfl
    ·cases h
   ·split at h
    ·rename_i hk
     split at h
     ·rename_i hc
      cases h
      rw[yE (v:=v) hk rfl hc.1]
      exact(pR z (by decide) (by decide)).trans (litE_at z v.n _ r)
     ·cases h
    ·split at h
     ·rename_i hk
      split at h
      ·rename_i hc
       cases h
       rcases hc.2 with hn|hn
       ·rw[yE hk hn hc.1,if_pos rfl]
        exact(pR z (by decide) (by decide)).trans (litE_false z r)
       ·rw[yE hk hn hc.1,if_neg (by decide)]
        exact(pR z (by decide) (by decide)).trans (litE_true z r)
      ·cases h
     ·cases h
theorem Rdx.value (z:Nat) {v:Vl}{ps:List Pc}(h:bT v=some ps):Rdx (mX z) (aZ ps) v []:=by
 have:=Rdx.last (f:=fun o:Option Vl=>match o with|some v=>(pure v:PM Vl)|none=>pV z 4) (b:=v) (Rdx.literal z h) rfl
 exact this
theorem lit_name (z:Nat) {b s:aBs}(h:dJ s=true)(hr:reserved s=false)(r:List Tok):dA z ((aD b s).t::r)=.ok (none,(aD b s).t::r):=by
 have hres:=of_decide_eq_false hr
 refine(pR z (show(1:Int)≠3 by decide) (show(1:Int)≠2 by decide)).trans (litE_none z (vS h (by decide) b) (vS h (by decide) b) ?_ ?_ ?_)
 ·exact decide_eq_false fun e=>hres (.inl e.1)
 ·exact decide_eq_false fun e=>hres (.inr (.inl e.1))
 ·exact decide_eq_false fun e=>hres (.inr (.inr e.1))
theorem opd_eq {x:Opd}{v a:aBs}{c:Bool}{w:Vl}(h1:x.var=v)(h2:x.attr=a)(h3:x.con=c)(h4:x.val=w):x=⟨v,a,c,w⟩:=by cases x;simp_all
theorem Rdx.side (z:Nat) {x:Opd}{ps:List Pc}(h:gB x=some ps):Rdx (nW z) (aZ ps) x [[46]]:=by
 unfold gB at h;split at h
 ·rename_i hc
  split at h
  ·rename_i hva
   intro r _;unfold nW
   rw[aDf (Rdx.literal z h r (NS.nil _))]
   rw[opd_eq hva.1 hva.2 hc rfl]
   rfl
  ·cases h
 ·rename_i hc
  have hc:x.con=false:=by simpa using hc
  split at h
  ·cases h
  ·rename_i hv0
   have hv:x.val=vl0:=by
    have hv0:=Decidable.not_not.1 hv0;exact yE hv0.1 hv0.2.1 hv0.2.2
   split at h
   ·rename_i hvar
    split at h
    ·cases h
    ·rename_i hres
     have hres:reserved x.attr=false:=by simpa using hres
     obtain⟨hok,rfl⟩:=fT h
     intro r hr;unfold nW
     show(dA z >>= _) ((aD [32] x.attr).t::r)=_
     rw[aDf (lit_name z hok hres r)]
     simp only
     rw[aDf (show cI z ((aD [32] x.attr).t::r)=.ok (x.attr,r) from rfl)]
     rw[aDf (jW (hr [46] (by simp)))]
     rw[opd_eq hvar rfl hc hv]
     rfl
   ·split at h
    ·cases h
    ·rename_i hres
     have hres:reserved x.var=false:=by simpa using hres
     obtain⟨p1,q1,e1,h1,rfl⟩:=aA h
     obtain⟨p2,q2,e2,h2,rfl⟩:=aA h1
     obtain⟨p3,q3,e3,h3,rfl⟩:=aA h2
     obtain rfl:=dO h3
     obtain⟨hok,rfl⟩:=fT e1
     obtain⟨hok3,rfl⟩:=fT e3
     cases e2
     intro r hr;unfold nW
     show(dA z >>= _) ((aD [32] x.var).t::⟨4,[46],0,0⟩::(aD [] x.attr).t::r)=_
     rw[aDf (lit_name z hok hres _)]
     simp only
     rw[aDf (show cI z ((aD [32] x.var).t::⟨4,[46],0,0⟩::(aD [] x.attr).t::r)=.ok (x.var,⟨4,[46],0,0⟩::(aD [] x.attr).t::r) from rfl)]
     rw[aDf (iI rfl)]
     rw[opd_eq rfl rfl hc hv]
     rfl
theorem Rdx.cond (z:Nat) {x:Cnd}{ps:List Pc}(h:qA x=some ps):Rdx (sY z) (aZ ps) x [[46],[43],[45]]:=by
 obtain⟨p1,q1,e1,h1,rfl⟩:=aA h
 obtain⟨p2,q2,e2,h2,rfl⟩:=aA h1
 obtain⟨p3,q3,e3,h3,rfl⟩:=aA h2
 obtain⟨p4,q4,e4,h4,rfl⟩:=aA h3
 obtain rfl:=dO h4
 rw[aEb]
 obtain⟨l,op,rt,ad⟩:=x
 simp only at e1 e2 e3 e4
 simp only[bJ]
 intro r hr;unfold sY
 obtain⟨j,hj,s,hs,hp2⟩:=aAD e2
 have hs4:dH ⟨4,s,0,0⟩ [46]=false:=by
  have hm:=aD6 hs
  simp at hm
  rcases hm with rfl|rfl|rfl|rfl<;>decide
 rw[aD7,aDf (Rdx.side z e1 _ (by rw[hp2];exact NS.cons (t:=⟨4,s,0,0⟩) (fun s' hs'=>by rw[aEc.1 hs'];exact hs4)))]
 rw[aD7,aDf (Rdx.op z e2 _ (NS.nil _))]
 unfold tS at e4;split at e4
 ·cases e4
 ·split at e4
  ·cases e4
   rw[aD7,aDf (Rdx.side z e3 (aZ [aL [32] [43],bU [32] ad]++r) (show NS _ (⟨4,[43],0,0⟩::⟨2,Lib.itoa ad,ad,0⟩::r) from NS.cons (by decide)))]
   show(cG [43] >>= _) (⟨4,[43],0,0⟩::⟨2,Lib.itoa ad,ad,0⟩::r)=_
   rw[aDf (iI rfl)]
   rfl
  ·split at e4
   ·cases e4
    rw[aD7,aDf (Rdx.side z e3 (aZ [aL [32] [45],bU [32] (-ad)]++r) (show NS _ (⟨4,[45],0,0⟩::⟨2,Lib.itoa (-ad),-ad,0⟩::r) from NS.cons (by decide)))]
    show(cG [43] >>= _) (⟨4,[45],0,0⟩::⟨2,Lib.itoa (-ad),-ad,0⟩::r)=_
    rw[aDf (fV (by decide))]
    simp only[aEd,if_false]
    rw[aDf (iI rfl)]
    show Except.ok ((⟨l,op,rt,- -ad⟩:Cnd),r)=_
    rw[Int.neg_neg]
   ·cases e4
    obtain rfl:ad=0:=by omega
    rw[aD7,show aZ []++r=r from rfl,aDf (Rdx.side z e3 r (hr.sub (by simp)))]
    rw[aDf (jW (hr [43] (by simp)))]
    simp only[aEd,if_false]
    rw[aDf (jW (hr [45] (by simp)))]
    rfl
theorem Rdx.conds (z:Nat) {l:List Cnd}{ps:List Pc}(h:lE l=some ps):Rdx (lF z) (aZ ps) l [[97,110,100],[46],[43],[45]]:=by
 cases l with
 | nil=>cases h
 | cons x xs =>
  obtain⟨p1,q1,e1,h1,rfl⟩:=aA h
  obtain⟨p2,q2,e2,h2,rfl⟩:=aA h1
  cases e1
  rw[bJ,bJ]
  unfold lF;refine Rdx.then (Rdx.need1 z (t:=⟨1,[119,104,101,114,101],0,0⟩) rfl) ?_;exact Rdx.listE (c:=aD [32] [97,110,100]) rfl (by decide) (Rdx.cond z e2) (fun y qs hy=>Rdx.cond z hy) h2
mutual
def eY:Ex→Ex
 | .mk k tb ks cs ns a as_ g _=>.mk k tb (fE ks) cs ns a as_ g 0
def fE:List Ex→List Ex
 | []=>[]
 | x::r=>eY x::fE r
end
theorem yS (z:Nat) {stop:Pc}{q0:List Pc}{s:aBs}{b:aBs}{l:List aBs}{ps:List Pc}(h:gV bB b l=some ps)(hs:dH stop.t s=true)(hc:dH stop.t [44]=false)(hf:∀ x r,l=x::r→dJ x=true→dH (aD b x).t s=false) :
  ∀ r,namesU z s (aZ ps++(aZ (stop::q0)++r))=.ok (l,aZ (stop::q0)++r):=by
 intro r;cases l with
 | nil =>
  cases h
  exact kH (by show bD [s] (stop.t::(aZ q0++r))=true;rw[jK];exact hs)
 | cons x xs =>
  obtain⟨p,q,hp,hq,rfl⟩:=qK h
  obtain⟨hok,rfl⟩:=fT hp
  have hr:=Rdx.names z h (aZ (stop::q0)++r) (NS.tok (fun s' hs'=>by rw[aEc.1 hs'];exact hc))
  rw[jN ?_]
  ·exact hr
  ·rw[bJ]
   show bD [s] ((aD b x).t::(aZ q++(aZ (stop::q0)++r)))=false
   rw[jK]
   exact hf x xs rfl hok
theorem rest_read (z:Nat) {k g:Int}{cs:List Cnd}{ns:List aBs}{a as_:aBs}{ps:List Pc}(h1:2≤k)(h8:k≤8)(hb:fC k [] cs ns a as_ g=true)(h:dZ k cs ns a as_ g=some ps)(kids:List Ex) :
  ∀ r,eC z (k - 2).toNat 0 kids (aZ ps++(aZ [aL [] [41]]++r))=.ok (.mk k [] kids cs ns a as_ g 0,aZ [aL [] [41]]++r):=by
 intro r;have hb:=of_decide_eq_true hb
 rcases(show k=2∨k=3∨k=4∨k=5∨k=6∨k=7∨k=8 by omega) with rfl|rfl|rfl|rfl|rfl|rfl|rfl
 ·simp at hb
  obtain⟨rfl,rfl,rfl,rfl⟩:=hb
  have h:lE cs=some ps:=h
  show(lF z >>= _) _=_
  rw[aDf (Rdx.conds z h _ (NS.tok (by decide)))]
  rfl
 ·simp at hb
  obtain⟨rfl,rfl,rfl,rfl⟩:=hb
  have h:aG [some [aD [32] [111,110]],gV bB [32] ns]=some ps:=h
  obtain⟨p1,q1,e1,h1,rfl⟩:=aA h
  obtain⟨p2,q2,e2,h2,rfl⟩:=aA h1
  obtain rfl:=dO h2;cases e1
  rw[aEb,bJ,aD7]
  show(aX z [[111,110]] >>= _) _=_
  rw[aDf (jE z _ [111,110] _)]
  rw[aDf (yS z e2 (stop:=aL [] [41]) (q0:=[]) rfl (by decide) (fun x r _ hx=>vS hx (by decide) _) r)]
  rfl
 ·simp at hb
  obtain⟨rfl,rfl,rfl,rfl,rfl⟩:=hb
  cases h
  rfl
 ·simp at hb
  obtain⟨rfl,rfl,rfl,rfl,rfl⟩:=hb
  cases h
  rfl
 ·simp at hb
  obtain⟨rfl,rfl,rfl,rfl,rfl⟩:=hb
  cases h
  rfl
 ·simp at hb
  obtain⟨rfl,rfl,rfl⟩:=hb
  have h:aG [some [aL [] [44]],bB [32] a,some [aD [32] [97,115]],bB [32] as_]=some ps:=h
  obtain⟨p1,q1,e1,h1,rfl⟩:=aA h
  obtain⟨p2,q2,e2,h2,rfl⟩:=aA h1
  obtain⟨p3,q3,e3,h3,rfl⟩:=aA h2
  obtain⟨p4,q4,e4,h4,rfl⟩:=aA h3
  obtain rfl:=dO h4;cases e1;cases e3
  simp only[aEb,bJ,aD7]
  show(aX z [[44]] >>= _) _=_
  rw[aDf (lC z _ [44] _)]
  rw[aDf (Rdx.name z e2 _ (NS.nil _))]
  rw[aDf (jE z _ [97,115] _)]
  rw[aDf (Rdx.name z e4 _ (NS.nil _))]
  rfl
 ·simp at hb
  subst hb;have h:(if aBJ ns=true then aG [some [aD [32] [111,110]],gV bB [32] ns,some [aD [32] [119,105,116,104]],fZ g [[99,111,117,110,116],[115,117,109],[108,101,97,115,116],[103,114,101,97,116,101,115,116]],
   (if g=1 then(if a=[] then some [] else none) else bB [32] a),some [aD [32] [97,115]],bB [32] as_] else none)=some ps:=h
  split at h
  ·rename_i hw
   obtain⟨p1,q1,e1,h1,rfl⟩:=aA h
   obtain⟨p2,q2,e2,h2,rfl⟩:=aA h1
   obtain⟨p3,q3,e3,h3,rfl⟩:=aA h2
   obtain⟨p4,q4,e4,h4,rfl⟩:=aA h3
   obtain⟨p5,q5,e5,h5,rfl⟩:=aA h4
   obtain⟨p6,q6,e6,h6,rfl⟩:=aA h5
   obtain⟨p7,q7,e7,h7,rfl⟩:=aA h6
   obtain rfl:=dO h7;cases e1;cases e3;cases e6
   simp only[aEb,bJ,aD7]
   show(aX z [[111,110]] >>= _) _=_
   rw[aDf (jE z _ [111,110] _)]
   rw[aDf (yS z e2 (stop:=aD [32] [119,105,116,104]) (q0:=[]) rfl (by decide) (fun x r e hx=>by subst e;exact decide_eq_false fun y=>of_decide_eq_true hw y.1) _)]
   show(aX z [[119,105,116,104]] >>= _) _=_
   rw[aDf (jE z _ [119,105,116,104] _)]
   rw[aDf (Rdx.word z (by decide) e4 _ (NS.nil _))]
   by_cases hg:g=1
   ·rw[if_pos hg]at e5
    split at e5
    ·rename_i ha
     cases e5
     rw[nB (by simp[hg]),aDf (PM.pure_eq _ _)]
     rw[show aZ []++(aZ [aD [32] [97,115]]++(aZ p7++(aZ [aL [] [41]]++r)))=aZ [aD [32] [97,115]]++(aZ p7++(aZ [aL [] [41]]++r)) from rfl]
     rw[aDf (jE z _ [97,115] _)]
     rw[aDf (Rdx.name z e7 _ (NS.nil _))]
     rw[ha]
     rfl
    ·cases e5
   ·rw[if_neg hg]at e5
    rw[kB (by simpa using hg)]
    rw[aDf (Rdx.name z e5 _ (NS.nil _))]
    rw[aDf (jE z _ [97,115] _)]
    rw[aDf (Rdx.name z e7 _ (NS.nil _))]
    rfl
  ·cases h
theorem op_at {k:Int}(h2:2≤k)(h8:k≤8)(b:aBs)(r:List Tok):gO ((aD b (cJ.getD (k - 2).toNat [])).t::⟨4,[40],0,0⟩::r)=some (k - 2).toNat:=by
 rcases(show k=2∨k=3∨k=4∨k=5∨k=6∨k=7∨k=8 by omega) with rfl|rfl|rfl|rfl|rfl|rfl|rfl<;>rfl
theorem op_none {t:Tok}{r:List Tok}(h:NS [[40]] r):gO (t::r)=none:=by
 unfold gO
 rw[List.find?_eq_none]
 intro i _;have h2:bD [[40]] r=false:=h [40] (by simp)
 simp only[bD,h2,Bool.and_false]
 decide
theorem exLev_kid {k:Int}{tb:aBs}{ks:List Ex}{cs:List Cnd}{ns:List aBs}{a as_:aBs}{g:Int}{o n:Nat}(h:bZ (.mk k tb ks cs ns a as_ g o)≤n+1):cC ks≤n:=by
 simp only[bZ]at h
 omega
theorem two_iff {k:Int}(h2:2≤k)(h8:k≤8):(fU k=2∧qD (k - 2).toNat=true)∨(fU k=1∧qD (k - 2).toNat=false):=by
 rcases(show k=2∨k=3∨k=4∨k=5∨k=6∨k=7∨k=8 by omega) with rfl|rfl|rfl|rfl|rfl|rfl|rfl<;>simp[fU,qD]
theorem rest_head {k g:Int}{cs:List Cnd}{ns:List aBs}{a as_:aBs}{ps:List Pc}(h:dZ k cs ns a as_ g=some ps)(r:List Tok):NS [[40]] (aZ ps++(aZ [aL [] [41]]++r)):=by
 have hd:∀(c:Pc) (q:List Pc),dH c.t [40]=false→NS [[40]] (aZ (c::q)++(aZ [aL [] [41]]++r)):=fun c q hc=>NS.tok (fun s hs=>by rw[aEc.1 hs];exact hc);unfold dZ at h;split at h
 ·cases cs with
  | nil=>cases h
  | cons x xs =>
   obtain⟨p1,q1,e1,_,rfl⟩:=aA h
   cases e1
   exact hd _ _ (by decide)
 ·split at h
  ·obtain⟨p1,q1,e1,_,rfl⟩:=aA h
   cases e1
   exact hd _ _ (by decide)
  ·split at h
   ·obtain⟨p1,q1,e1,_,rfl⟩:=aA h
    cases e1
    exact hd _ _ (by decide)
   ·split at h
    ·split at h
     ·obtain⟨p1,q1,e1,_,rfl⟩:=aA h
      cases e1
      exact hd _ _ (by decide)
     ·cases h
    ·cases h
     exact NS.tok (c:=aL [] [41]) (by decide)
theorem kids_one {b:aBs}{x:Ex}{ps:List Pc}(h:iK b [x]=some ps):gM b x=some ps:=by
 simp only[iK]at h
 split at h
 ·rename_i p q e1 e2
  cases e2
  cases h
  simpa using e1
 ·cases h
theorem kids_two {b:aBs}{x y:Ex}{ps:List Pc}(h:iK b [x,y]=some ps):∃ p q,gM b x=some p∧gM [32] y=some q∧ps=p++[aL [] [44]]++q:=by
 unfold iK at h;split at h
 ·rename_i p q e1 e2
  cases h
  exact⟨p,q,e1,kids_one e2,rfl⟩
 ·cases h
theorem zZ (z:Nat):∀(n:Nat)(x:Ex)(b:aBs)(ps:List Pc),gM b x=some ps→bZ x≤n→Rdx (bV z n) (aZ ps) (eY x) [[40]]
 | 0,.mk _ _ _ _ _ _ _ _ _,_,_,_,hl=>by simp[bZ]at hl
 | n+1,.mk k tb ks cs ns a as_ g o,b,ps,h,hl=>by
  have hkl:=exLev_kid hl;unfold gM at h;split at h
  ·rename_i hc
   obtain⟨c1,c8,clen,cb⟩:=hc
   split at h
   ·rename_i hk1
    subst hk1;have cb:=of_decide_eq_true cb
    simp at cb
    obtain⟨rfl,rfl,rfl,rfl,rfl⟩:=cb
    have hks:ks=[]:=aEl.1 (by simpa[fU] using clen);subst hks
    obtain⟨_,rfl⟩:=fT h
    intro r hr;unfold bV
    show(match gO ((aD b tb).t::r) with|none=>_|some i=>_)=_
    rw[op_none hr]
    rfl
   ·rename_i hk1
    have h2:2≤k:=by omega
    have cb':=of_decide_eq_true cb;have htb:tb=[]:=cb'.1.resolve_left hk1;subst htb
    obtain⟨p1,q1,e1,h1,rfl⟩:=aA h
    obtain⟨p2,q2,e2,h2',rfl⟩:=aA h1
    obtain⟨p3,q3,e3,h3,rfl⟩:=aA h2'
    obtain⟨p4,q4,e4,h4,rfl⟩:=aA h3
    obtain rfl:=dO h4;cases e1;cases e4;intro r hr
    simp only[aEb,bJ,aD7]
    unfold bV;have hop:gO (aZ [aD b (cJ.getD (k - 2).toNat []),aL [] [40]]++(aZ p2++(aZ p3++(aZ [aL [] [41]]++r))))=some (k - 2).toNat:=op_at h2 c8 b _;have hof:bH (aZ [aD b (cJ.getD (k - 2).toNat []),aL [] [40]]++(aZ p2++(aZ p3++(aZ [aL [] [41]]++r))))=0:=rfl
    simp only[hop,hof]
    rw[aDf (need_ws z _ _ _ _ _)]
    have hre:=rest_read z h2 c8 cb e3;have hhead:=rest_head e3 r
    rcases two_iff h2 c8 with ⟨hk2,ht⟩|⟨hk2,ht⟩
    ·obtain⟨x,y,rfl⟩:∃ x y,ks=[x,y]:=by
      rw[hk2]at clen
      match ks,clen with
      | [x,y],_=>exact⟨x,y,rfl⟩
     obtain⟨u,v,eu,ev',rfl⟩:=kids_two e2
     have hlx:bZ x≤n:=by simp only[cC]at hkl;omega
     have hly:bZ y≤n:=by simp only[cC]at hkl;omega
     simp only[bJ,aD7]
     rw[aDf (zZ z n x [] u eu hlx _ (NS.tok (c:=aL [] [44]) (by decide)))]
     have hk:ifP (qD (k - 2).toNat) (do
       aX z [[44]]
       let b ← bV z n
       pure [eY x,b]:PM (List Ex)) [eY x] (aZ [aL [] [44]]++(aZ v++(aZ p3++(aZ [aL [] [41]]++r))))=.ok ([eY x,eY y],aZ p3++(aZ [aL [] [41]]++r)):=by
      rw[kB ht]
      rw[aDf (lC z _ [44] _)]
      rw[aDf (zZ z n y [32] v ev' hly _ hhead)]
      rfl
     rw[aDf hk,aDf (hre [eY x,eY y] r)]
     show(aX z [[41]] >>= _) _=_
     rw[aDf (lC z _ [41] _)]
     simp only[eY,fE]
     rfl
    ·obtain⟨x,rfl⟩:∃ x,ks=[x]:=by
      rw[hk2]at clen
      match ks,clen with
      | [x],_=>exact⟨x,rfl⟩
     have eu:=kids_one e2;have hlx:bZ x≤n:=by simp only[cC]at hkl;omega
     rw[aDf (zZ z n x [] p2 eu hlx _ hhead)]
     rw[nB ht,aDf (PM.pure_eq _ _),aDf (hre [eY x] r)]
     show(aX z [[41]] >>= _) _=_
     rw[aDf (lC z _ [41] _)]
     simp only[eY,fE]
     rfl
  ·cases h
theorem Rdx.place (z:Nat) {t a:aBs}{ps:List Pc}(h:eB t a=some ps):Rdx (kF z) (aZ ps) (t,a) []:=by
 obtain⟨p1,q1,e1,h1,rfl⟩:=aA h
 obtain⟨p2,q2,e2,h2,rfl⟩:=aA h1
 obtain⟨p3,q3,e3,h3,rfl⟩:=aA h2
 obtain rfl:=dO h3;cases e2;intro r _
 simp only[aEb,bJ,aD7]
 unfold kF
 rw[aDf (Rdx.name z e1 _ (NS.nil _))]
 rw[aDf (lC z _ [46] _)]
 rw[aDf (Rdx.name z e3 _ (NS.nil _))]
 rfl
theorem Rdx.column (z:Nat) {b:aBs}{c:Col}{ps:List Pc}(h:mV b c=some ps):Rdx (lG z) (aZ ps) c [[61]]:=by
 obtain⟨p1,q1,e1,h1,rfl⟩:=aA h
 obtain⟨p2,q2,e2,h2,rfl⟩:=aA h1
 obtain⟨p3,q3,e3,h3,rfl⟩:=aA h2
 obtain rfl:=dO h3
 obtain⟨nm,kd,df⟩:=c
 simp only at e1 e2 e3;intro r hr
 simp only[aEb,bJ,aD7]
 unfold lG
 rw[aDf (Rdx.name z e1 _ (NS.nil _))]
 rw[aDf (Rdx.word z (by decide) e2 _ (NS.nil _))]
 split at e3
 ·rename_i hd
  cases e3
  rw[yE (v:=df) hd.1 hd.2.1 hd.2.2]
  rw[show aZ []++r=r from rfl,aDf (jW (hr [61] (by simp)))]
  rfl
 ·obtain⟨qs,hq,rfl⟩:=aEi.1 e3
  rw[aDf (aCI (c:=aL [32] [61]) rfl)]
  simp only[if_true]
  rw[aDf (Rdx.value z hq _ (NS.nil _))]
  rfl
theorem Rdx.term (z:Nat) {t:Trm}{ps:List Pc}(h:bG t=some ps):Rdx (kZ z) (aZ ps) t []:=by
 obtain⟨p1,q1,e1,h1,rfl⟩:=aA h
 obtain⟨p2,q2,e2,h2,rfl⟩:=aA h1
 obtain⟨p3,q3,e3,h3,rfl⟩:=aA h2
 obtain⟨p4,q4,e4,h4,rfl⟩:=aA h3
 obtain⟨p5,q5,e5,h5,rfl⟩:=aA h4
 obtain⟨p6,q6,e6,h6,rfl⟩:=aA h5
 obtain⟨p7,q7,e7,h7,rfl⟩:=aA h6
 obtain⟨p8,q8,e8,h8,rfl⟩:=aA h7
 obtain⟨p9,q9,e9,h9,rfl⟩:=aA h8
 obtain⟨p0,q0,e0,h0,rfl⟩:=aA h9
 obtain rfl:=dO h0;cases e4;cases e7;cases e0
 obtain⟨at_,ms,tl,nu,de,gv,tk⟩:=t
 simp only at e1 e2 e3 e5 e6 e8 e9;intro r _
 simp only[aEb,bJ,aD7]
 unfold kZ
 rw[aDf (Rdx.name z e1 _ (NS.nil _))]
 rw[aDf (Rdx.word z (by decide) e2 _ (NS.nil _))]
 have htol:∀ R,ifP (ms == 5) (lK z) 0 (aZ p3++R)=.ok (tl,R):=by
  intro R;by_cases hm:ms=5
  ·rw[if_pos hm]at e3
   rw[kB (by simp[hm])]
   exact Rdx.num z e3 _ (NS.nil _)
  ·rw[if_neg hm]at e3
   split at e3
   ·rename_i ht
    cases e3
    rw[nB (by simp[hm]),ht]
    rfl
   ·cases e3
 rw[aDf (htol _)]
 show(aX z [[108,101,97,115,116]] >>= _) _=_
 rw[aDf (jE z _ [108,101,97,115,116] _)]
 rw[aDf (Rdx.num z e5 _ (NS.nil _))]
 have hden:∀ R,(do if ← cG [47] then lK z else pure 1:PM Int) (aZ p6++(aZ [aD [32] [103,105,118,101,115]]++R))=.ok (de,aZ [aD [32] [103,105,118,101,115]]++R):=by
  intro R;split at e6
  ·rename_i hd
   cases e6
   show(cG [47] >>= _) (aZ [aD [32] [103,105,118,101,115]]++R)=_
   rw[aDf (take_f (c:=aD [32] [103,105,118,101,115]) (by decide)),hd]
   rfl
  ·obtain⟨qs,hq,rfl⟩:=aEi.1 e6
   rw[aDf (aCI (c:=aL [] [47]) rfl)]
   exact Rdx.num z hq _ (NS.nil _)
 rw[aDf (hden _)]
 show(aX z [[103,105,118,101,115]] >>= _) _=_
 rw[aDf (jE z _ [103,105,118,101,115] _)]
 rw[aDf (Rdx.num z e8 _ (NS.nil _))]
 have htak:∀ R,(do if ← cG [116,97,107,101,115] then lK z else pure 0:PM Int) (aZ p9++(aZ [aL [] [59]]++R))=.ok (tk,aZ [aL [] [59]]++R):=by
  intro R;split at e9
  ·rename_i hd
   cases e9
   show(cG [116,97,107,101,115] >>= _) (aZ [aL [] [59]]++R)=_
   rw[aDf (take_f (c:=aL [] [59]) (by decide)),hd]
   rfl
  ·obtain⟨qs,hq,rfl⟩:=aEi.1 e9
   rw[aDf (aCI (c:=aD [32] [116,97,107,101,115]) rfl)]
   exact Rdx.num z hq _ (NS.nil _)
 rw[aDf (htak _)]
 show(aX z [[59]] >>= _) _=_
 rw[aDf (lC z _ [59] _)]
 rfl
theorem aAl (z:Nat):∀(l:List Trm)(f:Nat)(acc:List Trm)(ps:List Pc)(r:List Tok),l.length<f→aG (l.map bG)=some ps→termsA z f acc (aZ ps++(aZ [aL [10] [125]]++r))=.ok (acc++l,aZ [aL [10] [125]]++r)
 | [],f+1,acc,ps,r,_,h=>by
  obtain rfl:=dO h;unfold termsA;have hs:bD [[125]] (aZ []++(aZ [aL [10] [125]]++r))=true:=jK _ _ _
  simp only[hs,if_true,aEb]
  rfl
 | x::l,f+1,acc,ps,r,hf,h=>by
  obtain⟨a,b,ha,hb,rfl⟩:=aA h
  have hns:bD [[125]] (aZ (a++b)++(aZ [aL [10] [125]]++r))=false:=by
   obtain⟨p1,q1,e1,_,rfl⟩:=aA ha
   obtain⟨hok,rfl⟩:=fT e1
   show bD [[125]] ((aD _ x.attr).t::_)=false
   rw[jK]
   exact vS hok (by decide) _
  unfold termsA
  simp only[hns,aEd,if_false]
  rw[bJ,aD7,aDf (Rdx.term z ha _ (NS.nil _))]
  rw[aAl z l f (acc++[x]) b r (by simp at hf;omega) hb]
  simp
 | _,0,_,_,_,h,_=>by omega
theorem Rdx.fixed (z:Nat) {f:Nmd}{ps:List Pc}(h:uM f=some ps):Rdx (lY z) (aZ ps) f []:=by
 obtain⟨p1,q1,e1,h1,rfl⟩:=aA h
 obtain⟨p2,q2,e2,h2,rfl⟩:=aA h1
 obtain⟨p3,q3,e3,h3,rfl⟩:=aA h2
 obtain rfl:=dO h3;cases e2;intro r _
 simp only[aEb,bJ,aD7]
 unfold lY
 rw[aDf (Rdx.name z e1 _ (NS.nil _))]
 rw[aDf (lC z _ [61] _)]
 rw[aDf (Rdx.value z e3 _ (NS.nil _))]
 rfl
theorem Rdx.var (z:Nat) {v:Vr}{ps:List Pc}(h:rJ v=some ps):Rdx (zM z) (aZ ps) v []:=by
 obtain⟨p1,q1,e1,h1,rfl⟩:=aA h
 obtain⟨p2,q2,e2,h2,rfl⟩:=aA h1
 obtain rfl:=dO h2;intro r _
 simp only[aEb,bJ,aD7]
 unfold zM
 rw[aDf (Rdx.name z e1 _ (NS.nil _))]
 rw[aDf (Rdx.name z e2 _ (NS.nil _))]
 rfl
theorem yF (z:Nat)(x:It) {t:aBs}{ns:List aBs}{p2 p4:List Pc}(e2:bB [32] t=some p2)(e4:dG bB [] ns=some p4)(r:List Tok) :
  iR z x (aZ [aD [32] [111,110]]++(aZ p2++(aZ [aL [] [40]]++(aZ p4++(aZ [aL [] [41]]++r)))))=.ok ({ x with table:=t,names:=ns },r):=by
 obtain⟨y,ys,rfl,e4⟩:=oS e4
 unfold iR
 rw[aDf (jE z _ [111,110] _)]
 rw[aDf (Rdx.name z e2 _ (NS.nil _))]
 rw[aDf (lC z _ [40] _)]
 rw[aDf (Rdx.names z e4 _ (NS.tok (c:=aL [] [41]) (by decide)))]
 rw[aDf (lC z _ [41] _)]
 rfl
def dE (x:It):It:={ x with off:=0,expr:=eY x.expr }
theorem hH {x:Ex}(h:gR x=true):eY x=ex0:=by
 obtain⟨k,tb,ks,cs,ns,a,as_,g,o⟩:=x
 have h:=of_decide_eq_true h
 obtain⟨rfl,rfl,h1,h2,rfl,rfl,rfl,rfl⟩:=h
 obtain rfl:=aEl.1 h1;obtain rfl:=aEl.1 h2
 rfl
abbrev bare0 (x:It):It:={ tZ with kind:=x.kind,name:=x.name,off:=0 }
def xU (k:Int):Pc:=if k=4 then aL [10] [125] else aL [] [59]
theorem part_read (z:Nat)(x:It)(ps:List Pc)(h1:1≤x.kind)(h10:x.kind≤10)(hb:fN x=true)(hz:x.kind=10∨gR x.expr=true)(hl:x.kind=10→bZ x.expr≤12)(h:dV x=some ps)(r:List Tok) :
  jB z x.kind (bare0 x) (aZ ps++(aZ [xU x.kind]++r))=.ok (dE x,aZ [xU x.kind]++r):=by
 have hb:=of_decide_eq_true hb
 obtain⟨kind,name,off,table,attr,cols,names,by_,n,m,terms,other,oattr,fixed,vars,conds,expr⟩:=x
 unfold dV at h;simp only at h h1 h10 hb hz hl
 rcases(show kind=1∨kind=2∨kind=3∨kind=4∨kind=5∨kind=6∨kind=7∨kind=8∨kind=9∨kind=10 by omega) with rfl|rfl|rfl|rfl|rfl|rfl|rfl|rfl|rfl|rfl
 ·simp at hb
  obtain⟨rfl,rfl,rfl,rfl,rfl,rfl,rfl,rfl,rfl,rfl,rfl⟩:=hb
  have hz:=hH (hz.resolve_left (by decide));have h:aG [some [aL [] [40]],dG mV [] cols,some [aL [] [41],aD [32] [107,101,121]],dG bB [32] names]=some ps:=h
  obtain⟨p1,q1,e1,k1,rfl⟩:=aA h
  obtain⟨p2,q2,e2,k2,rfl⟩:=aA k1
  obtain⟨p3,q3,e3,k3,rfl⟩:=aA k2
  obtain⟨p4,q4,e4,k4,rfl⟩:=aA k3
  obtain rfl:=dO k4;cases e1;cases e3
  obtain⟨c,cs,rfl,e2⟩:=oS e2
  obtain⟨y,ys,rfl,e4⟩:=oS e4
  obtain⟨u,v,eu,ev',rfl⟩:=qK e2
  simp only[aEb,bJ,aD7]
  have hcol:=Rdx.listE (sep:=[44]) (l:=[[61]]) (c:=aL [] [44]) (q:=mV [32]) rfl (by decide) (Rdx.column z eu) (fun y qs hy=>Rdx.column z hy) ev'
  show(aX z [[40]] >>= _) _=_
  rw[aDf (lC z _ [40] _)]
  rw[← aD7 (aZ u),aDf (hcol _ (NS.tok (by decide)))]
  rw[aDf (need_sw z _ _ _ _ _)]
  rw[aDf (Rdx.names z e4 _ (NS.tok (by decide)))]
  unfold dE
  simp only[hz]
  rfl
 ·simp at hb
  obtain⟨rfl,rfl,rfl,rfl,rfl,rfl,rfl,rfl,rfl,rfl,rfl,rfl⟩:=hb
  have hz:=hH (hz.resolve_left (by decide));have h:aG [some [aD [32] [116,114,117,115,116]],iD [32] n]=some ps:=h
  obtain⟨p1,q1,e1,k1,rfl⟩:=aA h
  obtain⟨p2,q2,e2,k2,rfl⟩:=aA k1
  obtain rfl:=dO k2;cases e1
  simp only[aEb,bJ,aD7]
  show(aX z [[116,114,117,115,116]] >>= _) _=_
  rw[aDf (jE z _ [116,114,117,115,116] _)]
  rw[aDf (Rdx.num z e2 _ (NS.nil _))]
  unfold dE
  simp only[hz]
  rfl
 ·simp at hb
  obtain⟨rfl,rfl,hn,hm,rfl,rfl,rfl,rfl,rfl,rfl⟩:=hb
  have hz:=hH (hz.resolve_left (by decide));have h:aG [some [aD [32] [111,110]],eB table attr,some [aD [32] [98,121]],fZ by_ [[101,120,97,99,116],[116,111,107,101,110],[112,114,101,102,105,120],[115,107,101,116,99,104]],(if 3≤by_ then iD [32] n else some []),(if by_=4 then iD [32] m else some [])]=some ps:=h
  obtain⟨p1,q1,e1,k1,rfl⟩:=aA h
  obtain⟨p2,q2,e2,k2,rfl⟩:=aA k1
  obtain⟨p3,q3,e3,k3,rfl⟩:=aA k2
  obtain⟨p4,q4,e4,k4,rfl⟩:=aA k3
  obtain⟨p5,q5,e5,k5,rfl⟩:=aA k4
  obtain⟨p6,q6,e6,k6,rfl⟩:=aA k5
  obtain rfl:=dO k6;cases e1;cases e3
  obtain⟨j,hj,w,hw,_⟩:=uC e4
  have hj4:j<4:=by have:=(aD5.1 hw).1;simpa using this
  simp only[aEb,bJ,aD7]
  show(aX z [[111,110]] >>= _) _=_
  rw[aDf (jE z _ [111,110] _)]
  rw[aDf (Rdx.place z e2 _ (NS.nil _))]
  show(aX z [[98,121]] >>= _) _=_
  rw[aDf (jE z _ [98,121] _)]
  rw[aDf (Rdx.word z (by decide) e4 _ (NS.nil _))]
  by_cases h3:by_=3
  ·subst h3
   rw[if_pos (by decide)]at e5
   rw[if_neg (by decide)]at e6
   cases e6
   rw[if_pos rfl]
   rw[aDf (Rdx.num z e5 _ (NS.nil _))]
   obtain rfl:m=0:=by rcases hm with hm|hm;exact absurd hm (by decide);exact hm
   unfold dE
   simp only[hz]
   rfl
  ·by_cases h4:by_=4
   ·subst h4
    rw[if_pos (by decide)]at e5
    rw[if_pos rfl]at e6
    rw[if_neg (by decide),if_pos rfl]
    rw[aDf (Rdx.num z e5 _ (NS.nil _))]
    rw[aDf (Rdx.num z e6 _ (NS.nil _))]
    unfold dE
    simp only[hz]
    rfl
   ·rw[if_neg (by omega)]at e5
    rw[if_neg h4]at e6
    cases e5
    cases e6
    rw[if_neg h3,if_neg h4]
    obtain rfl:m=0:=by rcases hm with hm|hm;exact absurd hm h4;exact hm
    obtain rfl:n=0:=by rcases hn with hn|hn;omega;exact hn
    unfold dE
    simp only[hz]
    rfl
 ·simp at hb
  obtain⟨rfl,rfl,rfl,rfl,rfl,rfl,rfl,rfl,rfl,rfl⟩:=hb
  have hz:=hH (hz.resolve_left (by decide));have h:aG (some [aD [32] [111,110]]::bB [32] table::some [aD [32] [97,116]]::iD [32] n::some [aL [32] [123]]::terms.map bG)=some ps:=h
  obtain⟨p1,q1,e1,k1,rfl⟩:=aA h
  obtain⟨p2,q2,e2,k2,rfl⟩:=aA k1
  obtain⟨p3,q3,e3,k3,rfl⟩:=aA k2
  obtain⟨p4,q4,e4,k4,rfl⟩:=aA k3
  obtain⟨p5,q5,e5,k5,rfl⟩:=aA k4
  cases e1
  cases e3
  cases e5
  simp only[aEb,bJ,aD7]
  show(aX z [[111,110]] >>= _) _=_
  rw[aDf (jE z _ [111,110] _)]
  rw[aDf (Rdx.name z e2 _ (NS.nil _))]
  show(aX z [[97,116]] >>= _) _=_
  rw[aDf (jE z _ [97,116] _)]
  rw[aDf (Rdx.num z e4 _ (NS.nil _))]
  show(aX z [[123]] >>= _) _=_
  rw[aDf (lC z _ [123] _)]
  have hlen:terms.length≤(aZ q5).length:=by
   clear hz h;have key:∀(l:List Trm) (ps:List Pc),aG (l.map bG)=some ps→l.length≤(aZ ps).length:=by
    intro l
    induction l with
    | nil=>intro ps _;exact Nat.zero_le _
    | cons x l ih =>
     intro ps h
     obtain⟨a,b,ha,hb,rfl⟩:=aA h
     obtain⟨u,v,eu,_,rfl⟩:=aA ha
     obtain⟨_,rfl⟩:=fT eu
     have:=ih b hb
     rw[bJ]
     simp only[aD9,aEa,aZ,List.map_append,aEv,List.length_map]at this ⊢
     omega
   exact key terms q5 k5
  have ht:=aAl z terms ((aZ q5++(aZ [aL [10] [125]]++r)).length+1) [] q5 r (by simp only[aD9];omega) k5
  rw[show xU 4=aL [10] [125] from rfl]
  rw[aDf (m:=fun ts=>termsA z (ts.length+1) [] ts) ht]
  unfold dE
  simp only[hz]
  rfl
 ·simp at hb
  obtain⟨rfl,rfl,rfl,rfl,rfl,rfl,rfl,rfl,rfl,rfl,rfl⟩:=hb
  have hz:=hH (hz.resolve_left (by decide));have h:aG [eB table attr,some [aD [32] [98,121]],fZ by_ [[108,97,116,101,115,116],[109,111,115,116],[116,114,117,115,116,101,100],[108,111,110,103,101,115,116],[108,101,97,115,116],[103,114,101,97,116,101,115,116]]]=some ps:=h
  obtain⟨p1,q1,e1,k1,rfl⟩:=aA h
  obtain⟨p2,q2,e2,k2,rfl⟩:=aA k1
  obtain⟨p3,q3,e3,k3,rfl⟩:=aA k2
  obtain rfl:=dO k3;cases e2
  simp only[aEb,bJ,aD7]
  show(kF z >>= _) _=_
  rw[aDf (Rdx.place z e1 _ (NS.nil _))]
  show(aX z [[98,121]] >>= _) _=_
  rw[aDf (jE z _ [98,121] _)]
  rw[aDf (Rdx.word z (by decide) e3 _ (NS.nil _))]
  unfold dE
  simp only[hz]
  rfl
 ·simp at hb
  obtain⟨rfl,rfl,rfl,rfl,rfl,rfl,rfl,rfl,rfl,rfl,rfl⟩:=hb
  have hz:=hH (hz.resolve_left (by decide));have h:aG [some [aD [32] [111,110]],bB [32] table,some [aL [] [40]],dG bB [] names,some [aL [] [41]]]=some ps:=h
  obtain⟨p1,q1,e1,k1,rfl⟩:=aA h
  obtain⟨p2,q2,e2,k2,rfl⟩:=aA k1
  obtain⟨p3,q3,e3,k3,rfl⟩:=aA k2
  obtain⟨p4,q4,e4,k4,rfl⟩:=aA k3
  obtain⟨p5,q5,e5,k5,rfl⟩:=aA k4
  obtain rfl:=dO k5;cases e1;cases e3;cases e5
  simp only[aEb,bJ,aD7]
  refine(yF z _ e2 e4 _).trans ?_
  unfold dE
  simp only[hz]
  rfl
 ·simp at hb
  obtain⟨rfl,rfl,rfl,rfl,rfl,rfl,rfl,rfl,rfl⟩:=hb
  have hz:=hH (hz.resolve_left (by decide));have h:aG [some [aD [32] [111,110]],bB [32] table,some [aL [] [40]],dG bB [] names,some [aL [] [41],aD [32] [116,111]],bB [32] attr,uL fixed]=some ps:=h
  obtain⟨p1,q1,e1,k1,rfl⟩:=aA h
  obtain⟨p2,q2,e2,k2,rfl⟩:=aA k1
  obtain⟨p3,q3,e3,k3,rfl⟩:=aA k2
  obtain⟨p4,q4,e4,k4,rfl⟩:=aA k3
  obtain⟨p5,q5,e5,k5,rfl⟩:=aA k4
  obtain⟨p6,q6,e6,k6,rfl⟩:=aA k5
  obtain⟨p7,q7,e7,k7,rfl⟩:=aA k6
  obtain rfl:=dO k7;cases e1;cases e3;cases e5
  simp only[aEb,bJ,aD7]
  show(iR z _ >>= _) (aZ [aD [32] [111,110]]++(aZ p2++(aZ [aL [] [40]]++(aZ p4++(aZ [aL [] [41]]++(aZ [aD [32] [116,111]]++(aZ p6++(aZ p7++(aZ [xU 7]++r)))))))))=_
  rw[aDf (yF z _ e2 e4 _)]
  show(aX z [[116,111]] >>= _) _=_
  rw[aDf (jE z _ [116,111] _)]
  rw[aDf (Rdx.name z e6 _ (NS.nil _))]
  cases fixed with
  | nil =>
   cases e7
   show(cG [119,104,101,114,101] >>= _) (aZ [xU 7]++r)=_
   rw[aDf (take_f (by decide))]
   unfold dE
   simp only[hz]
   rfl
  | cons f fs =>
   obtain⟨u1,v1,f1,g1,rfl⟩:=aA e7
   obtain⟨u2,v2,f2,g2,rfl⟩:=aA g1
   cases f1
   simp only[bJ,aD7]
   have hfx:=Rdx.listE (sep:=[44]) (l:=[]) (c:=aL [] [44]) (q:=uM) rfl (by simp) (Rdx.fixed z f2) (fun y qs hy=>Rdx.fixed z hy) g2
   rw[aDf (aCI (c:=aD [32] [119,104,101,114,101]) rfl)]
   rw[show aZ []++(aZ u2++(aZ v2++(aZ [xU 7]++r)))=aZ u2++(aZ v2++(aZ [xU 7]++r)) from rfl]
   simp only[if_true]
   rw[← aD7,aDf (hfx _ (NS.tok (by decide)))]
   unfold dE
   simp only[hz]
   rfl
 ·simp at hb
  obtain⟨rfl,rfl,rfl,rfl,rfl,rfl,rfl,rfl,rfl⟩:=hb
  have hz:=hH (hz.resolve_left (by decide));have h:aG [eB table attr,some [aD [32] [105,110]],eB other oattr]=some ps:=h
  obtain⟨p1,q1,e1,k1,rfl⟩:=aA h
  obtain⟨p2,q2,e2,k2,rfl⟩:=aA k1
  obtain⟨p3,q3,e3,k3,rfl⟩:=aA k2
  obtain rfl:=dO k3;cases e2
  simp only[aEb,bJ,aD7]
  show(kF z >>= _) _=_
  rw[aDf (Rdx.place z e1 _ (NS.nil _))]
  show(aX z [[105,110]] >>= _) _=_
  rw[aDf (jE z _ [105,110] _)]
  rw[aDf (Rdx.place z e3 _ (NS.nil _))]
  unfold dE
  simp only[hz]
  rfl
 ·simp at hb
  obtain⟨rfl,rfl,rfl,rfl,rfl,rfl,rfl,rfl,rfl,rfl,rfl⟩:=hb
  have hz:=hH (hz.resolve_left (by decide));have h:aG [dG (fun _=>rJ) [] vars,lE conds]=some ps:=h
  obtain⟨p1,q1,e1,k1,rfl⟩:=aA h
  obtain⟨p2,q2,e2,k2,rfl⟩:=aA k1
  obtain rfl:=dO k2
  obtain⟨v,vs,rfl,e1'⟩:=oS e1
  obtain⟨u,w,eu,ew,rfl⟩:=qK e1'
  simp only[aEb,bJ,aD7]
  have hvr:=Rdx.listE (sep:=[44]) (l:=[]) (c:=aL [] [44]) (q:=rJ) rfl (by simp) (Rdx.var z eu) (fun y qs hy=>Rdx.var z hy) ew;have hns:NS [[44]] (aZ p2++(aZ [xU 9]++r)):=by
   cases conds with
   | nil=>cases e2
   | cons c cs =>
    obtain⟨u1,v1,f1,g1,rfl⟩:=aA e2
    cases f1
    exact NS.cons (t:=⟨1,[119,104,101,114,101],0,0⟩) (by decide)
  show(gX [44] (zM z) >>= _) _=_
  rw[← aD7 (aZ u),aDf (hvr _ hns)]
  rw[aDf (Rdx.conds z e2 _ (NS.tok (by decide)))]
  unfold dE
  simp only[hz]
  rfl
 ·simp at hb
  obtain⟨rfl,rfl,rfl,rfl,rfl,rfl,rfl,rfl,rfl,rfl,rfl,rfl,rfl⟩:=hb
  have h:aG [some [aL [32] [61]],gM [32] expr]=some ps:=h
  obtain⟨p1,q1,e1,k1,rfl⟩:=aA h
  obtain⟨p2,q2,e2,k2,rfl⟩:=aA k1
  obtain rfl:=dO k2;cases e1
  simp only[aEb,bJ,aD7]
  show(aX z [[61]] >>= _) _=_
  rw[aDf (lC z _ [61] _)]
  rw[aDf (zZ z 12 expr [32] p2 e2 (hl rfl) _ (NS.tok (by decide)))]
  rfl
theorem kind_word {k:Int}(h1:1≤k)(h10:k≤10):eF[(k - 1).toNat]?=some (eF.getD (k - 1).toNat []):=by
 rcases(show k=1∨k=2∨k=3∨k=4∨k=5∨k=6∨k=7∨k=8∨k=9∨k=10 by omega) with rfl|rfl|rfl|rfl|rfl|rfl|rfl|rfl|rfl|rfl<;>rfl
theorem item_read (z:Nat) {x:It}{ps:List Pc}(h:gW x=some ps)(hl:x.kind=10→bZ x.expr≤12):Rdx (hG z) (aZ ps) (dE x) []:=by
 unfold gW at h;split at h
 ·rename_i hc
  obtain⟨h1,h10,hb,hz⟩:=hc
  obtain⟨p1,q1,e1,k1,rfl⟩:=aA h
  obtain⟨p2,q2,e2,k2,rfl⟩:=aA k1
  obtain⟨p3,q3,e3,k3,rfl⟩:=aA k2
  obtain⟨p4,q4,e4,k4,rfl⟩:=aA k3
  obtain rfl:=dO k4;cases e1;cases e4;intro r _
  simp only[aEb,bJ,aD7]
  have he:[if x.kind=4 then aL [10] [125] else aL [] [59]]=[xU x.kind]:=rfl
  rw[he]
  show(eO z eF 1 >>= _) (⟨1,eF.getD (x.kind - 1).toNat [],0,0⟩::(aZ p2++(aZ p3++(aZ [xU x.kind]++r))))=_
  have hw:=tD z eF 1 (x.kind - 1).toNat ⟨1,eF.getD (x.kind - 1).toNat [],0,0⟩ (aZ p2++(aZ p3++(aZ [xU x.kind]++r))) (by decide) (kind_word h1 h10) (.inl rfl)
  rw[show(1:Int)+((x.kind - 1).toNat:Nat)=x.kind by omega]at hw
  rw[aDf hw]
  have hn:∀ R,ifP (x.kind != 5) (cI z) [] (aZ p2++R)=.ok (x.name,R):=by
   intro R;by_cases h5:x.kind=5
   ·rw[if_pos h5]at e2
    cases e2
    rw[nB (by simp[h5])]
    have:x.name=[]:=(of_decide_eq_true hb).1 h5
    rw[this]
    rfl
   ·rw[if_neg h5]at e2
    rw[kB (by simpa using h5)]
    exact Rdx.name z e2 _ (NS.nil _)
  rw[aDf (hn _)]
  have hp:=part_read z x p3 h1 h10 hb hz hl e3 r
  refine(aDf hp).trans ?_
  by_cases h4:x.kind=4
  ·simp only[if_pos h4]
   rw[show xU x.kind=aL [10] [125] from if_pos h4]
   exact(aDf (lC z _ [125] r)).trans rfl
  ·simp only[if_neg h4]
   rw[show xU x.kind=aL [] [59] from if_neg h4]
   exact(aDf (lC z _ [59] r)).trans rfl
 ·cases h
def nH (t:Tok):Prop:=eA (wr t)=.tok t.kind t.text t.num (wr t).length
theorem spanA {p:UInt8→Bool}:∀(l:aBs),(∀ c∈l,p c=true)→bO p l=l.length
 | [],_=>rfl
 | c::l,h=>by
  have ih:=spanA l (fun d hd=>h d (by simp[hd]));unfold bO at ih ⊢
  rw[aEq,h c (by simp)]
  simpa using ih
theorem jP {b s:aBs}(h:dJ s=true):nH (aD b s).t:=by
 cases s with
 | nil=>cases h
 | cons c r =>
  simp only[dJ,aD8,aEh]at h
  obtain⟨⟨h1,h2⟩,h3⟩:=h
  have h1:=of_decide_eq_true h1;have hw:wr (aD b (c::r)).t=c::r:=rfl;unfold nH
  rw[hw,iC h2]
  have hs:bO cF (c::r)=(c::r).length:=spanA _ fun d hd=>by
   rcases aEg.1 hd with rfl|hd
   ·simp[cF,h2]
   ·exact h3 d hd
  rw[hs,if_neg (by omega),List.take_length]
  rfl
theorem aAJ:∀(k u:Nat),u<10 ^ (k+1)→Lib.nDigits u≤k+1
 | 0,u,h=>by
  rw[Lib.nDigits_small (by simpa using h)]
  omega
 | k+1,u,h=>by
  by_cases hu:u<10
  ·rw[Lib.nDigits_small hu]
   omega
  ·rw[Lib.nDigits_big hu]
   have:=aAJ k (u / 10) (by rw[Nat.pow_succ]at h;omega)
   omega
theorem oF {b:aBs}{n:Int}(h:jC n=true):nH (bU b n).t:=by
 obtain⟨h0,h1⟩:=of_decide_eq_true h
 obtain⟨k,rfl⟩:=Int.eq_ofNat_of_zero_le h0
 have hk:k≤9999999999:=by omega
 have e:Lib.itoa (k:Int)=Lib.decDigits k:=by
  unfold Lib.itoa
  rw[if_neg (by omega)]
  simp
 have hw:wr (bU b (k:Int)).t=Lib.decDigits k:=e;unfold nH
 rw[hw]
 show _=Rd.tok 2 (Lib.itoa (k:Int)) (k:Int) _
 rw[e]
 have hd:∀ c∈Lib.decDigits k,cA c=true:=fun c hc=>decide_eq_true (dec_digits k c hc);have hlen:(Lib.decDigits k).length≤10:=by
  rw[Lib.decDigits_length]
  exact aAJ 9 k (by omega)
 have hs:=spanA _ hd;have hs2:=spanA _ (fun c hc=>sU (hd c hc));have hu:=undec_dec k;cases hl:Lib.decDigits k with
 | nil=>exact absurd hl (dec_ne_nil k)
 | cons c r =>
  rw[hl]at hd hs hs2 hu hlen
  have hc:=hd c (by simp);have hlet:cV c=false:=by
   cases hh:cV c with
   | false=>rfl
   | true=>have:=(letter_not hh).1;rw[hc]at this;cases this
  rw[kR hlet hc,hs,hs2,if_neg (by omega),List.take_length,hu]
theorem good_txt {b s:aBs}(h:s.length≤200):nH (txtT b s).t:=by
 have hw:wr (txtT b s).t=34::(fM s++34::[]):=rfl;unfold nH
 rw[hw,readR_escS s [] h]
 simp
 exact⟨rfl,rfl,rfl⟩
def yQ (t:Tok):Bool:=decide (t.kind=4)&&(decide (t.text=[40])||decide (t.text=[46])||decide (t.text=[47])||decide (t.text=[64])||decide (t.text=[45]))
def nU:aBs→Bool
 | []=>true
 | c::_=>!cF c&&decide (c≠61)
def okB (b:aBs):Bool:=decide (b=[]∨b=[32]∨b=[10]∨b=[10,32,32])
def Flow:Bool→List Pc→Prop
 | _,[]=>True
 | o,p::r=>nH p.t∧okB p.b=true∧(o=true∨nU (gE p)=true)∧Flow (yQ p.t) r
theorem Flow.mono {o:Bool}{l:List Pc}(h:Flow false l):Flow o l:=by
 cases l with
 | nil=>trivial
 | cons p r=>exact⟨h.1,h.2.1,h.2.2.1.elim (fun e=>by cases e) .inr,h.2.2.2⟩
theorem Flow.app {b:List Pc}(hb:Flow false b):∀ {o:Bool}{a:List Pc},Flow o a→Flow o (a++b)
 | _,[],_=>hb.mono
 | _,p::r,h=>⟨h.1,h.2.1,h.2.2.1,Flow.app hb h.2.2.2⟩
theorem readR_start {l w:aBs}{k n:Int}{x:aBs}(h:eA l=.tok k x n l.length)(hw:nU w=true):eA (l++w)=.tok k x n l.length:=by
 refine readR_cong h (by rw[List.take_left,List.take_length]) fun c hc=>?_
 rw[List.getElem?_append_right (aEf _),Nat.sub_self]at hc
 cases w with
 | nil=>cases hc
 | cons d r =>
  cases hc
  simp only[nU,aD8,aEu]at hw
  exact .inr ⟨hw.1,of_decide_eq_true hw.2⟩
theorem open_cases {t:Tok}(h:yQ t=true):t.kind=4∧(t.text=[40]∨t.text=[46]∨t.text=[47]∨t.text=[64]∨t.text=[45]):=by
 simp only[yQ,aD8,aES,decide_eq_true_eq]at h
 exact⟨h.1,by rcases h.2 with (((h|h)|h)|h)|h<;>simp[h]⟩
theorem readR_open {t:Tok}(hg:nH t)(h:yQ t=true)(w:aBs):eA (wr t++w)=.tok t.kind t.text t.num (wr t).length:=by
 obtain⟨h4,h⟩:=open_cases h
 obtain⟨k,x,n,i⟩:=t
 have h4:k=4:=h4;subst h4;have hw:wr ⟨4,x,n,i⟩=x:=rfl;unfold nH at hg
 rw[hw]at hg ⊢
 have hn:∀ c:UInt8,x=[c]→cV c=false→cA c=false→c.toNat≠34→c≠33→c≠60→c∈zN→eA (x++w)=.tok 4 x n x.length:=by
  rintro c rfl l1 l2 l3 l4 l5 l6;have s1:∀ r,tQ (c::r)=1:=fun r=>by rw[wM,if_neg (by rintro⟨_,e|e⟩<;>contradiction),if_pos l6]
  rw[gJ l1 l2 l3,s1,if_neg (by decide)]at hg
  have hn:(0:Int)=n:=by injection hg
  subst hn;show eA (c::w)=_
  rw[gJ l1 l2 l3,s1,if_neg (by decide)]
  rfl
 rcases h with h|h|h|h|h<;>exact hn _ h (by decide) (by decide) (by decide) (by decide) (by decide) (by decide)
theorem fY.nl {l:aBs}{i:Nat}{r:Except (Int×Nat) (List Tok)}(h:fY l (i+1) r):fY (10::l) i r:=by
 unfold fY at h ⊢
 rw[gapF_nl,Nat.add_comm 1,List.drop_succ_cons]
 rwa [show i+1+cL false l=i+(cL false l+1) by omega]at h
theorem fY.before {b l:aBs}{i:Nat}{r:Except (Int×Nat) (List Tok)}(hb:okB b=true)(h:fY l (i+b.length) r):fY (b++l) i r:=by
 rcases of_decide_eq_true hb with rfl|rfl|rfl|rfl
 ·exact h
 ·exact fY.blank h
 ·exact fY.nl h
 ·exact fY.nl (fY.blank (fY.blank h))
def aAG:List Pc→Nat→List Tok
 | [],_=>[]
 | p::r,i=>⟨p.t.kind,p.t.text,p.t.num,i+p.b.length⟩::aAG r (i+(gE p).length)
theorem flow_lex {w:aBs}(hw:nU w=true) {us:List Tok}:∀ {o:Bool}(ps:List Pc)(i:Nat),Flow o ps→fY w (i+(bK ps).length) (.ok us)→fY (bK ps++w) i (.ok (aAG ps i++us))
 | _,[],i,_,h=>h
 | _,p::r,i,⟨h1,h2,_,h4⟩,h=>by
  have e:bK (p::r)=p.b++(wr p.t++bK r):=by simp[bK,gE]
  have ih:=flow_lex hw r (i+(gE p).length) h4 (by simpa[bK,Nat.add_assoc] using h)
  rw[e,aD7,aD7]
  refine fY.before h2 ?_;have hR:eA (wr p.t++(bK r++w))=.tok p.t.kind p.t.text p.t.num (wr p.t).length:=by
   cases ho:yQ p.t with
   | true=>exact readR_open h1 ho _
   | false =>
    refine readR_start h1 ?_;cases r with
    | nil=>exact hw
    | cons q r =>
     rw[ho]at h4
     have hs:=h4.2.2.1.resolve_left (by simp);have e:bK (q::r)=gE q++bK r:=by simp[bK]
     rw[e,aD7]
     cases hq:gE q with
     | nil =>
      have h0:=(kQ h4.1).1;have h0':(wr q.t).length=0:=by
       have:=congrArg List.length hq
       simp[gE]at this
       simp[this.2]
      omega
     | cons c l =>
      rw[hq]at hs
      exact hs
  have:=fY.first hR (i:=i+p.b.length) (r:=.ok (aAG r (i+(gE p).length)++us)) (by
   rw[List.drop_left]
   rw[show i+p.b.length+(wr p.t).length=i+(gE p).length by simp[gE];omega]
   exact ih)
  exact this
def aB6:List (List Pc)→Nat→List Tok
 | [],_=>[]
 | l::r,i=>aAG l i++aB6 r (i+(gY l).length)
theorem xJ:∀(ls:List (List Pc))(i:Nat),(∀ l∈ls,Flow true l)→fY (lL ls) i (.ok (aB6 ls i))
 | [],i,_=>fY.all rfl i
 | l::r,i,h=>by
  have ih:=xJ r (i+(gY l).length) (fun x hx=>h x (by simp[hx]));have e:lL (l::r)=bK l++(10::lL r):=by simp[lL,gY]
  rw[e]
  refine flow_lex rfl l i (h l (by simp)) (fY.nl ?_)
  rw[show i+(bK l).length+1=i+(gY l).length by simp[gY];omega]
  exact ih
theorem aB4:∀(l:List Pc)(i:Nat),(aAG l i).length=l.length
 | [],_=>rfl
 | p::r,i=>by simp[aAG,aB4 r]
theorem aB5:∀(ls:List (List Pc))(i:Nat),(aB6 ls i).length=oJ ls
 | [],_=>rfl
 | l::r,i=>by simp[aB6,aB4,aB5 r,oJ]
theorem offsP_te:∀(l:List Pc)(i:Nat),TE (fun _ _=>True) (aZ l) (aAG l i)
 | [],_=>.nil
 | _::r,i=>.cons ⟨rfl,rfl,rfl,trivial⟩ (offsP_te r _)
theorem cB {n:Int}(h:jC n=true):(Lib.itoa n).length≤10:=by
 obtain⟨h0,h1⟩:=of_decide_eq_true h
 obtain⟨k,rfl⟩:=Int.eq_ofNat_of_zero_le h0
 have e:Lib.itoa (k:Int)=Lib.decDigits k:=by
  unfold Lib.itoa
  rw[if_neg (by omega)]
  simp
 rw[e,Lib.decDigits_length]
 exact aAJ 9 k (by omega)
section
variable {g : FuncId} {args s : aVs} {B : Base} {L : List Item} {b i : Nat} {p v : Value} {k : Int} {bs : aBs} {h : Heap} {K : KK} {Q : QQ}
theorem aH {c:Nat}(ls:List aBs)(m M:Nat)(js:List Nat)(o:Own B L h)(e:pick L [0,1]=[box b [p,v,.int .i64 k] 58,row v 5 1 bs.length (bytes bs)])
  (ei:pick L [i]=[box c (strs ls) 9]) (hd:dst ([0,1,i]++js)=true) (hp:cW b p) (hm:ls.length=m) (hl:bs.length≤100000000000000) (hk:0≤k∧k≤100000000000000) (hs:∀ s∈ls,s.length≤M) (hM:M≤1000) (hm2:m≤100)
  (hret:∀ p' v' bs' k' h',cW b p'→bs'=bs++ls.flatten→k'=k+m→bs'.length≤bs.length+M*m→Own B (box b [p',v',.int .i64 k'] 58::row v' 5 1 bs'.length (bytes bs')::pick L js) h'→K (.tuple #[]) false h') :
  CallVC Tryz.prog 31 [.pointer (some ⟨b,0,none⟩),.slice (some ⟨c,0,none⟩) m m] s h K Q:=by
 subst hm;have o1:=o.lend [0,1] (i::js) hd
 rw[e]at o1
 have ei2:pick L (i::js)=box c (strs ls) 9::pick L js:=by
  have:=mS L [i] js
  rw[ei]at this
  exact this
 rw[ei2]at o1
 have hK:tB ⟨B.h,(box c (strs ls) 9::pick L js)++B.T⟩ (.slice (some ⟨c,0,none⟩) ls.length ls.length) ls:=fun L h o=>by
  have hs:(box c (strs ls) 9).sat h:=OwnR.sat o _ (by simp)
  exact(xX (sz:=1) (by simp[strs]) (aEf _) h hs).to1
 have hfl:∀ l:List aBs,(∀ s∈l,s.length≤M)→l.flatten.length≤M*l.length:=by
  intro l
  induction l with
  | nil=>intro _;simp
  | cons x l ih =>
   intro h;have h1:=h x (by simp);have h2:=ih fun s hs=>h s (by simp[hs])
   simp only[List.flatten_cons,aD9,aEa,Nat.mul_add,Nat.mul_one]
   omega
 have hfl:=hfl ls hs;refine aDV (put_spec _ b p v k bs ls _ h hp hK o1 hl (fun s hs'=>aEm (hs s hs') hM) hm2 hk) ?_;rintro _ h' ⟨rfl,p',v',hp',o2⟩;exact hret p' v' (bs++ls.flatten) _ h' hp' rfl rfl (by rw[aD9];omega) (o2.back.sel (0::1::List.range' 3 (pick L js).length) (by
  have:∀ n k,2≤k→dst (0::1::List.range' k n)=true:=fun n k hk=>mF (n:=k) [0,1] rfl (by intro j hj;simp at hj;omega)
  exact this _ _ (by omega)) |> fun o=>by
   have e:pick ([box b [p',v',.int .i64 (k+ls.length)] 58,row v' 5 1 (bs++ls.flatten).length (bytes (bs++ls.flatten))]++box c (strs ls) 9::pick L js) (0::1::List.range' 3 (pick L js).length) =
     box b [p',v',.int .i64 (k+ls.length)] 58::row v' 5 1 (bs++ls.flatten).length (bytes (bs++ls.flatten))::pick L js:=by
    have:=sB [box b [p',v',.int .i64 (k+ls.length)] 58,row v' 5 1 (bs++ls.flatten).length (bytes (bs++ls.flatten)),box c (strs ls) 9] (pick L js) (pick L js).length (aEf _)
    simp only[aEa,aEr,Nat.sub_self,aEU,List.drop_zero]at this
    simp only[pick,lcA,lnA,lgS,lgZ]
    exact congrArg (fun z=>_::_::z) this
   rwa [e]at o)
theorem WEnds.callJ {c:Nat}{opt:Option (List Pc)}(js:List Nat)(o:Own B L h)(e:pick L [0,1]=[box b [p,v,.int .i64 k] 58,row v 5 1 bs.length (bytes bs)])(hd:dst ([0,1]++js)=true)
  (sp:∀ J,Own ⟨B.h,J++B.T⟩ [box b [p,v,.int .i64 k] 58,row v 5 1 bs.length (bytes bs)] h→Spec Tryz.prog g args h (WEnds ⟨B.h,J++B.T⟩ b bs k c opt))
  (hret:∀ ps p' v' bs' k' h',opt=some ps→cW b p'→bs'=bs++bK ps→k'=k+ps.length→bs'.length≤bs.length+c→k≤k'→k'≤k+c→Own B (box b [p',v',.int .i64 k'] 58::row v' 5 1 bs'.length (bytes bs')::pick L js) h'→K (.tuple #[]) false h')
  (hpan:∀ h',opt=none→Own B [] h'→Q (.panic xZ) s h'):CallVC Tryz.prog g args s h K Q:=by
 have o1:=o.lend [0,1] js hd
 rw[e]at o1
 exact WEnds.call (sp _ o1) (fun ps p' v' h' h1 h2 h3 h4 o2=>hret ps p' v' (bs++bK ps) _ h' h1 h2 rfl rfl (by rw[aD9];omega) (by omega) (by omega) o2.back) (fun h' h1 o2=>hpan h' h1 (o2.back.sel [] rfl))
theorem StillVC.aDj {ok:Bool}{r:Value}(o:Own B L h)(sp:Spec Tryz.prog g args h (MEnds h ok r))(hret:ok=true→∀ h',Own h [] h'→Own B L h'→K r false h')(hpan:ok=false→∀ h',Own B [] h'→Q (.panic xZ) s h'):CallVC Tryz.prog g args s h K Q :=
 aD4 sp (fun e h' o'=>hret e h' o' (o.ext' o')) (fun e h' o'=>hpan e h' ((o.ext' o').sel [] rfl))
theorem StillVC.aD3 {c:Nat}{opt:Option (List Pc)}{ps:List Pc}{bs':aBs}{k':Int}(hq:opt=some ps)(o:Own B [box b [p,v,.int .i64 k'] 58,row v 5 1 bs'.length (bytes bs')] h)(hp:cW b p)(hb:bs'=bs++bK ps)(hk:k'=k+ps.length)
  (hc:bs'.length≤bs.length+c) (hc2:k'≤k+c):WEnds B b bs k c opt (.returned (.tuple #[])) h:=by
 subst hb;subst hk
 rw[aD9]at hc
 exact⟨ps,p,v,hq,rfl,hp,by omega,by omega,o⟩
end
theorem aB {b s:aBs}(h:dJ s=true):bB b s=some [aD b s]:=by unfold bB;rw[if_pos h]
theorem cZ {b s:aBs}(h:dJ s=false):bB b s=none:=by unfold bB;rw[if_neg (by rw[h];decide)]
theorem aC {b:aBs}{n:Int}(h:jC n=true):iD b n=some [bU b n]:=by unfold iD;rw[if_pos h]
theorem dF {b:aBs}{n:Int}(h:jC n=false):iD b n=none:=by unfold iD;rw[if_neg (by rw[h];decide)]
theorem cU {s:aBs}(h:dJ s=true):s.length≤24:=((jF s).1 h).2.1
theorem uA (b off:Nat)(x:Int)(h:Heap)(hc:bC h ⟨b,off,none⟩=some (.int .u32 x)) :
  cK Tryz.prog 172 [.pointer (some ⟨b,off,none⟩)] h fun r h'=>r=.bool (!decide (x=0))∧h'=h:=by
 refine aDX Tryz.func172 rfl Tryz.ntmps172 (by kernel_rfl) ?_;refine rR (nC rfl ?_);refine rR (fA st210 rfl rfl rfl ?_);refine CallVC.ext (XSpec.load Tryz.func179 (by kernel_rfl) (by kernel_rfl) (by kernel_rfl) .u32 (by kernel_rfl) hc) ?_;rintro _ hx ⟨rfl,rfl⟩;refine aDZ rfl ?_
 exact⟨rfl,rfl⟩
theorem ilock_spec (B:Base)(b off:Nat)(cs:aVs)(t:TypeId)(h:Heap)(o0:Own B [box b cs t] h)(hc:cs[off]?=some (.int .i32 0)) :
  cK Tryz.prog 189 [.pointer (some ⟨b,off,none⟩)] h fun r h'=>r=.tuple #[]∧Own B [box b (cs.set off (.int .i32 1)) t] h':=by
 have hlt:off<cs.length:=(aD5.1 hc).1;have hc1:(cs.set off (.int .i32 1))[off]?=some (.int .i32 1):=by simp[hlt]
 refine aDX Tryz.func189 rfl Tryz.ntmps189 (by kernel_rfl) ?_;refine CallVC.ext (XSpec.mark0 Tryz.func200 (by kernel_rfl) (by kernel_rfl) (by kernel_rfl) .disable (by kernel_rfl)) ?_;rintro _ hx ⟨rfl,rfl⟩;refine rR (nC rfl ?_);refine rR (fA st212 rfl rfl rfl ?_);refine CallVC.ext (XSpec.cas Tryz.func201 (by kernel_rfl) (by kernel_rfl) (by kernel_rfl) .i32 (by kernel_rfl) o0 0 rfl hc) ?_;rintro _ h2 ⟨rfl,o2⟩;refine aDS ?_;refine aDS ?_;refine CallVC.ext (XSpec.mark0 Tryz.func202 (by kernel_rfl) (by kernel_rfl) (by kernel_rfl) .enable (by kernel_rfl)) ?_;rintro _ hx ⟨rfl,rfl⟩;refine rR (toUnsafe (e:=212) (by kernel_rfl) (by kernel_rfl) (by kernel_rfl) rfl ((o2.cellB 0 rfl _).trans hc1) ?_);refine CallVC.ext (XSpec.marked Tryz.func203 (by kernel_rfl) (by kernel_rfl) (by kernel_rfl) .acquire (by kernel_rfl) _) ?_;rintro _ hx ⟨rfl,rfl⟩;refine aD0 rfl ?_
 exact⟨rfl,o2⟩
theorem lock_spec (B:Base)(b off:Nat)(cs:aVs)(t:TypeId)(h:Heap)(o0:Own B [box b cs t] h)(hc:cs[off]?=some (.int .i32 0)) :
  cK Tryz.prog 180 [.pointer (some ⟨b,off,none⟩)] h fun r h'=>r=.tuple #[]∧Own B [box b (cs.set off (.int .i32 1)) t] h':=by
 refine aDX Tryz.func180 rfl Tryz.ntmps180 (by kernel_rfl) ?_;refine rR (nC rfl ?_);refine rR (fA st214 rfl rfl rfl ?_);refine aDV (ilock_spec B b off cs t _ o0 hc) ?_;rintro _ h2 ⟨rfl,o2⟩;refine aD0 rfl ?_
 exact⟨rfl,o2⟩
theorem aCZ (B:Base)(b off:Nat)(cs:aVs)(t:TypeId)(h:Heap)(o0:Own B [box b cs t] h)(hc:cs[off]?=some (.int .i32 1)) :
  cK Tryz.prog 190 [.pointer (some ⟨b,off,none⟩)] h fun r h'=>r=.tuple #[]∧Own B [box b (cs.set off (.int .i32 0)) t] h':=by
 have hcell:=(o0.cellB 0 rfl off).trans hc;refine aDX Tryz.func190 rfl Tryz.ntmps190 (by kernel_rfl) ?_;refine aDS ?_;refine rR (nC rfl ?_);refine rR (fA st212 rfl rfl rfl ?_);refine rR (aDe o0 0 rfl ty21 rfl ‹_› ?_);refine rR (toUnsafe (e:=212) (by kernel_rfl) (by kernel_rfl) (by kernel_rfl) rfl hcell ?_);refine CallVC.ext (XSpec.marked Tryz.func205 (by kernel_rfl) (by kernel_rfl) (by kernel_rfl) .releaseMerge (by kernel_rfl) _) ?_;rintro _ hx ⟨rfl,rfl⟩;refine CallVC.ext (XSpec.mark0 Tryz.func200 (by kernel_rfl) (by kernel_rfl) (by kernel_rfl) .disable (by kernel_rfl)) ?_;rintro _ hx ⟨rfl,rfl⟩;refine rR (nC rfl ?_);refine rR (fA st212 rfl rfl rfl ?_);refine CallVC.ext (XSpec.add Tryz.func206 (by kernel_rfl) (by kernel_rfl) (by kernel_rfl) .i32 (by kernel_rfl) o0 0 rfl hc) ?_;rintro _ h2 ⟨rfl,o2⟩;refine aDT ?_;refine CallVC.ext (XSpec.mark0 Tryz.func202 (by kernel_rfl) (by kernel_rfl) (by kernel_rfl) .enable (by kernel_rfl)) ?_;rintro _ hx ⟨rfl,rfl⟩;refine aD0 rfl ?_
 exact⟨rfl,o2⟩
theorem unlock_spec (B:Base)(b off:Nat)(cs:aVs)(t:TypeId)(h:Heap)(o0:Own B [box b cs t] h)(hc:cs[off]?=some (.int .i32 1)) :
  DSpec Tryz.prog 181 [.pointer (some ⟨b,off,none⟩)] h (Ret fun r h'=>r=.tuple #[]∧Own B [box b (cs.set off (.int .i32 0)) t] h'):=by
 refine DSpec.enter Tryz.func181 rfl (n:=6) (by kernel_rfl) (by kernel_rfl) ?_;refine rR (nC rfl ?_);refine rR (fA st214 rfl rfl rfl ?_);refine aDV (aCZ B b off cs t _ o0 hc) ?_;rintro _ h2 ⟨rfl,o2⟩;refine aD0 rfl ?_
 exact⟨rfl,o2⟩
theorem b32_spec (h:Heap):cK Tryz.prog 192 [.bool true] h fun r h'=>r=.int .u32 1∧h'=h:=by
 refine aDX Tryz.func192 rfl Tryz.ntmps192 (by kernel_rfl) ?_;refine aDS ?_;refine aDZ rfl ?_
 exact⟨rfl,rfl⟩
theorem aBj (B:Base)(b off:Nat)(cs:aVs)(t:TypeId)(u:Value)(h:Heap)(o0:Own B [box b cs t] h)(hc:cs[off]?=some u) :
  DSpec Tryz.prog 182 [.pointer (some ⟨b,off,none⟩),.bool true] h (Ret fun r h'=>r=.tuple #[]∧Own B [box b (cs.set off (.int .u32 1)) t] h'):=by
 refine DSpec.enter Tryz.func182 rfl (n:=10) (by kernel_rfl) (by kernel_rfl) ?_;refine aDU [0,1,2,3] [] [4,5] [0,1,2,3,4,5] mixed (by kernel_rfl) rfl (fun _ _ _ _ h=>h) ?_;refine nC rfl ?_;refine fA st210 rfl rfl rfl ?_;refine aDV (b32_spec _) ?_;rintro _ hx ⟨rfl,rfl⟩;refine CallVC.ext (XSpec.store Tryz.func191 (by kernel_rfl) (by kernel_rfl) (by kernel_rfl) (by kernel_rfl) o0 0 rfl hc) ?_;rintro _ h2 ⟨rfl,o2⟩;refine aD0 rfl ?_
 exact⟨rfl,o2⟩
theorem Own.lend1 {B:Base}{x:Item}{L2:List Item}{h:Heap}(o:Own B (x::L2) h):Own ⟨B.h,L2++B.T⟩ [x] h:=o
theorem Own.back1 {B:Base}{x:Item}{L2:List Item}{h:Heap}(o:Own ⟨B.h,L2++B.T⟩ [x] h):Own B (x::L2) h:=o
def pA (b o:Nat):Value:=.pointer (some ⟨b,o,none⟩)
theorem slow_spec (B:Base)(b:Nat)(cs:aVs)(F:aVs→List Item→Prop)(t:TypeId)(g:FuncId)(first cap:aVs)(h:Heap)(o0:Own B [box b cs t] h)
  (c0:cs[0]?=some (.int .u32 0)) (c1:cs[1]?=some (.int .i32 0))
  (hf:∀ h',Own B [box b (cs.set 1 (.int .i32 1)) t] h'→cK Tryz.prog g (first++cap) h' fun v h''=>v=.tuple #[]∧∃ cs2 L2,F cs2 L2∧cs2[0]?=some (.int .u32 0)∧cs2[1]?=some (.int .i32 1)∧Own B (box b cs2 t::L2) h'') :
  cK Tryz.prog 173 [pA b 0,.func (.func g) ⟨first⟩ ⟨cap⟩] h fun v h'=>v=.tuple #[]∧∃ cs2 L2,F cs2 L2∧Own B (box b ((cs2.set 0 (.int .u32 1)).set 1 (.int .i32 0)) t::L2) h':=by
 have hd:(cs.set 1 (.int .i32 1))[0]?=some (.int .u32 0):=by
  rw[aEM (by omega)];exact c0
 refine⟨⟨_,Tryz.func173,rfl,by kernel_rfl⟩,fun w hw=>?_⟩
 subst hw;refine calls_of_wp_defers (R:=fun e w'=>Same w w'∧Ret (fun v h'=>v=.tuple #[]∧∃ cs2 L2,F cs2 L2∧Own B (box b ((cs2.set 0 (.int .u32 1)).set 1 (.int .i32 0)) t::L2) h') e w'.heap) Tryz.func173 rfl ?_;have he:({ tmps:=[pA b 0,.func (.func g) ⟨first⟩ ⟨cap⟩].toArray++Array.replicate (21 - [pA b 0,.func (.func g) ⟨first⟩ ⟨cap⟩].toArray.size) undef,defers:=[] }:Act) =
   act [pA b 0,.func (.func g) ⟨first⟩ ⟨cap⟩,undef,undef,undef,undef,undef,undef,undef,undef,undef,undef,undef,undef,undef,undef,undef,undef,undef,undef,undef] []:=by
  simp[act,List.replicate]
 refine he▸?_;refine wp_seq (wp_mono (dT (w0:=w) (ds:=[]) _ (fun e s' h'=>e=.normal∧s'=[pA b 0,.func (.func g) ⟨first⟩ ⟨cap⟩,undef,undef,pA b 0,pA b 0,pA b 1,.tuple #[],undef,undef,undef,undef,undef,undef,undef,undef,undef,undef,undef,undef,undef]∧Own B [box b (cs.set 1 (.int .i32 1)) t] h') _ w (.refl w) ?_) ?_)
 ·refine rR (nC rfl ?_)
  refine rR (fA st216 rfl rfl rfl ?_);refine aDV (lock_spec B b 1 cs t _ o0 c1) ?_;rintro _ h2 ⟨rfl,o2⟩
  exact⟨rfl,rfl,o2⟩
 rintro e a w1 ⟨s1,rfl,hs1,rfl,rfl,o1⟩;refine wp_seq (rH (o:=0) st216 rfl rfl rfl (by decide) (by decide) (by decide) (by simp) (by simp) ?_);refine wp_seq (wp_mono (dT (w0:=w) _ (fun e s' h'=>e=.normal∧s'=[pA b 0,.func (.func g) ⟨first⟩ ⟨cap⟩,undef,undef,pA b 0,pA b 0,pA b 1,.tuple #[],pA b 0,pA b 0,pA b 1,pA b 0,pA b 0,pA b 0,.bool false,.bool true,undef,undef,undef,undef,undef]∧Own B [box b (cs.set 1 (.int .i32 1)) t] h') _ w1 hs1 ?_) ?_)
 ·refine rR (nC rfl ?_)
  refine rR (fA st216 rfl rfl rfl ?_);refine aDV (uA b 0 0 _ ((o1.cellB 0 rfl 0).trans hd)) ?_;rintro _ h2 ⟨rfl,rfl⟩
  exact⟨rfl,rfl,o1⟩
 rintro e a w2 ⟨s2,rfl,hs2,rfl,rfl,o2⟩;refine wp_cond_split (t:=true) rfl (fun _=>?_) (fun h=>by cases h);refine wp_seq (rH (o:=0) st216 rfl rfl rfl (by decide) (by decide) (by decide) (by simp) (by simp) ?_);refine wp_mono (dT (w0:=w) _ (fun e s' h'=>e=.normal∧∃ cs2 L2,F cs2 L2∧cs2[0]?=some (.int .u32 0)∧cs2[1]?=some (.int .i32 1)∧Own B (box b cs2 t::L2) h') _ w2 hs2 ?_) ?_
 ·refine aD2 ?_
  refine aDV (hf _ o2) ?_;rintro _ h3 ⟨rfl,o3⟩
  exact⟨rfl,o3⟩
 rintro e a w3 ⟨s3,rfl,hs3,rfl,cs2,L2,hF,d0,d1,o3⟩;have e1:(cs2.set 0 (.int .u32 1))[1]?=some (.int .i32 1):=by
  rw[aEM (by omega)];exact d1
 refine yY (args:=[pA b 0,.bool true]) (aBj _ b 0 cs2 t _ _ o3.lend1 d0) ?_;rintro _ w4 hs4 ⟨rfl,o4⟩;refine yY (args:=[pA b 1]) (unlock_spec _ b 1 _ t _ o4 e1) ?_;rintro _ w5 hs5 ⟨rfl,o5⟩
 exact⟨_,results_none rfl _ _ _,(hs3.trans hs4).trans hs5,rfl,cs2,L2,hF,o5.back1⟩
theorem do_spec (B:Base)(b:Nat)(cs:aVs)(F:aVs→List Item→Prop)(t:TypeId)(g:FuncId)(first cap:aVs)(h:Heap)(o0:Own B [box b cs t] h)
  (c0:cs[0]?=some (.int .u32 0)) (c1:cs[1]?=some (.int .i32 0))
  (hf:∀ h',Own B [box b (cs.set 1 (.int .i32 1)) t] h'→cK Tryz.prog g (first++cap) h' fun v h''=>v=.tuple #[]∧∃ cs2 L2,F cs2 L2∧cs2[0]?=some (.int .u32 0)∧cs2[1]?=some (.int .i32 1)∧Own B (box b cs2 t::L2) h'') :
  cK Tryz.prog 165 [pA b 0,.func (.func g) ⟨first⟩ ⟨cap⟩] h fun v h'=>v=.tuple #[]∧∃ cs2 L2,F cs2 L2∧Own B (box b ((cs2.set 0 (.int .u32 1)).set 1 (.int .i32 0)) t::L2) h':=by
 refine aDX Tryz.func165 rfl Tryz.ntmps165 (by kernel_rfl) ?_;refine rR (nC rfl ?_);refine rR (fA st216 rfl rfl rfl ?_);refine aDV (uA b 0 0 _ ((o0.cellB 0 rfl 0).trans c0)) ?_;rintro _ hx ⟨rfl,rfl⟩;refine aDS ?_;refine aDV (slow_spec B b cs F t g first cap _ o0 c0 c1 hf) ?_;rintro _ h2 ⟨rfl,o2⟩;refine aD0 rfl ?_
 exact⟨rfl,o2⟩
abbrev vR:Value:=.slice none 0 0
def aCz:aVs:=List.replicate 257 vR
theorem ty249:TyI Tryz.prog 249 true aCz 6168:=.mk' (z:=.agg ⟨aCz⟩) Tryz.underlying249 rfl (by kernel_rfl) rfl
theorem iS:StructT Tryz.prog 249 [(0,256),(256,1)] [true,false] aCz:=.mk' (by kernel_rfl) ty249
theorem eN:ArrT Tryz.prog 247 52 256 vR 24:=⟨Tryz.underlying247,mZ⟩
structure RepC (cs:aVs) (t:Value) (f:Nat→Value):Prop where
 len:cs.length=257
 last:cs[256]?=some t
 at_:∀ i,i<256→cs[i]?=some (f i)
theorem aAb:aCz.length=257:=List.length_replicate
theorem zBSR_set (v:Value)(hv:v.oneCell'=true):(aCz.set 256 v).all (fun u=>u.oneCell')=true:=by
 refine aEh.2 fun u hu=>?_
 rcases List.mem_or_eq_of_mem_set hu with h|rfl
 ·rw[List.eq_of_mem_replicate h];rfl
 ·exact hv
theorem RepC.start (t:Value):RepC (aCz.set 256 t) t (fun _=>vR) where
 len:=by rw[List.length_set];exact aAb
 last:=List.getElem?_set_self (by rw[aAb];omega)
 at_ i hi:=by
  rw[aEM (by omega),aCz,List.getElem?_replicate,if_pos (by omega)]
def aCP (f:Nat→Value)(i:Nat)(v:Value):Nat→Value:=fun j=>if j=i then v else f j
theorem RepC.setT {cs:aVs}{t t':Value}{f:Nat→Value}(r:RepC cs t f):RepC (cs.set 256 t') t' f where
 len:=by simp[r.len]
 last:=by simp[r.len]
 at_ i hi:=by rw[aEM (by omega)];exact r.at_ i hi
theorem RepC.setV {cs:aVs}{t v:Value}{f:Nat→Value}(r:RepC cs t f)(i:Nat)(hi:i<256):RepC (cs.set i v) t (aCP f i v) where
 len:=by simp[r.len]
 last:=by rw[aEM (by omega)];exact r.last
 at_ j hj:=by
  unfold aCP;by_cases h:j=i
  ·subst h;rw[if_pos rfl];exact List.getElem?_set_self (by rw[r.len];omega)
  ·rw[aEM (Ne.symm h),if_neg h];exact r.at_ j hj
def iP (l:aBs):Value:=.string ⟨⟨l⟩⟩
def gU:aVs:=[iP [34],iP [92,34],iP [92],iP [92,92],iP [10],iP [92,110]]
def aCO (v w x:Value):Nat→Value:=aCP (aCP (aCP (fun _=>vR) 10 v) 92 w) 34 x
theorem build_spec (B:Base)(b:Nat)(d st se r:Value)(a:Option Addr)(c:Nat)(h:Heap)
  (o0:Own B [box b [d,st,se,r,.slice a 6 c] 220,row (.slice a 6 c) 9 1 6 gU] h) :
  cK Tryz.prog 174 [pA b 0] h fun res h'=>∃ rb cs t v w x,res=.iface 250 (pA rb 0)∧RepC cs t (aCO v w x) ∧
   Own B [box b [d,st,se,r,.slice a 6 c] 220,row (.slice a 6 c) 9 1 6 gU,box rb cs 249,row t 9 1 3 [iP [10],iP [92],iP [34]],ro v (bytes [92,110]),ro w (bytes [92,92]),ro x (bytes [92,34])] h':=by
 have hol:gU.length=6:=rfl;refine aDX Tryz.func174 rfl Tryz.ntmps174 (by kernel_rfl) ?_;refine rR (nC rfl ?_);refine rR (fA aBO rfl rfl rfl ?_);refine rR (aDe o0 0 rfl fG rfl rfl ?_);refine rR (aDn rfl aJ ?_);refine aDT ?_;refine aDT ?_;refine aD1 [2,4,5,37,38,39,40,41,42,43,44,45,46,47,48,49,50,51,52,53,54,55,56,57,58] [4,5] (fun vs hh=>(vs=[.bool true,.int .i64 0]∨vs=[.bool false,.int .i64 2]∨vs=[.bool false,.int .i64 4]∨vs=[.bool false,.int .i64 6])∧Own B [box b [d,st,se,r,.slice a 6 c] 220,row (.slice a 6 c) 9 1 6 gU] hh) (fun vs _=>match vs with|[_,.int _ i]=>6 - i.toNat|_=>0) ?_ ?_
 ·exact⟨.inl rfl,o0⟩
 ·rintro vs junk hh ⟨hv,oh⟩
  rcases hv with rfl|rfl|rfl|rfl
  ·refine rR (aDn rfl aJ ?_)
   refine aDS ?_;refine rR (idx aJ aO (oh.rowArr 1 rfl) rfl (by omega) (by omega) ?_);refine rR (loadA (oh.rowArr 1 rfl) aO rfl (by first|assumption|rfl) ?_);refine rR (aDA rfl cX ?_);refine aDT ?_;refine aDY (by omega) (by omega) ?_;refine rR (idx aJ aO (oh.rowArr 1 rfl) rfl (by omega) (by omega) ?_);refine rR (loadA (oh.rowArr 1 rfl) aO rfl (by first|assumption|rfl) ?_);refine rR (aDA rfl cX ?_);refine aDS ?_;refine aDY (by omega) (by omega) ?_
   refine⟨rfl,?_⟩
   exact⟨⟨.inr (.inl rfl),oh⟩,by decide⟩
  ·refine rR (aDn rfl aJ ?_)
   refine aDS ?_;refine rR (idx aJ aO (oh.rowArr 1 rfl) rfl (by omega) (by omega) ?_);refine rR (loadA (oh.rowArr 1 rfl) aO rfl (by first|assumption|rfl) ?_);refine rR (aDA rfl cX ?_);refine aDT ?_;refine aDY (by omega) (by omega) ?_;refine rR (idx aJ aO (oh.rowArr 1 rfl) rfl (by omega) (by omega) ?_);refine rR (loadA (oh.rowArr 1 rfl) aO rfl (by first|assumption|rfl) ?_);refine rR (aDA rfl cX ?_);refine aDS ?_;refine aDY (by omega) (by omega) ?_
   refine⟨rfl,?_⟩
   exact⟨⟨.inr (.inr (.inl rfl)),oh⟩,by decide⟩
  ·refine rR (aDn rfl aJ ?_)
   refine aDS ?_;refine rR (idx aJ aO (oh.rowArr 1 rfl) rfl (by omega) (by omega) ?_);refine rR (loadA (oh.rowArr 1 rfl) aO rfl (by first|assumption|rfl) ?_);refine rR (aDA rfl cX ?_);refine aDT ?_;refine aDY (by omega) (by omega) ?_;refine rR (idx aJ aO (oh.rowArr 1 rfl) rfl (by omega) (by omega) ?_);refine rR (loadA (oh.rowArr 1 rfl) aO rfl (by first|assumption|rfl) ?_);refine rR (aDA rfl cX ?_);refine aDS ?_;refine aDY (by omega) (by omega) ?_
   refine⟨rfl,?_⟩
   exact⟨⟨.inr (.inr (.inr rfl)),oh⟩,by decide⟩
  ·refine rR (aDn rfl aJ ?_)
   refine aDT ?_;refine aDT ?_;refine rR (aDn rfl aJ ?_);refine rR (quoE rfl rfl (by omega) (by omega) (by simp[IntKind.max,IntKind.signed,IntKind.bits]<;>omega) ?_);(refine RunVC.make0 oh aJ aO rfl rfl (by omega) (by omega) (by omega) ?_;intro v83 m83 o83);refine rR (aDl iS ?_)
   obtain⟨ta,tc,rfl⟩:=o83.rowIs 2 rfl
   refine⟨by rw[aAb];rfl,?_⟩
   (refine aDP o83 ty249 ?_;intro b90 m90 o90);refine RunVC.storeAll (vs:=aCz.set 256 (.slice ta 0 tc)) ‹_› 3 rfl ty249 ?_ ?_ List.length_set rfl (zBSR_set (.slice ta 0 tc) rfl) ?_
   ·rfl
   ·rfl
   intro m91 o91;have hR:=RepC.start (.slice ta 0 tc);generalize aCz.set 256 (.slice ta 0 tc)=cs0 at *;refine rR (aDn rfl aJ ?_);refine aDY (by omega) (by omega) ?_;refine aD1 [12,13,14,99,100,101,102,103,104,105,106,107,108,109,110,111,112,113,114,115,116,117,118,119,120,121,122,123,124,125,126,127,128,129,130] [12] (fun vs hh=>(vs=[.int .i64 4]∧∃(ta:Option Addr) (tc:Nat) (cs:aVs),RepC cs (.slice ta 0 tc) (fun _=>vR)∧Own B [box b [d,st,se,r,.slice a 6 c] 220,row (.slice a 6 c) 9 1 6 gU,box b90 cs 249,row (.slice ta 0 tc) 9 1 0 []] hh)∨(vs=[.int .i64 2]∧∃(ta:Option Addr) (tc:Nat) (cs:aVs) (v:Value),RepC cs (.slice ta 1 tc) (aCP (fun _=>vR) 10 v)∧Own B [box b [d,st,se,r,.slice a 6 c] 220,row (.slice a 6 c) 9 1 6 gU,box b90 cs 249,row (.slice ta 1 tc) 9 1 1 [iP [10]],ro v (bytes [92,110])] hh)∨(vs=[.int .i64 0]∧∃(ta:Option Addr) (tc:Nat) (cs:aVs) (v w:Value),RepC cs (.slice ta 2 tc) (aCP (aCP (fun _=>vR) 10 v) 92 w)∧Own B [box b [d,st,se,r,.slice a 6 c] 220,row (.slice a 6 c) 9 1 6 gU,box b90 cs 249,row (.slice ta 2 tc) 9 1 2 [iP [10],iP [92]],ro v (bytes [92,110]),ro w (bytes [92,92])] hh)∨(vs=[.int .i64 (-2)]∧∃(ta:Option Addr) (tc:Nat) (cs:aVs) (v w x:Value),RepC cs (.slice ta 3 tc) (aCO v w x)∧Own B [box b [d,st,se,r,.slice a 6 c] 220,row (.slice a 6 c) 9 1 6 gU,box b90 cs 249,row (.slice ta 3 tc) 9 1 3 [iP [10],iP [92],iP [34]],ro v (bytes [92,110]),ro w (bytes [92,92]),ro x (bytes [92,34])] hh)) (fun vs _=>match vs with|[.int _ i]=>(i+2).toNat|_=>0) ?_ ?_
   ·exact .inl ⟨rfl,ta,tc,cs0,hR,o91.sel [0,1,3,2] rfl⟩
   ·clear o91 hR
    rintro vs junk hh hI
    rcases hI with ⟨rfl,ta,tc,cs,hR,oh⟩|⟨rfl,ta,tc,cs,v,hR,oh⟩|⟨rfl,ta,tc,cs,v,w,hR,oh⟩|⟨rfl,ta,tc,cs,v,w,x,hR,oh⟩
    ·have e256:=hR.last
     have hlen:=hR.len;have p1:([10]:aBs)[(0:Int).toNat]?=some 10:=rfl;have p2:UInt8.toNat 10=10:=rfl;have eo:cs[10]?=some vR:=hR.at_ 10 (by omega);refine aDS ?_;refine rR (idx aJ aO (oh.rowArr 1 rfl) rfl (by omega) (by omega) ?_);refine rR (loadA (oh.rowArr 1 rfl) aO rfl (by first|assumption|rfl) ?_);refine rR (aDw rfl rfl cX (by omega) ‹_› ?_);refine aDY (by omega) (by omega) ?_;refine rR (idx aJ aO (oh.rowArr 1 rfl) rfl (by omega) (by omega) ?_);refine rR (loadA (oh.rowArr 1 rfl) aO rfl (by first|assumption|rfl) ?_);refine rR (fA iS rfl rfl rfl ?_);refine rR (aDx eN.arr eN.el rfl rfl (by omega) (by omega) ?_);refine rR (aDe oh 2 rfl mZ rfl ‹_› ?_);refine rR (eqNil gP rfl rfl ?_);refine aDS ?_;refine rR (fA iS rfl rfl rfl ?_);refine rR (aDe oh 2 rfl fG rfl ‹_› ?_);(refine aDO oh gP ty5 rfl rfl (by decide) (aI rfl ?_);intro b121 m121 o121);refine rR (aDK (l:=[10]) (Own.boxArr ‹_› 4 rfl rfl (by decide)) gP int5 cX ?_);(refine aDO o121 aJ aO rfl rfl (by decide) (aI rfl ?_);intro b130 m130 o130);refine aDQ ‹_› 3 rfl aJ aO (by decide) ((Own.boxArr ‹_› 5 rfl (n:=1) (c:=1) rfl (by decide)).toN) (by simp[Value.oneCell',iP]) (by simp[maxLen]) (by simp) ?_;intro v132 m132 o132
     obtain⟨tb,td,rfl⟩:=o132.rowIs 3 rfl
     refine rR (fA iS rfl rfl rfl ?_);(refine aDN o132 2 rfl fG rfl (by simp only[aEa,aEr,aEo];omega) (aI ⟨rfl,rfl⟩ ?_);intro m134 o134);(refine RunVC.strBytes o134 cX gP int5 rfl ?_;intro v135 m135 o135);refine rR (fA iS rfl rfl rfl ?_);refine rR (aDx eN.arr eN.el rfl rfl (by omega) (by omega) ?_)
     obtain⟨ra,rc,rfl,-⟩:=o135.roArr 6 rfl
     (refine aDN o135 2 rfl mZ rfl (by first|omega|(simp;omega)) (aI ⟨rfl,rfl⟩ ?_);intro m143 o143);refine aDY (by omega) (by omega) ?_
     refine⟨rfl,?_⟩
     exact⟨.inr (.inl ⟨rfl,tb,td,_,_,(hR.setT (t':=.slice tb 1 td)).setV 10 (by omega),Own.sel ‹_› [0,1,2,3,6] rfl⟩),by decide⟩
    ·have e256:=hR.last
     have hlen:=hR.len;have p1:([92]:aBs)[(0:Int).toNat]?=some 92:=rfl;have p2:UInt8.toNat 92=92:=rfl;have eo:cs[92]?=some vR:=hR.at_ 92 (by omega);refine aDS ?_;refine rR (idx aJ aO (oh.rowArr 1 rfl) rfl (by omega) (by omega) ?_);refine rR (loadA (oh.rowArr 1 rfl) aO rfl (by first|assumption|rfl) ?_);refine rR (aDw rfl rfl cX (by omega) ‹_› ?_);refine aDY (by omega) (by omega) ?_;refine rR (idx aJ aO (oh.rowArr 1 rfl) rfl (by omega) (by omega) ?_);refine rR (loadA (oh.rowArr 1 rfl) aO rfl (by first|assumption|rfl) ?_);refine rR (fA iS rfl rfl rfl ?_);refine rR (aDx eN.arr eN.el rfl rfl (by omega) (by omega) ?_);refine rR (aDe oh 2 rfl mZ rfl ‹_› ?_);refine rR (eqNil gP rfl rfl ?_);refine aDS ?_;refine rR (fA iS rfl rfl rfl ?_);refine rR (aDe oh 2 rfl fG rfl ‹_› ?_);(refine aDO oh gP ty5 rfl rfl (by decide) (aI rfl ?_);intro b161 m161 o161);refine rR (aDK (l:=[92]) (Own.boxArr ‹_› 5 rfl rfl (by decide)) gP int5 cX ?_);(refine aDO o161 aJ aO rfl rfl (by decide) (aI rfl ?_);intro b180 m180 o180);refine aDQ ‹_› 3 rfl aJ aO (by decide) ((Own.boxArr ‹_› 6 rfl (n:=1) (c:=1) rfl (by decide)).toN) (by simp[Value.oneCell',iP]) (by simp[maxLen]) (by simp) ?_;intro v182 m182 o182
     obtain⟨tb,td,rfl⟩:=o182.rowIs 3 rfl
     refine rR (fA iS rfl rfl rfl ?_);(refine aDN o182 2 rfl fG rfl (by simp only[aEa,aEr,aEo];omega) (aI ⟨rfl,rfl⟩ ?_);intro m184 o184);(refine RunVC.strBytes o184 cX gP int5 rfl ?_;intro v185 m185 o185);refine rR (fA iS rfl rfl rfl ?_);refine rR (aDx eN.arr eN.el rfl rfl (by omega) (by omega) ?_)
     obtain⟨ra,rc,rfl,-⟩:=o185.roArr 7 rfl
     (refine aDN o185 2 rfl mZ rfl (by first|omega|(simp;omega)) (aI ⟨rfl,rfl⟩ ?_);intro m193 o193);refine aDY (by omega) (by omega) ?_
     refine⟨rfl,?_⟩
     exact⟨.inr (.inr (.inl ⟨rfl,tb,td,_,_,_,(hR.setT (t':=.slice tb 2 td)).setV 92 (by omega),Own.sel ‹_› [0,1,2,3,4,7] rfl⟩)),by decide⟩
    ·have e256:=hR.last
     have hlen:=hR.len;have p1:([34]:aBs)[(0:Int).toNat]?=some 34:=rfl;have p2:UInt8.toNat 34=34:=rfl;have eo:cs[34]?=some vR:=hR.at_ 34 (by omega);refine aDS ?_;refine rR (idx aJ aO (oh.rowArr 1 rfl) rfl (by omega) (by omega) ?_);refine rR (loadA (oh.rowArr 1 rfl) aO rfl (by first|assumption|rfl) ?_);refine rR (aDw rfl rfl cX (by omega) ‹_› ?_);refine aDY (by omega) (by omega) ?_;refine rR (idx aJ aO (oh.rowArr 1 rfl) rfl (by omega) (by omega) ?_);refine rR (loadA (oh.rowArr 1 rfl) aO rfl (by first|assumption|rfl) ?_);refine rR (fA iS rfl rfl rfl ?_);refine rR (aDx eN.arr eN.el rfl rfl (by omega) (by omega) ?_);refine rR (aDe oh 2 rfl mZ rfl ‹_› ?_);refine rR (eqNil gP rfl rfl ?_);refine aDS ?_;refine rR (fA iS rfl rfl rfl ?_);refine rR (aDe oh 2 rfl fG rfl ‹_› ?_);(refine aDO oh gP ty5 rfl rfl (by decide) (aI rfl ?_);intro b211 m211 o211);refine rR (aDK (l:=[34]) (Own.boxArr ‹_› 6 rfl rfl (by decide)) gP int5 cX ?_);(refine aDO o211 aJ aO rfl rfl (by decide) (aI rfl ?_);intro b230 m230 o230);refine aDQ ‹_› 3 rfl aJ aO (by decide) ((Own.boxArr ‹_› 7 rfl (n:=1) (c:=1) rfl (by decide)).toN) (by simp[Value.oneCell',iP]) (by simp[maxLen]) (by simp) ?_;intro v232 m232 o232
     obtain⟨tb,td,rfl⟩:=o232.rowIs 3 rfl
     refine rR (fA iS rfl rfl rfl ?_);(refine aDN o232 2 rfl fG rfl (by simp only[aEa,aEr,aEo];omega) (aI ⟨rfl,rfl⟩ ?_);intro m234 o234);(refine RunVC.strBytes o234 cX gP int5 rfl ?_;intro v235 m235 o235);refine rR (fA iS rfl rfl rfl ?_);refine rR (aDx eN.arr eN.el rfl rfl (by omega) (by omega) ?_)
     obtain⟨ra,rc,rfl,-⟩:=o235.roArr 8 rfl
     (refine aDN o235 2 rfl mZ rfl (by first|omega|(simp;omega)) (aI ⟨rfl,rfl⟩ ?_);intro m243 o243);refine aDY (by omega) (by omega) ?_
     refine⟨rfl,?_⟩
     exact⟨.inr (.inr (.inr ⟨rfl,tb,td,_,_,_,_,(hR.setT (t':=.slice tb 3 td)).setV 34 (by omega),Own.sel ‹_› [0,1,2,3,4,5,8] rfl⟩)),by decide⟩
    ·refine aDT ?_
     refine rR (aDM (by kernel_rfl) rfl ?_);refine aDZ rfl ?_
     exact⟨b90,cs,_,v,w,x,rfl,hR,oh⟩
def aAv (a:Option Addr)(c:Nat):aVs:=[.int .u32 0,.int .i32 0,.int .u32 0,.nilIface,.slice a 6 c]
theorem xE (v:Value)(h:Heap)(hA:Arr h v gU) :
  cK Tryz.prog 147 [v] h fun r h'=>∃ b a c,r=pA b 0∧Own h [box b (aAv a c) 220,row (.slice a 6 c) 9 1 6 gU] h':=by
 have hol:gU.length=6:=rfl;have o0:=(Own.refl h).nilRow 9 1;refine aDX Tryz.func147 rfl Tryz.ntmps147 (by kernel_rfl) ?_;refine rR (aDF hA ‹_› aJ ?_);refine rR (remE rfl rfl (by omega) (by omega) ?_);refine aDT ?_;refine aDQ ‹_› 0 rfl aJ aO (by decide) hA.toN (by simp[Value.oneCell',iP,gU]) (by simp[maxLen,gU]) (by simp[gU]) ?_;intro v20 m20 o20
 obtain⟨ta,tc,rfl⟩:=o20.rowIs 0 rfl
 refine rR (aDl aBO ?_);refine aI rfl ?_;(refine aDz o20 rfl ?_;intro b31 m31 o31);refine aDZ rfl ?_
 exact⟨b31,ta,tc,rfl,o31.sel [1,0] rfl⟩
theorem aBg (B:Base)(b:Nat)(d st se r:Value)(a:Option Addr)(c:Nat)(h:Heap)
  (o0:Own B [box b [d,st,se,r,.slice a 6 c] 220,row (.slice a 6 c) 9 1 6 gU] h) :
  cK Tryz.prog 166 [pA b 0] h fun res h'=>res=.tuple #[]∧∃ rb cs t v w x,RepC cs t (aCO v w x) ∧
   Own B [box b [d,st,se,.iface 250 (pA rb 0),vR] 220,row (.slice a 6 c) 9 1 6 gU,box rb cs 249,row t 9 1 3 [iP [10],iP [92],iP [34]],ro v (bytes [92,110]),ro w (bytes [92,92]),ro x (bytes [92,34])] h':=by
 refine aDX Tryz.func166 rfl Tryz.ntmps166 (by kernel_rfl) ?_;refine aDV (build_spec B b d st se r a c _ o0) ?_;rintro _ h1 ⟨rb,cs,t,v,w,x,rfl,hR,o1⟩;refine rR (nC rfl ?_);refine rR (fA aBO rfl rfl rfl ?_);(refine aDN o1 0 rfl ty218 rfl (by simp) (aI ⟨rfl,rfl⟩ ?_);intro m22 o22);refine rR (nC rfl ?_);refine rR (fA aBO rfl rfl rfl ?_);(refine aDN o22 0 rfl fG rfl (by simp) (aI ⟨rfl,rfl⟩ ?_);intro m25 o25);refine aD0 rfl ?_
 exact⟨rfl,rb,cs,t,v,w,x,hR,Own.sel ‹_› [0,1,2,3,4,5,6] rfl⟩
theorem aCo:∀(s:aBs),nS s=0→fM s=s
 | [],_=>rfl
 | c::s,h=>by
  unfold nS at h
  rw[List.countP_cons]at h
  have hc:spc c=false:=by
   cases hh:spc c with
   | false=>rfl
   | true=>rw[hh]at h;simp at h
  have ih:=aCo s (by unfold nS;omega);unfold fM at ih ⊢
  rw[aEj,ih,qS hc]
  rfl
theorem aAI:∀(s:aBs),nS s=s.count 10+s.count 92+s.count 34
 | []=>rfl
 | c::s=>by
  have ih:=aAI s;unfold nS at ih ⊢
  rw[List.countP_cons,ih,List.count_cons,List.count_cons,List.count_cons]
  by_cases h1:c=34
  ·subst h1;simp[spc];omega
  ·by_cases h2:c=92
   ·subst h2;simp[spc];omega
   ·by_cases h3:c=10
    ·subst h3;simp[spc];omega
    ·simp[spc,h1,h2,h3]
theorem nS_take {s:aBs}{i:Nat}{c:UInt8}(h:s[i]?=some c):nS (s.take (i+1))=nS (s.take i)+(if spc c=true then 1 else 0):=by
 unfold nS
 rw[aEN,h,List.countP_append]
 simp[List.countP_cons]
theorem uP (s:aBs)(c:UInt8)(h:Heap):cK Tryz.prog 251 [.string ⟨⟨s⟩⟩,.string ⟨⟨[c]⟩⟩] h fun r h'=>r=.int .i64 (s.count c)∧Own h [] h':=by
 refine⟨⟨_,Tryz.func251,rfl,by kernel_rfl⟩,fun w hw=>?_⟩
 subst hw
 refine(Tryz.strings_Count_one ⟨⟨s⟩⟩ c w).mono ?_
 rintro e w' ⟨rfl,rfl⟩
 exact⟨.refl _,rfl,Own.refl _⟩
theorem tab_at {h:Heap}{v w x:Value}(hv:Arr h v (bytes [92,110]))(hw:Arr h w (bytes [92,92]))(hx:Arr h x (bytes [92,34]))(c:UInt8) :
  (spc c=false∧aCO v w x c.toNat=vR)∨(spc c=true∧∃ a cap,aCO v w x c.toNat=.slice (some a) 2 cap∧Arr h (.slice (some a) 2 cap) (bytes (uN c))):=by
 have two:∀(v:Value) (l:aBs),l.length=2→Arr h v (bytes l)→∃ a cap,v=.slice (some a) 2 cap∧Arr h (.slice (some a) 2 cap) (bytes l):=by
  intro v l hl hA
  obtain⟨a,cap,rfl,hc,r⟩:=hA
  have hbl:(bytes l).length=2:=by simp[bytes,hl]
  rw[hbl]at hc
  rcases r with r|⟨b,o,rfl,hcell⟩
  ·rw[r]at hbl;simp at hbl
  ·refine⟨_,cap,by rw[hbl],?_⟩
   exact⟨_,cap,by rw[hbl],by rw[hbl];exact hc,.inr ⟨b,o,rfl,hcell⟩⟩
 have inj:∀ {n:Nat},c.toNat=n→c=UInt8.ofNat n:=fun h=>by rw[← h];simp
 unfold aCO aCP;by_cases h34:c.toNat=34
 ·have e:c=34:=inj h34
  subst e
  obtain⟨a,cap,rfl,hA⟩:=two x [92,34] rfl hx
  exact .inr ⟨by decide,a,cap,by rw[if_pos h34],hA⟩
 ·by_cases h92:c.toNat=92
  ·have e:c=92:=inj h92
   subst e
   obtain⟨a,cap,rfl,hA⟩:=two w [92,92] rfl hw
   exact .inr ⟨by decide,a,cap,by rw[if_neg h34,if_pos h92],hA⟩
  ·by_cases h10:c.toNat=10
   ·have e:c=10:=inj h10
    subst e
    obtain⟨a,cap,rfl,hA⟩:=two v [92,110] rfl hv
    exact .inr ⟨by decide,a,cap,by rw[if_neg h34,if_neg h92,if_pos h10],hA⟩
   ·refine .inl ⟨?_,by rw[if_neg h34,if_neg h92,if_neg h10]⟩
    unfold spc;refine decide_eq_false ?_
    rintro(rfl|rfl|rfl)
    ·exact h34 rfl
    ·exact h92 rfl
    ·exact h10 rfl
abbrev zB:Value:=.int .u8 0
theorem fillSet (A:aBs)(c:UInt8)(N:Nat)(h:A.length<N):(bytes A++List.replicate (N - A.length) zB).set A.length (.int .u8 c.toNat)=bytes (A++[c])++List.replicate (N - (A++[c]).length) zB:=by
 obtain⟨m,hm⟩:∃ m,N - A.length=m+1:=⟨N - A.length - 1,by omega⟩
 have hm2:N - (A++[c]).length=m:=by simp;omega
 have hl:(bytes A).length=A.length:=by simp[bytes]
 rw[hm,hm2,List.replicate_succ,← hl,List.set_append_right _ _ (aEf _),Nat.sub_self]
 simp[bytes]
theorem fillCopy (A B:aBs)(N:Nat)(_h:A.length+B.length≤N) :
  (bytes A++List.replicate (N - A.length) zB).take A.length++bytes B++(bytes A++List.replicate (N - A.length) zB).drop (A.length+B.length)=bytes (A++B)++List.replicate (N - (A++B).length) zB:=by
 have hl:(bytes A).length=A.length:=by simp[bytes]
 rw[← hl,List.take_left,List.drop_append,aEp (by omega),hl,lnA,Nat.add_sub_cancel_left,List.drop_replicate,aD9,Nat.sub_sub]
 simp[bytes]
theorem aBh (rb:Nat)(t v w x:Value)(s:aBs)(h:Heap)(hl:s.length≤1000000)(ct:bC h ⟨rb,0+256,none⟩=some t)(hc:∀ i,i<256→bC h ⟨rb,i,none⟩=some (aCO v w x i))
  (hT:Arr h t [iP [10],iP [92],iP [34]]) (hv:Arr h v (bytes [92,110])) (hw:Arr h w (bytes [92,92])) (hx:Arr h x (bytes [92,34])) :
  cK Tryz.prog 249 [pA rb 0,.string ⟨⟨s⟩⟩] h fun r h'=>r=.string ⟨⟨fM s⟩⟩∧Own h [] h':=by
 obtain⟨at_,tc,rfl,htc,-⟩:=id hT
 have hT2:Arr h (.slice at_ 3 tc) [iP [10],iP [92],iP [34]]:=hT;have o0:=Own.refl h;have hnle:nS s≤s.length:=List.countP_le_length;have hcs:∀ c:UInt8,bC h ⟨rb,0+0+((c.toNat:Nat):Int).toNat*1,none⟩=some (aCO v w x c.toNat):=fun c=>by
  rw[show 0+0+((c.toNat:Nat):Int).toNat*1=c.toNat by simp]
  exact hc _ c.toNat_lt
 have hsp:∀ c:UInt8,spc c=true→∃ a cap,bC h ⟨rb,0+0+((c.toNat:Nat):Int).toNat*1,none⟩=some (.slice (some a) 2 cap):=fun c hc=>by
  rcases tab_at hv hw hx c with ⟨h1,_⟩|⟨_,a,cap,he,_⟩
  ·rw[hc]at h1;cases h1
  ·exact⟨a,cap,by rw[hcs,he]⟩
 have hl3:[iP [10],iP [92],iP [34]].length=3:=rfl;have hns:=aAI s;refine aDX Tryz.func249 rfl Tryz.ntmps249 (by kernel_rfl) ?_;refine rR (aDA rfl cX ?_);refine rR (nC rfl ?_);refine rR (fA iS rfl rfl rfl ?_);refine rR (load1 fG rfl ‹_› ?_);refine rR (aDn rfl aJ ?_);refine aDY (by omega) (by omega) ?_;refine rR (aDA rfl cX ?_);refine Br.join [5,6,8,9,10,11,27,28,29,30,31,32,33,34,35,36,37,38,39,40,41,42,43,44,45,46,47,48,49,50,51,52,53,54,55,56,57,58,59,60,61,62,63,64,65,66,67,68,69,70,71,72,73,74,75,76,77,78,79,80] [5,6] (fun vs hh=>vs=[.int .i64 (s.length+nS s:Nat),.bool (decide (nS s≠0))]∧Own h [] hh) rfl rfl ?_ ?_
 ·by_cases hlong:24≤s.length
  ·refine aDR (fun c20=>?_) (fun hc=>absurd (by omega) hc)
   refine rR (nC rfl ?_);refine rR (fA iS rfl rfl rfl ?_);refine rR (load1 fG rfl ‹_› ?_);refine rR (aDn rfl aJ ?_);refine aD1 [5,6,8,9,32,33,34,35,36,37,38,39,40,41,42,43,44,45,46,47,48,49,50,51,52,53,54] [5,6,32] (fun vs hh=>∃(q n:Nat),vs=[.int .i64 (s.length+n:Nat),.bool (decide (n≠0)),.int .i64 q]∧(q=0∧n=0∨q=1∧n=s.count 10∨q=2∧n=s.count 10+s.count 92∨q=3∧n=s.count 10+s.count 92+s.count 34)∧Own h [] hh) (fun vs _=>match vs with|[_,_,.int _ q]=>3 - q.toNat|_=>0) ?_ ?_
   ·exact⟨0,0,rfl,.inl ⟨rfl,rfl⟩,o0⟩
   ·rintro vs junk hh ⟨q,n,rfl,hq,oh⟩
    rcases hq with ⟨rfl,rfl⟩|⟨rfl,rfl⟩|⟨rfl,rfl⟩|⟨rfl,rfl⟩
    ·have p1:([10]:aBs)[(0:Int).toNat]?=some 10:=rfl
     have p2:UInt8.toNat 10=10:=rfl
     obtain⟨ga,gc,hcell⟩:=hsp 10 (by decide)
     refine aDS ?_;refine rR (idx aJ aO (hT2.ext oh.ext) rfl (by omega) (by omega) ?_);refine rR (loadA (hT2.ext oh.ext) aO rfl (by first|assumption|rfl) ?_);refine aDV (uP s 10 _) ?_;rintro _ h2 ⟨rfl,ob⟩;have o2:=oh.ext' ob;have hcl:s.count 10≤s.length:=List.count_le_length;by_cases hc0:s.count 10=0
     ·refine aDp (fun hc=>absurd (by first|omega|assumption|decide|exact rfl) hc) (fun c35=>?_)
      refine aDY (by omega) (by omega) ?_
      refine⟨rfl,?_⟩
      refine⟨⟨1,s.count 10,by simp[hc0],by simp[hc0],o2⟩,by simp⟩
     ·refine aDp (fun c40=>?_) (fun hc=>absurd hc (by first|omega|assumption|decide|exact rfl))
      refine aDU [0,1,2,3,4,5,6,7,9,10,11,12,13] [8] [] [0,1,2,3,4,5,6,7,8,9,10,11,12,13] mixed (by kernel_rfl) rfl (fun _ _ _ _ h=>h) ?_;refine aDw rfl rfl cX (by omega) ‹_› ?_;refine nC rfl ?_;refine fA iS rfl rfl rfl ?_;refine aDx eN.arr eN.el rfl rfl (by omega) (by omega) ?_;refine load1 mZ rfl (o2.old hcell) ?_;refine aDn rfl gP ?_;refine aDY (by omega) (by omega) ?_;refine aDY (by omega) (by omega) ?_;refine aDY (by omega) (by omega) ?_;refine aDY (by omega) (by omega) ?_
      refine⟨rfl,?_⟩
      refine⟨⟨1,s.count 10,?_,by simp,o2⟩,by simp⟩
      have hne:s.count 10≠0:=by omega
      simp only[List.cons.injEq,and_true,Value.int.injEq,true_and,Value.bool.injEq]
      exact⟨by omega,(decide_eq_true hne).symm,rfl⟩
    ·have p1:([92]:aBs)[(0:Int).toNat]?=some 92:=rfl
     have p2:UInt8.toNat 92=92:=rfl
     obtain⟨ga,gc,hcell⟩:=hsp 92 (by decide)
     refine aDS ?_;refine rR (idx aJ aO (hT2.ext oh.ext) rfl (by omega) (by omega) ?_);refine rR (loadA (hT2.ext oh.ext) aO rfl (by first|assumption|rfl) ?_);refine aDV (uP s 92 _) ?_;rintro _ h2 ⟨rfl,ob⟩;have o2:=oh.ext' ob;have hcl:s.count 92≤s.length:=List.count_le_length;by_cases hc0:s.count 92=0
     ·refine aDp (fun hc=>absurd (by first|omega|assumption|decide|exact rfl) hc) (fun c65=>?_)
      refine aDY (by omega) (by omega) ?_
      refine⟨rfl,?_⟩
      refine⟨⟨2,s.count 10+s.count 92,by simp[hc0],by simp[hc0],o2⟩,by simp⟩
     ·refine aDp (fun c70=>?_) (fun hc=>absurd hc (by first|omega|assumption|decide|exact rfl))
      refine aDU [0,1,2,3,4,5,6,7,9,10,11,12,13] [8] [] [0,1,2,3,4,5,6,7,8,9,10,11,12,13] mixed (by kernel_rfl) rfl (fun _ _ _ _ h=>h) ?_;refine aDw rfl rfl cX (by omega) ‹_› ?_;refine nC rfl ?_;refine fA iS rfl rfl rfl ?_;refine aDx eN.arr eN.el rfl rfl (by omega) (by omega) ?_;refine load1 mZ rfl (o2.old hcell) ?_;refine aDn rfl gP ?_;refine aDY (by omega) (by omega) ?_;refine aDY (by omega) (by omega) ?_;refine aDY (by omega) (by omega) ?_;refine aDY (by omega) (by omega) ?_
      refine⟨rfl,?_⟩
      refine⟨⟨2,s.count 10+s.count 92,?_,by simp,o2⟩,by simp⟩
      have hne:s.count 10+s.count 92≠0:=by omega
      simp only[List.cons.injEq,and_true,Value.int.injEq,true_and,Value.bool.injEq]
      exact⟨by omega,(decide_eq_true hne).symm,rfl⟩
    ·have p1:([34]:aBs)[(0:Int).toNat]?=some 34:=rfl
     have p2:UInt8.toNat 34=34:=rfl
     obtain⟨ga,gc,hcell⟩:=hsp 34 (by decide)
     refine aDS ?_;refine rR (idx aJ aO (hT2.ext oh.ext) rfl (by omega) (by omega) ?_);refine rR (loadA (hT2.ext oh.ext) aO rfl (by first|assumption|rfl) ?_);refine aDV (uP s 34 _) ?_;rintro _ h2 ⟨rfl,ob⟩;have o2:=oh.ext' ob;have hcl:s.count 34≤s.length:=List.count_le_length;by_cases hc0:s.count 34=0
     ·refine aDp (fun hc=>absurd (by first|omega|assumption|decide|exact rfl) hc) (fun c95=>?_)
      refine aDY (by omega) (by omega) ?_
      refine⟨rfl,?_⟩
      refine⟨⟨3,s.count 10+s.count 92+s.count 34,by simp[hc0],by simp[hc0],o2⟩,by simp⟩
     ·refine aDp (fun c100=>?_) (fun hc=>absurd hc (by first|omega|assumption|decide|exact rfl))
      refine aDU [0,1,2,3,4,5,6,7,9,10,11,12,13] [8] [] [0,1,2,3,4,5,6,7,8,9,10,11,12,13] mixed (by kernel_rfl) rfl (fun _ _ _ _ h=>h) ?_;refine aDw rfl rfl cX (by omega) ‹_› ?_;refine nC rfl ?_;refine fA iS rfl rfl rfl ?_;refine aDx eN.arr eN.el rfl rfl (by omega) (by omega) ?_;refine load1 mZ rfl (o2.old hcell) ?_;refine aDn rfl gP ?_;refine aDY (by omega) (by omega) ?_;refine aDY (by omega) (by omega) ?_;refine aDY (by omega) (by omega) ?_;refine aDY (by omega) (by omega) ?_
      refine⟨rfl,?_⟩
      refine⟨⟨3,s.count 10+s.count 92+s.count 34,?_,by simp,o2⟩,by simp⟩
      have hne:s.count 10+s.count 92+s.count 34≠0:=by omega
      simp only[List.cons.injEq,and_true,Value.int.injEq,true_and,Value.bool.injEq]
      exact⟨by omega,(decide_eq_true hne).symm,rfl⟩
    ·refine aDT ?_
     refine⟨rfl,?_⟩
     exact⟨by rw[aAI],oh⟩
  ·refine aDR (fun hc=>absurd hc (by omega)) (fun c120=>?_)
   refine aD1 [5,6,10,11,55,56,57,58,59,60,61,62,63,64,65,66,67,68,69,70,71,72,73,74,75,76,77,78,79,80] [5,6,10] (fun vs hh=>∃(i:Nat),i≤s.length∧vs=[.int .i64 (s.length+nS (s.take i):Nat),.bool (decide (nS (s.take i)≠0)),.int .i64 i]∧Own h [] hh) (fun vs _=>match vs with|[_,_,.int _ i]=>s.length - i.toNat|_=>0) ?_ ?_
   ·exact⟨0,by omega,rfl,o0⟩
   ·rintro vs junk hh ⟨i,hi,rfl,oh⟩
    have hnl:nS (s.take i)≤s.length:=aEm List.countP_le_length (by simp;omega);by_cases hlt:i<s.length
    ·obtain⟨c,hcx⟩:=getx hlt
     have hn1:=nS_take hcx
     rcases tab_at hv hw hx c with ⟨hf,he⟩|⟨hf,ga,gc,he,_⟩
     ·have hcell:=hcs c
      rw[he]at hcell
      have hc256:=c.toNat_lt
      rw[hf]at hn1
      simp only[aEd,if_false,aEU]at hn1
      refine rR (aDA rfl cX ?_);refine aDR (fun c131=>?_) (fun hc=>absurd (by omega) hc);refine rR (aDw rfl rfl cX (by omega) ‹_› ?_);refine rR (nC rfl ?_);refine rR (fA iS rfl rfl rfl ?_);refine rR (aDx eN.arr eN.el rfl rfl (by omega) (by omega) ?_);refine rR (load1 mZ rfl (oh.old hcell) ?_);refine rR (neNil gP rfl rfl ?_);refine aDT ?_;refine aDY (by omega) (by omega) ?_
      refine⟨rfl,?_⟩
      exact⟨⟨i+1,by omega,by rw[hn1];rfl,oh⟩,by simp;omega⟩
     ·have hcell:=hcs c
      rw[he]at hcell
      have hc256:=c.toNat_lt
      rw[hf]at hn1
      simp only[if_true]at hn1
      refine rR (aDA rfl cX ?_);refine aDR (fun c151=>?_) (fun hc=>absurd (by omega) hc);refine rR (aDw rfl rfl cX (by omega) ‹_› ?_);refine rR (nC rfl ?_);refine rR (fA iS rfl rfl rfl ?_);refine rR (aDx eN.arr eN.el rfl rfl (by omega) (by omega) ?_);refine rR (load1 mZ rfl (oh.old hcell) ?_);refine rR (neNil gP rfl rfl ?_);refine Br.ttE (by first|omega|(simp;done)) ?_;refine rR (nC rfl ?_);refine rR (fA iS rfl rfl rfl ?_);refine rR (aDx eN.arr eN.el rfl rfl (by omega) (by omega) ?_);refine rR (load1 mZ rfl (oh.old hcell) ?_);refine rR (aDn rfl gP ?_);refine aDY (by omega) (by omega) ?_;refine aDY (by omega) (by omega) ?_;refine aDY (by omega) (by omega) ?_
      refine⟨rfl,?_⟩
      refine⟨⟨i+1,by omega,?_,oh⟩,by simp;omega⟩
      rw[hn1]
      simp only[List.cons.injEq,and_true,Value.int.injEq,true_and,Value.bool.injEq]
      exact⟨by omega,(decide_eq_true (by omega)).symm,rfl⟩
    ·have e1:s.take i=s:=aEk (by omega)
     rw[e1]
     refine rR (aDA rfl cX ?_);refine aDR (fun hc=>absurd hc (by omega)) (fun c181=>?_)
     refine⟨rfl,?_⟩
     exact⟨rfl,oh⟩
 ·rintro vs junk hh ⟨rfl,oh⟩
  by_cases hz:nS s=0
  ·rw[aCo s hz]
   refine aDp (fun c220=>?_) (fun hc=>absurd hc (by first|omega|assumption|decide|exact rfl));refine aDZ rfl ?_
   exact⟨rfl,oh⟩
  ·refine aDp (fun hc=>absurd (by first|omega|assumption|decide|exact rfl) hc) (fun c240=>?_)
   (refine RunVC.make oh gP ty5 rfl rfl (by omega) (by omega) (by omega) ?_;intro b241 m241 o241);have hel:=aA7 s;refine aD1 [13,14,15,86,87,88,89,90,91,92,93,94,95,96,97,98,99,100,101,102,103,104,105,106,107,108,109,110,111,112,113,114,115,116,117,118,119] [13,14] (fun vs hh=>∃(i:Nat),i≤s.length∧vs=[.int .i64 ((fM (s.take i)).length:Nat),.int .i64 i]∧Own h [box b241 (bytes (fM (s.take i))++List.replicate (s.length+nS s - (fM (s.take i)).length) (.int .u8 0)) 5] hh) (fun vs _=>match vs with|[_,.int _ i]=>s.length - i.toNat|_=>0) ?_ ?_
   ·rw[Int.toNat_natCast]at o241
    exact⟨0,by omega,rfl,by simpa[fM,bytes] using o241⟩
   ·rintro vs junk h3 ⟨i,hi,rfl,o3⟩
    have hle:=wB s i;have hbl:(bytes (fM (s.take i))).length=(fM (s.take i)).length:=by simp[bytes]
    by_cases hlt:i<s.length
    ·obtain⟨c,hcx⟩:=getx hlt
     have ht1:=escS_take hcx;have hle1:=wB s (i+1);have hc256:=c.toNat_lt
     rw[ht1,aD9]at hle1
     rcases tab_at hv hw hx c with ⟨hf,he⟩|⟨hf,ga,gc,he,hA⟩
     ·have hcell:=hcs c
      rw[he]at hcell
      have hl1:(uN c).length=1:=by rw[qS hf];rfl
      generalize hoff:(fM (s.take i)).length=off at *
      refine rR (aDA rfl cX ?_);refine aDR (fun c251=>?_) (fun hc=>absurd (by omega) hc);refine rR (aDw rfl rfl cX (by omega) ‹_› ?_);refine rR (nC rfl ?_);refine rR (fA iS rfl rfl rfl ?_);refine rR (aDx eN.arr eN.el rfl rfl (by omega) (by omega) ?_);refine rR (load1 mZ rfl (o3.old hcell) ?_);refine rR (neNil gP rfl rfl ?_);refine aDT ?_;refine rR (idxB o3 0 rfl gP ty5 rfl rfl (by omega) (by first|omega|(simp;omega)) ?_);(refine aDN o3 0 rfl ty5 rfl (by first|omega|(simp;omega)) (aI ⟨rfl,rfl⟩ ?_);intro m259 o259);refine aDY (by omega) (by omega) ?_;refine aDY (by omega) (by omega) ?_
      refine⟨rfl,?_⟩
      refine⟨⟨i+1,by omega,by rw[ht1,aD9,hl1,hoff];rfl,?_⟩,by simp;omega⟩
      have hfill:=fillSet (fM (s.take i)) c (s.length+nS s) (by omega)
      rw[hoff]at hfill
      rw[ht1,qS hf,← hfill]
      assumption
     ·have hcell:=hcs c
      rw[he]at hcell
      have hl2:(uN c).length=2:=by rw[aA8,hf];rfl
      generalize hoff:(fM (s.take i)).length=off at *
      have hbl2:(bytes (uN c)).length=2:=by simp[bytes,hl2]
      refine rR (aDA rfl cX ?_);refine aDR (fun c301=>?_) (fun hc=>absurd (by omega) hc);refine rR (aDw rfl rfl cX (by omega) ‹_› ?_);refine rR (nC rfl ?_);refine rR (fA iS rfl rfl rfl ?_);refine rR (aDx eN.arr eN.el rfl rfl (by omega) (by omega) ?_);refine rR (load1 mZ rfl (o3.old hcell) ?_);refine rR (neNil gP rfl rfl ?_);refine Br.ttE (by first|omega|(simp;done)) ?_;refine aDU [0,1,2,3,4,5,6,7,8,11,12] [9] [10] [0,1,2,3,4,5,6,7,8,9,10,11,12] mixed (by kernel_rfl) rfl (fun _ _ _ _ h=>h) ?_;refine sliceFB gP ty5 rfl rfl (by omega) (by omega) (by omega) ?_;refine nC rfl ?_;refine fA iS rfl rfl rfl ?_;refine aDx eN.arr eN.el rfl rfl (by omega) (by omega) ?_;refine load1 mZ rfl (o3.old hcell) ?_;(refine RunVC.copyB o3 0 rfl gP ty5 rfl (hA.ext o3.ext) (by first|omega|(simp;done)|(simp;omega)) (by first|omega|(simp;omega)) (by first|omega|(simp;omega)) (by simp[Value.oneCell']) ?_;intro m314 o314);refine aDY (by omega) (by omega) ?_;refine aDY (by omega) (by omega) ?_
      refine⟨rfl,?_⟩
      refine⟨⟨i+1,by omega,by rw[ht1,aD9,hl2,hbl2,hoff];rfl,?_⟩,by simp;omega⟩
      have hfill:=fillCopy (fM (s.take i)) (uN c) (s.length+nS s) (by omega)
      rw[hoff,hl2]at hfill
      rw[ht1,← hfill]
      rw[hbl2]at *
      assumption
    ·have e1:s.take i=s:=aEk (by omega)
     rw[e1,hel,Nat.sub_self,List.replicate_zero,aEb]at o3
     refine rR (aDA rfl cX ?_);refine aDR (fun hc=>absurd hc (by omega)) (fun c351=>?_);refine rR (aDK (l:=fM s) (Own.boxArr o3 0 rfl (by rw[Int.toNat_natCast];simp[bytes,hel]) (aEf _)) gP int5 cX ?_);refine aDZ rfl ?_
     exact⟨rfl,o3.sel [] rfl⟩
def RepF (cs2:aVs)(L2:List Item):Prop:=∃ rb cs t v w x,RepC cs t (aCO v w x)∧cs2=[.int .u32 0,.int .i32 1,.int .u32 0,.iface 250 (pA rb 0),vR] ∧
 L2=[box rb cs 249,row t 9 1 3 [iP [10],iP [92],iP [34]],ro v (bytes [92,110]),ro w (bytes [92,92]),ro x (bytes [92,34])]
theorem aCN (b:Nat)(a:Option Addr)(c:Nat)(B:Base)(s:aBs)(h:Heap)(hl:s.length≤1000000)
  (o0:Own B [box b (aAv a c) 220,row (.slice a 6 c) 9 1 6 gU] h) :
  cK Tryz.prog 148 [pA b 0,.string ⟨⟨s⟩⟩] h fun r h'=>r=.string ⟨⟨fM s⟩⟩∧Own B [] h':=by
 refine aDX Tryz.func148 rfl Tryz.ntmps148 (by kernel_rfl) ?_;refine rR (nC rfl ?_);refine rR (fA aBO rfl rfl rfl ?_);refine rR (aDy ?_);refine aDV (do_spec ⟨B.h,[row (.slice a 6 c) 9 1 6 gU]++B.T⟩ b (aAv a c) (RepF) 220 166 [pA b 0] [] _ (o0.lend [0] [1] rfl) rfl rfl ?_) ?_
 ·intro h' o'
  refine(aBg B b (.int .u32 0) (.int .i32 1) (.int .u32 0) .nilIface a c h' o').mono ?_
  rintro _ h2 ⟨rfl,rb,cs,t,v,w,x,hR,o2⟩
  exact⟨rfl,_,_,⟨rb,cs,t,v,w,x,hR,rfl,rfl⟩,rfl,rfl,o2.lend [0,2,3,4,5,6] [1] rfl⟩
 ·rintro _ h1 ⟨rfl,_,_,⟨rb,cs,t,v,w,x,hR,rfl,rfl⟩,o1⟩
  have o1':Own ⟨B.h,[row (.slice a 6 c) 9 1 6 gU]++B.T⟩ [box b [.int .u32 1,.int .i32 0,.int .u32 0,.iface 250 (pA rb 0),vR] 220,box rb cs 249,row t 9 1 3 [iP [10],iP [92],iP [34]],ro v (bytes [92,110]),ro w (bytes [92,92]),ro x (bytes [92,34])] h1:=o1;clear o1;refine rR (nC rfl ?_);refine rR (fA aBO rfl rfl rfl ?_);refine rR (aDe o1' 0 rfl ty218 rfl rfl ?_);refine RunVC.invokeR (g:=249) (full:=[pA rb 0,.string ⟨⟨s⟩⟩]) rfl (fun w=>by kernel_rfl) (aBh rb t v w x s _ hl ?_ ?_ (o1'.rowArr 2 rfl) (o1'.roArr 3 rfl) (o1'.roArr 4 rfl) (o1'.roArr 5 rfl)) ?_
  ·exact(o1'.cellB 1 rfl _).trans hR.last
  ·exact fun i hi=>(o1'.cellB 1 rfl _).trans (hR.at_ i hi)
  ·rintro _ h2 ⟨rfl,o2⟩
   refine aDZ rfl ?_
   refine⟨rfl,?_⟩
   have o3:=(o1'.sel [] rfl).ext' o2;exact Own.sel (L:=[row (.slice a 6 c) 9 1 6 gU]) o3 [] rfl
theorem jL (B:Base)(b:Nat)(p v:Value)(k:Int)(bs:aBs)(x:Vl)(h:Heap)(hp:cW b p)(hT:kJ B.h)
  (o:Own B [box b [p,v,.int .i64 k] 58,row v 5 1 bs.length (bytes bs)] h) (hl:bs.length≤50000000000000) (ht:x.t.length≤1000000000000000) (hn:-9223372036854775808≤x.n∧x.n≤9223372036854775807) (hk:0≤k∧k≤50000000000000) :
  Spec Tryz.prog 123 [.pointer (some ⟨b,0,none⟩),.agg ⟨[.int .i64 x.k,.int .i64 x.n,.string ⟨⟨x.t⟩⟩]⟩] h (WEnds B b bs k 450 (bT x)):=by
 refine aDX Tryz.func123 rfl Tryz.ntmps123 (by kernel_rfl) ?_;by_cases h0:x.k=0
 ·(refine aDz o rfl ?_;intro b10 m10 o10)
  refine rR (aDi o10 2 rfl bW rfl rfl rfl ?_);(refine aDP o10 bW ?_;intro b12 m12 o12);(refine aDh o12 3 rfl bW rfl (by decide) (aI ⟨rfl,rfl⟩ ?_);intro m13 o13);refine rR (fA eJ rfl rfl rfl ?_);(refine aDN o13 3 rfl aY rfl (by simp) (aI ⟨rfl,rfl⟩ ?_);intro m15 o15);refine rR (fA eJ rfl rfl rfl ?_);refine rR (aDe o15 2 rfl aY rfl rfl ?_);refine aDR (fun c18=>?_) (fun hc=>absurd (by omega) hc);refine rR (nC rfl ?_);refine rR (fA bS rfl rfl rfl ?_);(refine aDO o15 aJ aO rfl rfl (by decide) (aI rfl ?_);intro b21 m21 o21);refine aH [[32,110,117,108,108]] 1 30 [2,3] (i:=4) ‹_› rfl rfl rfl hp rfl (by omega) (by omega) (by simp) (by omega) (by omega) (fun p1 v1 bs1 k1 m1 hp1 hb1 hk1 hl1 oq=>?_);have o1:=oq
  simp only[pick,lgS,lgZ]at o1
  clear oq;refine rR (aDi o1 3 rfl bW rfl rfl rfl ?_);refine rR (aDl eJ ?_);refine rR (eqS rE rfl rfl rfl rfl ?_);refine aDj ‹_› (aE _ _) (fun e1 m2 _ oq=>?_) fun e1 m2 oq=>?_
  ·simp at e1
   have hq:bT x=some [aD [32] [110,117,108,108]]:=by unfold bT;rw[if_pos h0,if_pos e1]
   refine aD0 rfl ?_;exact aD3 hq (oq.sel [0,1] rfl) hp1 (by rw[hb1];rfl) hk1 (by omega) (by omega)
  ·simp at e1
   have hq:bT x=none:=by unfold bT;rw[if_pos h0,if_neg (by rintro⟨a,b⟩;exact e1 a b)]
   exact⟨hq,rfl,oq⟩
 by_cases h4:x.k=4
 ·by_cases hmx:x.n=9223372036854775807
  ·(refine aDz o rfl ?_;intro b50 m50 o50)
   refine rR (aDi o50 2 rfl bW rfl rfl rfl ?_);(refine aDP o50 bW ?_;intro b52 m52 o52);(refine aDh o52 3 rfl bW rfl (by decide) (aI ⟨rfl,rfl⟩ ?_);intro m53 o53);refine rR (fA eJ rfl rfl rfl ?_);(refine aDN o53 3 rfl aY rfl (by simp) (aI ⟨rfl,rfl⟩ ?_);intro m55 o55);refine rR (fA eJ rfl rfl rfl ?_);refine rR (aDe o55 2 rfl aY rfl rfl ?_);refine aDR (fun hc=>absurd hc (by omega)) (fun c58=>?_);refine aDR (fun hc=>absurd hc (by omega)) (fun c59=>?_);refine aDR (fun hc=>absurd hc (by omega)) (fun c60=>?_);refine aDR (fun hc=>absurd hc (by omega)) (fun c61=>?_);refine aDR (fun c62=>?_) (fun hc=>absurd (by omega) hc);refine rR (fA eJ rfl rfl rfl ?_);(refine aDN o55 3 rfl aY rfl (by simp) (aI ⟨rfl,rfl⟩ ?_);intro m64 o64);refine aDU [0,1,2,3,5] [4] [7,8,9] [0,1,2,3,4,5,6,7,8,9] mixed (by kernel_rfl) rfl (fun _ _ _ _ h=>h) ?_;refine nC rfl ?_;refine fA bS rfl rfl rfl ?_;refine fA eJ rfl rfl rfl ?_;refine aDe o64 2 rfl aY rfl rfl ?_;refine Ar.i64n (m:=-9223372036854775808) (by decide) (by decide) (by omega) ?_;(refine aDO (Own.refl _) aJ aO rfl rfl (by decide) (aI rfl ?_);intro b55 m55 o55);(refine aI o55.ext ?_;have o56:=Own.call o64 o55;simp only[lcA,lnA]at o56;clear o55);refine aDj ‹_› (eE _ [[102,97,108,115,101],[116,114,117,101]] _ _ (by omega) (by omega) (Own.boxArr ‹_› 4 rfl rfl (by decide)) (by simp) (by simp)) (fun e1 m2 _ oq=>by cases e1) fun e1 m2 oq=>?_;have hq:bT x=none:=by unfold bT;rw[if_neg h0,if_neg (by omega),if_neg (by omega),if_neg (by omega),if_pos h4,if_neg (by omega)]
   exact⟨hq,rfl,oq⟩
  ·(refine aDz o rfl ?_;intro b60 m60 o60)
   refine rR (aDi o60 2 rfl bW rfl rfl rfl ?_);(refine aDP o60 bW ?_;intro b62 m62 o62);(refine aDh o62 3 rfl bW rfl (by decide) (aI ⟨rfl,rfl⟩ ?_);intro m63 o63);refine rR (fA eJ rfl rfl rfl ?_);(refine aDN o63 3 rfl aY rfl (by simp) (aI ⟨rfl,rfl⟩ ?_);intro m65 o65);refine rR (fA eJ rfl rfl rfl ?_);refine rR (aDe o65 2 rfl aY rfl rfl ?_);refine aDR (fun hc=>absurd hc (by omega)) (fun c68=>?_);refine aDR (fun hc=>absurd hc (by omega)) (fun c69=>?_);refine aDR (fun hc=>absurd hc (by omega)) (fun c70=>?_);refine aDR (fun hc=>absurd hc (by omega)) (fun c71=>?_);refine aDR (fun c72=>?_) (fun hc=>absurd (by omega) hc);refine rR (fA eJ rfl rfl rfl ?_);(refine aDN o65 3 rfl aY rfl (by simp) (aI ⟨rfl,rfl⟩ ?_);intro m74 o74);refine aDU [0,1,2,3,5] [4] [7,8,9] [0,1,2,3,4,5,6,7,8,9] mixed (by kernel_rfl) rfl (fun _ _ _ _ h=>h) ?_;refine nC rfl ?_;refine fA bS rfl rfl rfl ?_;refine fA eJ rfl rfl rfl ?_;refine aDe o74 2 rfl aY rfl rfl ?_;refine aDY (by omega) (by omega) ?_;(refine aDO (Own.refl _) aJ aO rfl rfl (by decide) (aI rfl ?_);intro b79 m79 o79);(refine aI o79.ext ?_;have o80:=Own.call o74 o79;simp only[lcA,lnA]at o80;clear o79);refine aDj ‹_› (eE _ [[102,97,108,115,101],[116,114,117,101]] _ _ (by omega) (by omega) (Own.boxArr ‹_› 4 rfl rfl (by decide)) (by simp) (by simp)) (fun e1 m2 _ oq=>?_) fun e1 m2 oq=>?_
   ·have e1:=of_decide_eq_true e1
    simp only[aEa,aEr]at e1
    have hw:([[102,97,108,115,101],[116,114,117,101]]:List aBs).getD (x.n+1 - 1).toNat []=(if x.n=0 then[102,97,108,115,101] else[116,114,117,101]):=by
     by_cases hz:x.n=0
     ·rw[hz];rfl
     ·have:x.n=1:=by omega
      rw[this];rfl
    rw[hw]
    have hwl:((if x.n=0 then[102,97,108,115,101] else[116,114,117,101]):aBs).length≤5:=by split<;>simp
    generalize hW:((if x.n=0 then[102,97,108,115,101] else[116,114,117,101]):aBs)=W at hwl
    (refine aDO oq aJ aO rfl rfl (by decide) (aI rfl ?_);intro b70 m70 o70);refine aH [32::W] 1 30 [2,3] (i:=5) ‹_› rfl rfl rfl hp rfl (by omega) (by omega) (by simp;omega) (by omega) (by omega) (fun p1 v1 bs1 k1 m1 hp1 hb1 hk1 hl1 oq=>?_);have o1:=oq
    simp only[pick,lgS,lgZ]at o1
    clear oq;refine rR (aDi o1 3 rfl bW rfl rfl rfl ?_);refine rR (aDl eJ ?_);refine rR (eqS rE rfl rfl rfl rfl ?_);refine aDj ‹_› (aE _ _) (fun e2 m2 _ oq=>?_) fun e2 m2 oq=>?_
    ·simp at e2
     have hq:bT x=some [aD [32] W]:=by unfold bT;rw[if_neg h0,if_neg (by omega),if_neg (by omega),if_neg (by omega),if_pos h4,if_pos ⟨e2,by omega⟩,hW]
     refine aD0 rfl ?_;exact aD3 hq (oq.sel [0,1] rfl) hp1 (by rw[hb1];simp[bK,gE,wr,aD]) hk1 (by omega) (by omega)
    ·simp at e2
     have hq:bT x=none:=by unfold bT;rw[if_neg h0,if_neg (by omega),if_neg (by omega),if_neg (by omega),if_pos h4,if_neg (by rintro⟨a,_⟩;exact e2 a)]
     exact⟨hq,rfl,oq⟩
   ·have e1:=of_decide_eq_false e1
    simp only[aEa,aEr]at e1
    have hq:bT x=none:=by unfold bT;rw[if_neg h0,if_neg (by omega),if_neg (by omega),if_neg (by omega),if_pos h4,if_neg (by omega)]
    exact⟨hq,rfl,oq⟩
 by_cases h3:x.k=3
 ·(refine aDz o rfl ?_;intro b100 m100 o100)
  refine rR (aDi o100 2 rfl bW rfl rfl rfl ?_);(refine aDP o100 bW ?_;intro b102 m102 o102);(refine aDh o102 3 rfl bW rfl (by decide) (aI ⟨rfl,rfl⟩ ?_);intro m103 o103);refine rR (fA eJ rfl rfl rfl ?_);(refine aDN o103 3 rfl aY rfl (by simp) (aI ⟨rfl,rfl⟩ ?_);intro m105 o105);refine rR (fA eJ rfl rfl rfl ?_);refine rR (aDe o105 2 rfl aY rfl rfl ?_);refine aDR (fun hc=>absurd hc (by omega)) (fun c108=>?_);refine aDR (fun hc=>absurd hc (by omega)) (fun c109=>?_);refine aDR (fun hc=>absurd hc (by omega)) (fun c110=>?_);refine aDR (fun c111=>?_) (fun hc=>absurd (by omega) hc);refine rR (fA eJ rfl rfl rfl ?_);(refine aDN o105 3 rfl aY rfl (by simp) (aI ⟨rfl,rfl⟩ ?_);intro m113 o113);refine aDU [0,1,2,3] [4] [5,6,7] [0,1,2,3,4,5,6,7] mixed (by kernel_rfl) rfl (fun _ _ _ _ h=>h) ?_;refine nC rfl ?_;refine fA bS rfl rfl rfl ?_;refine fA eJ rfl rfl rfl ?_;refine aDe o113 2 rfl aY rfl rfl ?_;refine aDj ‹_› (bN x.n _ hn.1 hn.2 (hT.ext (Own.ext ‹_›))) (fun e1 m2 _ oq=>?_) fun e1 m2 oq=>?_
  ·have hil:=cB e1
   (refine aDO oq aJ aO rfl rfl (by decide) (aI rfl ?_);intro b110 m110 o110);refine aH [[32,64],Lib.itoa x.n] 2 30 [2,3] (i:=4) ‹_› rfl rfl rfl hp rfl (by omega) (by omega) (by simp;omega) (by omega) (by omega) (fun p1 v1 bs1 k1 m1 hp1 hb1 hk1 hl1 oq=>?_);have o1:=oq
   simp only[pick,lgS,lgZ]at o1
   clear oq;refine rR (aDi o1 3 rfl bW rfl rfl rfl ?_);refine rR (aDl eJ ?_);refine rR (eqS rE rfl rfl rfl rfl ?_);refine aDj ‹_› (aE _ _) (fun e2 m2 _ oq=>?_) fun e2 m2 oq=>?_
   ·simp at e2
    have hq:bT x=some [aL [32] [64],bU [] x.n]:=by unfold bT;rw[if_neg h0,if_neg (by omega),if_neg (by omega),if_pos h3,if_pos ⟨e2,e1⟩]
    refine aD0 rfl ?_;exact aD3 hq (oq.sel [0,1] rfl) hp1 (by rw[hb1];simp[bK,gE,wr,aL,bU]) hk1 (by omega) (by omega)
   ·simp at e2
    have hq:bT x=none:=by unfold bT;rw[if_neg h0,if_neg (by omega),if_neg (by omega),if_pos h3,if_neg (by rintro⟨a,_⟩;exact e2 a)]
    exact⟨hq,rfl,oq⟩
  ·have hq:bT x=none:=by unfold bT;rw[if_neg h0,if_neg (by omega),if_neg (by omega),if_pos h3,if_neg (by rintro⟨_,e⟩;rw[e1]at e;cases e)]
   exact⟨hq,rfl,oq⟩
 by_cases h2:x.k=2
 ·by_cases hneg:x.n<0
  ·(refine aDz o rfl ?_;intro b140 m140 o140)
   refine rR (aDi o140 2 rfl bW rfl rfl rfl ?_);(refine aDP o140 bW ?_;intro b142 m142 o142);(refine aDh o142 3 rfl bW rfl (by decide) (aI ⟨rfl,rfl⟩ ?_);intro m143 o143);refine rR (fA eJ rfl rfl rfl ?_);(refine aDN o143 3 rfl aY rfl (by simp) (aI ⟨rfl,rfl⟩ ?_);intro m145 o145);refine rR (fA eJ rfl rfl rfl ?_);refine rR (aDe o145 2 rfl aY rfl rfl ?_);refine aDR (fun hc=>absurd hc (by omega)) (fun c148=>?_);refine aDR (fun hc=>absurd hc (by omega)) (fun c149=>?_);refine aDR (fun c150=>?_) (fun hc=>absurd (by omega) hc);refine rR (fA eJ rfl rfl rfl ?_);(refine aDN o145 3 rfl aY rfl (by simp) (aI ⟨rfl,rfl⟩ ?_);intro m152 o152);refine rR (fA eJ rfl rfl rfl ?_);refine rR (aDe o152 2 rfl aY rfl rfl ?_);refine aDR (fun c155=>?_) (fun hc=>absurd (by omega) hc);refine rR (fA eJ rfl rfl rfl ?_);refine rR (aDe o152 2 rfl aY rfl rfl ?_);refine aDj ‹_› (aE _ _) (fun e1 m2 _ oq=>?_) fun e1 m2 oq=>?_
   ·have e1:=of_decide_eq_true e1
    refine aDU [0,1,2,3,5] [4] [6,7,8] [0,1,2,3,4,5,6,7,8] mixed (by kernel_rfl) rfl (fun _ _ _ _ h=>h) ?_;refine nC rfl ?_;refine fA bS rfl rfl rfl ?_;refine fA eJ rfl rfl rfl ?_;refine aDe oq 2 rfl aY rfl rfl ?_;refine aDY (by omega) (by omega) ?_;have hno:jC (-x.n)=true:=decide_eq_true (by omega)
    rw[Int.zero_sub]
    refine aDj ‹_› (bN _ _ (by omega) (by omega) (hT.ext (Own.ext ‹_›))) (fun e2 m3 _ oq=>?_) fun e2 m3 oq=>?_
    ·have hil:=cB hno
     (refine aDO oq aJ aO rfl rfl (by decide) (aI rfl ?_);intro b160 m160 o160);refine aH [[32,45],Lib.itoa (-x.n)] 2 30 [2,3] (i:=4) ‹_› rfl rfl rfl hp rfl (by omega) (by omega) (by simp;omega) (by omega) (by omega) (fun p1 v1 bs1 k1 m1 hp1 hb1 hk1 hl1 oq=>?_);have o1:=oq
     simp only[pick,lgS,lgZ]at o1
     clear oq;refine rR (aDi o1 3 rfl bW rfl rfl rfl ?_);refine rR (aDl eJ ?_);refine rR (eqS rE rfl rfl rfl rfl ?_);refine aDj ‹_› (aE _ _) (fun e2 m2 _ oq=>?_) fun e2 m2 oq=>?_
     ·simp at e2
      have hq:bT x=some [aL [32] [45],bU [] (-x.n)]:=by unfold bT;rw[if_neg h0,if_neg (by omega),if_pos h2,if_pos ⟨e2,by omega⟩,if_pos hneg]
      refine aD0 rfl ?_;exact aD3 hq (oq.sel [0,1] rfl) hp1 (by rw[hb1];simp[bK,gE,wr,aL,bU]) hk1 (by omega) (by omega)
     ·simp at e2
      have hq:bT x=none:=by unfold bT;rw[if_neg h0,if_neg (by omega),if_pos h2,if_neg (by rintro⟨a,_⟩;exact e2 a)]
      exact⟨hq,rfl,oq⟩
    ·rw[hno]at e2
     cases e2
   ·have e1:=of_decide_eq_false e1
    have hq:bT x=none:=by unfold bT;rw[if_neg h0,if_neg (by omega),if_pos h2,if_neg (by omega)]
    exact⟨hq,rfl,oq⟩
  ·(refine aDz o rfl ?_;intro b200 m200 o200)
   refine rR (aDi o200 2 rfl bW rfl rfl rfl ?_);(refine aDP o200 bW ?_;intro b202 m202 o202);(refine aDh o202 3 rfl bW rfl (by decide) (aI ⟨rfl,rfl⟩ ?_);intro m203 o203);refine rR (fA eJ rfl rfl rfl ?_);(refine aDN o203 3 rfl aY rfl (by simp) (aI ⟨rfl,rfl⟩ ?_);intro m205 o205);refine rR (fA eJ rfl rfl rfl ?_);refine rR (aDe o205 2 rfl aY rfl rfl ?_);refine aDR (fun hc=>absurd hc (by omega)) (fun c208=>?_);refine aDR (fun hc=>absurd hc (by omega)) (fun c209=>?_);refine aDR (fun c210=>?_) (fun hc=>absurd (by omega) hc);refine rR (fA eJ rfl rfl rfl ?_);(refine aDN o205 3 rfl aY rfl (by simp) (aI ⟨rfl,rfl⟩ ?_);intro m212 o212);refine rR (fA eJ rfl rfl rfl ?_);refine rR (aDe o212 2 rfl aY rfl rfl ?_);refine aDR (fun hc=>absurd hc (by omega)) (fun c215=>?_);refine aDU [0,1,2,3,6] [4] [5,7,8] [0,1,2,3,4,5,6,7,8] mixed (by kernel_rfl) rfl (fun _ _ _ _ h=>h) ?_;refine nC rfl ?_;refine fA bS rfl rfl rfl ?_;refine fA eJ rfl rfl rfl ?_;refine aDe o212 2 rfl aY rfl rfl ?_;refine aDj ‹_› (bN _ _ (by omega) (by omega) (hT.ext (Own.ext ‹_›))) (fun e2 m3 _ oq=>?_) fun e2 m3 oq=>?_
   ·have hil:=cB e2
    have hnn:=of_decide_eq_true e2;refine aDm rfl rfl (by first|omega|(simp;omega)) ?_;(refine aDO oq aJ aO rfl rfl (by decide) (aI rfl ?_);intro b211 m211 o211);refine aH [[32]++Lib.itoa x.n] 1 30 [2,3] (i:=4) ‹_› rfl rfl rfl hp rfl (by omega) (by omega) (by simp;omega) (by omega) (by omega) (fun p1 v1 bs1 k1 m1 hp1 hb1 hk1 hl1 oq=>?_);have o1:=oq
    simp only[pick,lgS,lgZ]at o1
    clear oq;refine rR (aDi o1 3 rfl bW rfl rfl rfl ?_);refine rR (aDl eJ ?_);refine rR (eqS rE rfl rfl rfl rfl ?_);refine aDj ‹_› (aE _ _) (fun e2 m2 _ oq=>?_) fun e2 m2 oq=>?_
    ·simp at e2
     have hq:bT x=some [bU [32] x.n]:=by unfold bT;rw[if_neg h0,if_neg (by omega),if_pos h2,if_pos ⟨e2,by omega⟩,if_neg hneg]
     refine aD0 rfl ?_;exact aD3 hq (oq.sel [0,1] rfl) hp1 (by rw[hb1];simp[bK,gE,wr,bU]) hk1 (by omega) (by omega)
    ·simp at e2
     have hq:bT x=none:=by unfold bT;rw[if_neg h0,if_neg (by omega),if_pos h2,if_neg (by rintro⟨a,_⟩;exact e2 a)]
     exact⟨hq,rfl,oq⟩
   ·have hnn:=of_decide_eq_false e2
    have hq:bT x=none:=by unfold bT;rw[if_neg h0,if_neg (by omega),if_pos h2,if_neg (by omega)]
    exact⟨hq,rfl,oq⟩
 by_cases h1:x.k=1
 ·(refine aDz o rfl ?_;intro b240 m240 o240)
  refine rR (aDi o240 2 rfl bW rfl rfl rfl ?_);(refine aDP o240 bW ?_;intro b242 m242 o242);(refine aDh o242 3 rfl bW rfl (by decide) (aI ⟨rfl,rfl⟩ ?_);intro m243 o243);refine rR (fA eJ rfl rfl rfl ?_);(refine aDN o243 3 rfl aY rfl (by simp) (aI ⟨rfl,rfl⟩ ?_);intro m245 o245);refine rR (fA eJ rfl rfl rfl ?_);refine rR (aDe o245 2 rfl aY rfl rfl ?_);refine aDR (fun hc=>absurd hc (by omega)) (fun c248=>?_);refine aDR (fun c249=>?_) (fun hc=>absurd (by omega) hc);refine rR (fA eJ rfl rfl rfl ?_);refine rR (aDe o245 2 rfl aO rfl rfl ?_);refine rR (aDA rfl cX ?_);refine aDj ‹_› (aE _ _) (fun e1 m2 _ oq=>?_) fun e1 m2 oq=>?_
  ·have e1:=of_decide_eq_true e1
   refine rR (fA eJ rfl rfl rfl ?_);(refine aDN oq 3 rfl aO rfl (by simp) (aI ⟨rfl,rfl⟩ ?_);intro m251 o251);refine DrawVC.introB b240 [0,1,2,5,8,9] [6] [7,10,11] [0,1,2,5,6,3,4,7,8,9,10,11] mixed (by kernel_rfl) rfl (fun _ _ _ _ h=>h) ?_;refine nC rfl ?_;refine fA bS rfl rfl rfl ?_;refine fA eJ rfl rfl rfl ?_;refine StillVCA.load1 aO rfl rfl ((o251.cellB 2 rfl _).trans rfl) ?_;(refine aDO o251 aJ aO rfl rfl (by decide) (aI rfl ?_);intro b266 m266 o266);refine aI ((o266.boxBlk 2 rfl).trans (o251.boxBlk 2 rfl).symm) ?_;refine aDV (xE _ _ (Own.boxArr ‹_› 4 rfl (n:=6) (c:=6) rfl (by decide))) ?_;rintro _ h2 ⟨rb,ra,rc,rfl,ob⟩;have o2:=Own.call (B:=B) ‹_› ob
   simp only[lcA,lnA]at o2
   clear ob;refine aI ((o2.boxBlk 2 rfl).trans (o266.boxBlk 2 rfl).symm) ?_;refine aDV (aCN rb ra rc _ x.t _ (by omega) (o2.lend [5,6] [0,1,2,3] rfl)) ?_;rintro _ h3 ⟨rfl,oc⟩;have o3:=oc.back;clear oc o2
   simp only[pick,lgS,lgZ,lnA]at o3
   have hel:=escS_le x.t;refine aDm rfl rfl (by first|omega|(simp;omega)) ?_;refine aDm rfl rfl (by first|omega|(simp;omega)) ?_;(refine aDO o3 aJ aO rfl rfl (by decide) (aI rfl ?_);intro b282 m282 o282);refine aH [[32,34]++fM x.t++[34]] 1 410 [2,3] (i:=4) ‹_› rfl rfl rfl hp rfl (by omega) (by omega) (by simp;omega) (by omega) (by omega) (fun p1 v1 bs1 k1 m1 hp1 hb1 hk1 hl1 oq=>?_);have o4:=oq
   simp only[pick,lgS,lgZ]at o4
   clear oq;refine rR (aDi o4 3 rfl bW rfl rfl rfl ?_);refine rR (aDl eJ ?_);refine rR (eqS rE rfl rfl rfl rfl ?_);refine aDj ‹_› (aE _ _) (fun e2 m2 _ oq=>?_) fun e2 m2 oq=>?_
   ·simp at e2
    have hq:bT x=some [txtT [32] x.t]:=by unfold bT;rw[if_neg h0,if_pos h1,if_pos ⟨e2,by omega⟩]
    refine aD0 rfl ?_;exact aD3 hq (oq.sel [0,1] rfl) hp1 (by rw[hb1];simp[bK,gE,wr,txtT]) hk1 (by omega) (by omega)
   ·simp at e2
    have hq:bT x=none:=by unfold bT;rw[if_neg h0,if_pos h1,if_neg (by rintro⟨a,_⟩;exact e2 a)]
    exact⟨hq,rfl,oq⟩
  ·have e1:=of_decide_eq_false e1
   have hq:bT x=none:=by unfold bT;rw[if_neg h0,if_pos h1,if_neg (by omega)]
   exact⟨hq,rfl,oq⟩
 ·(refine aDz o rfl ?_;intro b300 m300 o300)
  refine rR (aDi o300 2 rfl bW rfl rfl rfl ?_);(refine aDP o300 bW ?_;intro b302 m302 o302);(refine aDh o302 3 rfl bW rfl (by decide) (aI ⟨rfl,rfl⟩ ?_);intro m303 o303);refine rR (fA eJ rfl rfl rfl ?_);(refine aDN o303 3 rfl aY rfl (by simp) (aI ⟨rfl,rfl⟩ ?_);intro m305 o305);refine rR (fA eJ rfl rfl rfl ?_);refine rR (aDe o305 2 rfl aY rfl rfl ?_);refine aDR (fun hc=>absurd hc (by omega)) (fun c308=>?_);refine aDR (fun hc=>absurd hc (by omega)) (fun c309=>?_);refine aDR (fun hc=>absurd hc (by omega)) (fun c310=>?_);refine aDR (fun hc=>absurd hc (by omega)) (fun c311=>?_);refine aDR (fun hc=>absurd hc (by omega)) (fun c312=>?_);refine aDj ‹_› (aE _ _) (fun e1 m2 _ oq=>by cases e1) fun e1 m2 oq=>?_;have hq:bT x=none:=by unfold bT;rw[if_neg h0,if_neg h1,if_neg h2,if_neg h3,if_neg h4]
  exact⟨hq,rfl,oq⟩
def wA (kind:Int)(table:aBs)(vk vc vn:Value)(attr as_:aBs)(agg:Int)(z:Int):aVs :=
 [.int .i64 kind,.string ⟨⟨table⟩⟩,vk,vc,vn,.string ⟨⟨attr⟩⟩,.string ⟨⟨as_⟩⟩,.int .i64 agg,.int .i64 z]
mutual
def sS (H:Heap)(c:aVs):Ex→Prop
 | .mk kind table kids conds names attr as_ agg _=>∃ vk vc vn z,c=wA kind table vk vc vn attr as_ agg z ∧
   dS 14 H vc conds.length (conds.flatMap rG)∧dS 1 H vn names.length (names.flatMap zP)∧∃ xs:List dM,dS 9 H vk kids.length (xs.flatMap Subtype.val)∧pX H xs kids
def pX (H:Heap):List dM→List Ex→Prop
 | [],[]=>True
 | c::cs,x::xs=>sS H c.1 x∧pX H cs xs
 | _,_=>False
end
mutual
theorem sS.ext {H H':Heap}(e:Ext H H'):∀(x:Ex)(c:aVs),sS H c x→sS H' c x
 | .mk kind table kids conds names attr as_ agg off,c,h=>by
  rw[sS]at h ⊢
  obtain⟨vk,vc,vn,z,h1,h2,h3,xs,h4,h5⟩:=h
  exact⟨vk,vc,vn,z,h1,h2.ext e,h3.ext e,xs,h4.ext e,pX.ext e kids xs h5⟩
theorem pX.ext {H H':Heap}(e:Ext H H'):∀(xs:List Ex)(cs:List dM),pX H cs xs→pX H' cs xs
 | [],[],_=>trivial
 | x::xs,c::cs,h=>by
  rw[pX]at h ⊢
  exact⟨sS.ext e x c.1 h.1,pX.ext e xs cs h.2⟩
 | [],_::_,h=>(by rw[pX]at h;exact h.elim;all_goals simp)
 | _::_,[],h=>(by rw[pX]at h;exact h.elim;all_goals simp)
end
mutual
theorem mE.toH {I:Item}{H:Heap}(hI:I.sat H):∀(x:Ex)(c:aVs),mE I c x→sS H c x
 | .mk kind table kids conds names attr as_ agg off,c,h=>by
  rw[mE]at h
  rw[sS]
  obtain⟨vk,vc,vn,h1,h2,h3,xs,h4,h5⟩:=h
  exact⟨vk,vc,vn,off,h1,h2 H hI,h3 H hI,xs,h4 H hI,qP.toH hI kids xs h5⟩
theorem qP.toH {I:Item}{H:Heap}(hI:I.sat H):∀(xs:List Ex)(cs:List dM),qP I cs xs→pX H cs xs
 | [],[],_=>trivial
 | x::xs,c::cs,h=>by
  rw[qP]at h
  rw[pX]
  exact⟨mE.toH hI x c.1 h.1,qP.toH hI xs cs h.2⟩
 | [],_::_,h=>(by rw[qP]at h;exact h.elim;all_goals simp)
 | _::_,[],h=>(by rw[qP]at h;exact h.elim;all_goals simp)
end
theorem pW {H:Heap}:∀ {cs:List dM}{l:List Ex}{i:Nat}{x:Ex},pX H cs l→l[i]?=some x→∃ c,cs[i]?=some c∧sS H c.1 x
 | _,[],_,_,_,h=>by simp at h
 | c::cs,a::l,0,x,hq,h=>by simp at h;subst h;rw[pX]at hq;exact⟨c,rfl,hq.1⟩
 | c::cs,a::l,i+1,x,hq,h=>by rw[pX]at hq;exact pW (cs:=cs) (l:=l) (i:=i) hq.2 (by simpa using h)
 | [],a::l,_,_,hq,_=>by rw[pX]at hq;exact hq.elim;all_goals simp
theorem oG {H:Heap}:∀ {cs:List dM}{l:List Ex},pX H cs l→cs.length=l.length
 | [],[],_=>rfl
 | c::cs,a::l,hq=>by rw[pX]at hq;simp[oG hq.2]
 | c::cs,[],hq=>by rw[pX]at hq;exact hq.elim;all_goals simp
 | [],b::m,hq=>by rw[pX]at hq;exact hq.elim;all_goals simp
def gF (x:It)(z:Int)(vc vn vt vf vv vd:Value)(e0 e1 e2 e3 e4 e5 e6 e7 e8:Value):aVs :=
 [.int .i64 x.kind,.string ⟨⟨x.name⟩⟩,.int .i64 z,.string ⟨⟨x.table⟩⟩,.string ⟨⟨x.attr⟩⟩,vc,vn,.int .i64 x.by_,.int .i64 x.n,.int .i64 x.m,vt,.string ⟨⟨x.other⟩⟩,.string ⟨⟨x.oattr⟩⟩,vf,vv,vd,e0,e1,e2,e3,e4,e5,e6,e7,e8]
def itH (H:Heap)(c:aVs)(x:It):Prop:=∃ z vc vn vt vf vv vd e0 e1 e2 e3 e4 e5 e6 e7 e8,c=gF x z vc vn vt vf vv vd e0 e1 e2 e3 e4 e5 e6 e7 e8 ∧
 dS 5 H vc x.cols.length (x.cols.flatMap aBC)∧dS 1 H vn x.names.length (x.names.flatMap zP)∧dS 7 H vt x.terms.length (x.terms.flatMap trmC) ∧
 dS 4 H vf x.fixed.length (x.fixed.flatMap aBy)∧dS 2 H vv x.vars.length (x.vars.flatMap vrC)∧dS 14 H vd x.conds.length (x.conds.flatMap rG)∧sS H [e0,e1,e2,e3,e4,e5,e6,e7,e8] x.expr
theorem itH.ext {H H':Heap}{c:aVs}{x:It}(r:itH H c x)(e:Ext H H'):itH H' c x:=by
 obtain⟨z,vc,vn,vt,vf,vv,vd,e0,e1,e2,e3,e4,e5,e6,e7,e8,h1,h2,h3,h4,h5,h6,h7,h8⟩:=r
 exact⟨z,vc,vn,vt,vf,vv,vd,e0,e1,e2,e3,e4,e5,e6,e7,e8,h1,h2.ext e,h3.ext e,h4.ext e,h5.ext e,h6.ext e,h7.ext e,sS.ext e _ _ h8⟩
theorem itR.toH {I:Item}{H:Heap}(hI:I.sat H) {c:aVs}{x:It}(r:itR I c x):itH H c x:=by
 obtain⟨vc,vn,vt,vf,vv,vd,e0,e1,e2,e3,e4,e5,e6,e7,e8,h1,h2,h3,h4,h5,h6,h7,h8⟩:=r
 exact⟨x.off,vc,vn,vt,vf,vv,vd,e0,e1,e2,e3,e4,e5,e6,e7,e8,h1,h2 H hI,h3 H hI,h4 H hI,h5 H hI,h6 H hI,h7 H hI,mE.toH hI _ _ h8⟩
def progH (H:Heap)(v:Value)(xs:List It):Prop:=∃ cs:List lI,dS 25 H v xs.length (cs.flatMap Subtype.val)∧cs.length=xs.length∧∀(i:Nat)(x:It),xs[i]?=some x→∃ d:lI,cs[i]?=some d∧itH H d.1 x
theorem jA.toH {I:Item}{H:Heap}(hI:I.sat H) {v:Value}{xs:List It}(r:jA I v xs):progH H v xs:=by
 obtain⟨cs,h1,h2⟩:=r
 obtain⟨ds,hd,hg⟩:=qL h2
 rw[hd]at h1
 have ha:=h1 H hI;have hlen:ds.length=xs.length:=by
  have h3:=ha.1
  rw[flat_length (f:=Subtype.val) (sz:=25) (fun y:lI=>y.2)]at h3
  omega
 refine⟨ds,ha,hlen,fun i x hx=>?_⟩
 obtain⟨d,h4,h5⟩:=hg i x hx
 exact⟨d,h4,h5.toH hI⟩
def aBD (v:Vl):Prop:=(-9223372036854775808≤v.k∧v.k≤9223372036854775807)∧(-9223372036854775808≤v.n∧v.n≤9223372036854775807)∧v.t.length≤1000000000000000
def aBm (x:Opd):Prop:=x.var.length≤1000000000000000∧x.attr.length≤1000000000000000∧aBD x.val
def tC (x:Cnd):Prop:=aBm x.left∧(-9223372036854775808≤x.op∧x.op≤9223372036854775807)∧aBm x.right∧(-9223372036854775808≤x.add∧x.add≤9223372036854775807)
def aCy (x:Col):Prop:=x.name.length≤1000000000000000∧(-9223372036854775808≤x.kind∧x.kind≤9223372036854775807)∧aBD x.dflt
def aCw (x:Trm):Prop:=x.attr.length≤1000000000000000∧(-9223372036854775808≤x.measure∧x.measure≤9223372036854775807)∧(-9223372036854775808≤x.tol∧x.tol≤9223372036854775807)∧(-9223372036854775808≤x.num∧x.num≤9223372036854775807) ∧
 (-9223372036854775808≤x.den∧x.den≤9223372036854775807)∧(-9223372036854775808≤x.gives∧x.gives≤9223372036854775807)∧(-9223372036854775808≤x.takes∧x.takes≤9223372036854775807)
def aBn (x:Nmd):Prop:=x.name.length≤1000000000000000∧aBD x.val
def VrOK (x:Vr):Prop:=x.name.length≤1000000000000000∧x.table.length≤1000000000000000
mutual
def lH:Ex→Prop
 | .mk k t ks cs ns a s g _=>(-9223372036854775808≤k∧k≤9223372036854775807)∧t.length≤1000000000000000∧uB ks∧(∀ c∈cs,tC c)∧(∀ n∈ns,n.length≤1000000000000000)∧a.length≤1000000000000000∧s.length≤1000000000000000∧(-9223372036854775808≤g∧g≤9223372036854775807)∧ks.length≤1000000000000000∧cs.length≤1000000000000000∧ns.length≤1000000000000000
def uB:List Ex→Prop
 | []=>True
 | x::xs=>lH x∧uB xs
end
theorem nQ:∀ {l:List Ex}{i:Nat}{x:Ex},uB l→l[i]?=some x→lH x
 | [],_,_,_,h=>by simp at h
 | a::l,0,x,hq,h=>by simp at h;subst h;rw[uB]at hq;exact hq.1
 | a::l,i+1,x,hq,h=>by rw[uB]at hq;exact nQ (l:=l) (i:=i) hq.2 (by simpa using h)
def nM (x:It):Prop:=(-9223372036854775808≤x.kind∧x.kind≤9223372036854775807)∧x.name.length≤1000000000000000∧x.table.length≤1000000000000000∧x.attr.length≤1000000000000000∧(∀ c∈x.cols,aCy c)∧(∀ n∈x.names,n.length≤1000000000000000) ∧
 (-9223372036854775808≤x.by_∧x.by_≤9223372036854775807)∧(-9223372036854775808≤x.n∧x.n≤9223372036854775807)∧(-9223372036854775808≤x.m∧x.m≤9223372036854775807)∧(∀ t∈x.terms,aCw t)∧x.other.length≤1000000000000000∧x.oattr.length≤1000000000000000 ∧
 (∀ f∈x.fixed,aBn f)∧(∀ v∈x.vars,VrOK v)∧(∀ c∈x.conds,tC c)∧lH x.expr ∧
 x.cols.length≤1000000000000000∧x.names.length≤1000000000000000∧x.terms.length≤1000000000000000∧x.fixed.length≤1000000000000000∧x.vars.length≤1000000000000000∧x.conds.length≤1000000000000000
mutual
def fQ:Ex→Nat
 | .mk _ _ ks cs ns _ _ _ _=>1+cs.length+ns.length+gK ks
def gK:List Ex→Nat
 | []=>0
 | x::xs=>fQ x+gK xs
end
mutual
theorem exLev_le:∀(x:Ex),bZ x≤fQ x
 | .mk k t ks cs ns a s g o=>by
  have:=aCl ks
  rw[bZ,fQ]
  omega
theorem aCl:∀(xs:List Ex),cC xs≤gK xs
 | []=>aEf _
 | x::xs=>by
  have h1:=exLev_le x;have h2:=aCl xs
  rw[cC,gK]
  omega
end
def eU (x:It):Nat:=1+x.cols.length+x.names.length+x.terms.length+x.fixed.length+x.vars.length+x.conds.length+fQ x.expr
end Go.Proofs.YtohlogbnpfofpaaGreatDoor
