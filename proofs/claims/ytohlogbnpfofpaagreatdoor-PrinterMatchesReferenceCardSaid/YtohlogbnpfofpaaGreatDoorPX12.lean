/- Part 12 of the proof of matches_lifted: FnZh, FnZi, FnZc, FnZd, FnZe, FnZj, FnZk. -/
import Derived.Test.YtohlogbnpfofpaaGreatDoorPX11
set_option linter.all false
set_option maxHeartbeats 100000000
set_option maxRecDepth 100000
namespace Go.Proofs.YtohlogbnpfofpaaGreatDoor
open Go StillVC
def gC (b:aBs):List aBs->List aBs
 | []=>[]
 | x::r=>(b++x)::r.flatMap λy=>[[44],32::y]
theorem listL_step {b:aBs}{l:List aBs}{i:Nat}{x:aBs}(hx:l[i]?=some x)(hi:0<i):gC b (l.take (i+1))=gC b (l.take i)++[[44],32::x]:=by
 cases l with
 | nil=>simp at hx
 | cons a r =>
  obtain⟨j,rfl⟩:∃ j,i=j+1:=⟨i - 1,by omega⟩
  have hx':r[j]?=some x:=by simpa using hx
  simp only[aEp,gC]
  rw[aEr,hx',aEy]
  simp
theorem listL_first {b:aBs}{l:List aBs}{x:aBs}(hx:l[0]?=some x):gC b (l.take 1)=[b++x]:=by
 cases l with
 | nil=>simp at hx
 | cons a r=>simp at hx;subst hx;simp[gC]
theorem oF (b:aBs)(l:List aBs):(gC b l).length<=2*l.length:=by
 cases l with
 | nil=>simp[gC]
 | cons a r =>
  have:∀ r:List aBs,(r.flatMap λy=>[[44],32::y]).length=2*r.length:=λr=>by
   induction r with
   | nil=>rfl
   | cons y r ih=>rw[aEf,aDX,ih,aD1];simp;omega
  simp only[gC,aD1,this]
  omega
theorem uU {b:aBs}{l:List aBs}{ps:List Pc}(h:jA bN b l=some ps):txts ps=gC b l:=by
 cases l with
 | nil=>cases h;rfl
 | cons x r =>
  obtain⟨p,q,e1,e2,rfl⟩:=aN h
  obtain⟨_,rfl⟩:=bQ e1
  rw[cM]
  have key:∀(r:List aBs) (q:List Pc),aO (r.map λy=>(bN [32] y).map (aS [] [44]::·))=some q->txts q=r.flatMap λy=>[[44],32::y]:=by
   intro r
   induction r with
   | nil=>intro q e;obtain rfl:=dL e;rfl
   | cons y r ih =>
    intro q e
    rw[aEx]at e
    obtain⟨p,q',e1,e2,rfl⟩:=aN e
    cases hn:bN [32] y with
    | none=>rw[hn]at e1;cases e1
    | some pp =>
     rw[hn]at e1
     cases e1
     obtain⟨_,rfl⟩:=bQ hn
     rw[cM,ih _ e2,aEf]
     rfl
  rw[key r q e2]
  rfl
theorem rH {b:aBs}{l:List aBs}{ps:List Pc}(h:eO bN b l=some ps):txts ps=gC b l:=by
 cases l with
 | nil=>cases h
 | cons x r=>exact uU h
theorem mY (l:List aBs)(b:aBs)(va:Value)(h:Heap)(hA:Arr h va (strs l))(hl:l.length<=1000000000)(hs:∀ s∈l,s.length<=1000000000000000)(hb:b.length<=100) :
  bG Tryz.prog 44 [va,sv b] h (iR h (gC b l)):=by
 have hsl:=oO l
 obtain⟨ya,yc,hv⟩:∃ ya yc,va=.slice ya l.length yc:=by
  obtain⟨a,c,hv,_⟩:=hA
  rw[hsl]at hv
  exact⟨a,c,hv⟩
 subst hv;refine eN Tryz.func44 Tryz.ntmps44 ?_;have o0:=Own.refl h;have o1:=o0.nilRow 9 1;refine aDT [1,5,6,7,8,9,10,11,12,13,14,15,16,17,18,19,20,21,22,23,24,25,26] [1,5,6] (λws hh=>∃(i:Nat) (v:Value) (w:aBs),i<=l.length/\ws=[.string ⟨⟨w⟩⟩,v,.int .i64 i]/\(i=0->w=b)/\w.length<=100/\Own h [row v 9 1 (gC b (l.take i)).length (strs (gC b (l.take i)))] hh) (λws _=>match ws with|[_,_,.int _ i]=>l.length - i.toNat|_=>0) ?_ ?_
 ·exact⟨0,_,b,by omega,rfl,λ_=>rfl,hb,o1⟩
 rintro ws junk hh ⟨i,v,w,hi,rfl,hw,hwl,oh⟩;clear o0 o1;have hle:=oF b (l.take i)
 rw[aEC,Nat.min_eq_left hi]at hle
 by_cases hlt:i<l.length
 ·obtain⟨x,hx⟩:=getx hlt
  have hxl:=hs x (aDY hx);have hxs:(strs l)[i]?=some (sv x):=by simp[strs,hx]
  by_cases h0:i=0
  ·subst h0
   obtain rfl:=hw rfl;have e0:gC w (l.take 0)=[]:=rfl
   rw[e0]at oh
   refine lB aB ?_;refine bB λc51=>aDL ?_;refine rR (idx aB aC (hA.ext oh.ext) rfl zO zO ?_);refine rR (aDq (hA.ext oh.ext) aC rfl a_ ?_);refine rR (aDb rfl rfl (by first|omega|(simp<;>omega)) ?_);refine lA oh aB aC λb55 m55 o55=>?_;(refine aDI o55 0 rfl aB aC zD (o55.boxArr 1 rfl zS zS).toN c_ (by simp only[maxLen];first|omega|(simp<;>omega)) (by first|omega|(simp<;>omega)) ?_;intro v56 m56 o56);refine aR ?_
   refine⟨rfl,?_⟩
   refine⟨⟨1,v56,w,by omega,rfl,λh=>by omega,hwl,?_⟩,by simp;omega⟩
   rw[listL_first hx]
   exact o_ [0]
  ·refine lB aB ?_
   refine bB λc101=>bB λc102=>?_;refine lA oh aB aC λb103 m103 o103=>?_;(refine aDI o103 0 rfl aB aC zD (o103.boxArr 1 rfl zS zS).toN c_ (by simp only[maxLen];first|omega|(simp<;>omega)) (by first|omega|(simp<;>omega)) ?_;intro v104 m104 o104);refine rR (idx aB aC (hA.ext o104.ext) rfl zO zO ?_);refine rR (aDq (hA.ext o104.ext) aC rfl a_ ?_);refine rR (aDb rfl rfl (by first|omega|(simp<;>omega)) ?_);refine lA o104 aB aC λb108 m108 o108=>?_;(refine aDI o108 0 rfl aB aC zD (o108.boxArr 2 rfl zS zS).toN c_ (by simp only[maxLen];first|omega|(simp<;>omega)) (by first|omega|(simp<;>omega)) ?_;intro v109 m109 o109);refine aR ?_
   refine⟨rfl,?_⟩
   refine⟨⟨i+1,v109,[32],by omega,rfl,λh=>by omega,by simp,?_⟩,by simp;omega⟩
   have e2:gC b (l.take (i+1))=gC b (l.take i)++[[44]]++[32::x]:=by rw[listL_step hx zO];simp
   rw[e2,aDX,aDX,eF,eF]
   exact o_ [0]
 ·have e:l.take i=l:=aEa zO
  rw[e]at oh
  refine lB aB ?_;refine bA λc201=>rO ?_
  obtain⟨a',c',rfl⟩:=oh.rowIs 0 rfl
  exact⟨_,_,rfl,oh⟩
theorem qV (x:Vl)(ps:List Pc)(h:Heap)(hq:cD x=some ps):bG Tryz.prog 45 [.agg ⟨[iv x.k,iv x.n,sv x.t]⟩,sv [32]] h (iR h (txts ps)):=by
 obtain⟨k,n,t⟩:=x
 dsimp only;unfold cD at hq;dsimp only at hq;refine eN Tryz.func45 Tryz.ntmps45 ?_;have o0:=Own.refl h;by_cases k0:k=0
 ·rw[if_pos k0]at hq
  refine xB o0 λb10 m10 o10=>?_;refine fB bP ?_;refine oB o10 0 aK ?_;refine bA λc13=>bA λc14=>?_;refine bA λc15=>bA λc16=>?_;refine rR (aDb rfl rfl (by first|omega|(simp<;>omega)) ?_);refine lA o10 aB aC λb18 m18 o18=>?_;refine rO ?_;split at hq
  ·cases hq
   first|exact iR.lit (L:=[[32,110,117,108,108]]) (o_ [0]) zS|exact iR.lit (L:=[[32,110,117,108,108]]) (o_ [1]) zS|exact iR.lit (L:=[[32,110,117,108,108]]) (o_ [2]) zS
  ·cases hq
 rw[if_neg k0]at hq
 by_cases k1:k=1
 ·rw[if_pos k1]at hq
  split at hq
  ·rename_i hh
   cases hq
   refine xB o0 λb30 m30 o30=>?_;refine fB bP ?_;refine oB o30 0 aK ?_;refine bB λc33=>fB bP ?_;refine oB o30 0 aC ?_;refine aDN (aCL t _ zO) ?_;rintro _ h2 ⟨rfl,oc⟩;have o2:=oc.thenE (B:=h) zA;have hel:=aAb t;refine rR (aDb rfl rfl (by first|omega|(simp<;>omega)) ?_);refine lA o2 aB aC λb51 m51 o51=>?_;refine rO ?_
   first|exact iR.lit (L:=[[32]++([34]++kO t++[34])]) (o_ [0]) zS|exact iR.lit (L:=[[32]++([34]++kO t++[34])]) (o_ [1]) zS|exact iR.lit (L:=[[32]++([34]++kO t++[34])]) (o_ [2]) zS
  ·cases hq
 rw[if_neg k1]at hq
 by_cases k2:k=2
 ·rw[if_pos k2]at hq
  split at hq
  ·rename_i hh
   cases hq
   by_cases hn:n<0
   ·rw[if_pos hn,show -n=0 - n by omega]
    refine xB o0 λb70 m70 o70=>?_;refine fB bP ?_;refine oB o70 0 aK ?_;refine bA λc73=>bB λc74=>?_;refine fB bP ?_;refine oB o70 0 aK ?_;refine bB λc77=>?_;refine rR (aDb rfl rfl (by first|omega|(simp<;>omega)) ?_);refine fB bP ?_;refine oB o70 0 aK ?_;refine aR (aDN (fL (0 - n) _ zO zO) ?_);rintro _ h2 ⟨rfl,oc⟩;have o2:=oc.thenE (B:=h) zA;refine lA o2 aB aC λb80 m80 o80=>?_;refine rO ?_
    first|exact iR.lit (L:=[[32,45],Lib.itoa (0 - n)]) (o_ [0]) zS|exact iR.lit (L:=[[32,45],Lib.itoa (0 - n)]) (o_ [1]) zS|exact iR.lit (L:=[[32,45],Lib.itoa (0 - n)]) (o_ [2]) zS
   ·rw[if_neg hn]
    refine xB o0 λb90 m90 o90=>?_;refine fB bP ?_;refine oB o90 0 aK ?_;refine bA λc93=>bB λc94=>?_;refine fB bP ?_;refine oB o90 0 aK ?_;refine bA λc97=>fB bP ?_;refine oB o90 0 aK ?_;refine aDN (fL n _ zO zO) ?_;rintro _ h2 ⟨rfl,oc⟩;have o2:=oc.thenE (B:=h) zA;have hil:=xS (n:=n) zO;refine rR (aDb rfl rfl (by first|omega|(simp<;>omega)) ?_);refine lA o2 aB aC λb101 m101 o101=>?_;refine rO ?_
    first|exact iR.lit (L:=[[32]++Lib.itoa n]) (o_ [0]) zS|exact iR.lit (L:=[[32]++Lib.itoa n]) (o_ [1]) zS|exact iR.lit (L:=[[32]++Lib.itoa n]) (o_ [2]) zS
  ·cases hq
 rw[if_neg k2]at hq
 by_cases k3:k=3
 ·rw[if_pos k3]at hq
  split at hq
  ·rename_i hh
   cases hq
   have hok:=of_decide_eq_true hh.2;refine xB o0 λb120 m120 o120=>?_;refine fB bP ?_;refine oB o120 0 aK ?_;refine bA λc123=>bA λc124=>?_;refine bB λc125=>?_;refine rR (aDb rfl rfl (by first|omega|(simp<;>omega)) ?_);refine fB bP ?_;refine oB o120 0 aK ?_;refine aDN (fL n _ zO zO) ?_;rintro _ h2 ⟨rfl,oc⟩;have o2:=oc.thenE (B:=h) zA;refine lA o2 aB aC λb130 m130 o130=>?_;refine rO ?_
   first|exact iR.lit (L:=[[32,64],Lib.itoa n]) (o_ [0]) zS|exact iR.lit (L:=[[32,64],Lib.itoa n]) (o_ [1]) zS|exact iR.lit (L:=[[32,64],Lib.itoa n]) (o_ [2]) zS
  ·cases hq
 rw[if_neg k3]at hq
 by_cases k4:k=4
 ·rw[if_pos k4]at hq
  split at hq
  ·rename_i hh
   cases hq
   rcases hh.2 with rfl|rfl
   ·refine xB o0 λb150 m150 o150=>?_
    refine fB bP ?_;refine oB o150 0 aK ?_;refine bA λc153=>bA λc154=>?_;refine bA λc155=>bB λc156=>?_;refine lA o150 aB aC λb157 m157 o157=>?_;refine fB bP ?_;refine oB o157 0 aK ?_;refine rR (idx aB aC (o157.boxArr 1 rfl zS zS) rfl zO (by first|omega|(simp<;>omega)) ?_);refine oB o157 1 aC ?_;refine rR (aDb rfl rfl (by first|omega|(simp<;>omega)) ?_);refine lA o157 aB aC λb163 m163 o163=>?_;refine rO ?_
    first|exact iR.lit (L:=[[32,102,97,108,115,101]]) (o_ [0]) zS|exact iR.lit (L:=[[32,102,97,108,115,101]]) (o_ [1]) zS|exact iR.lit (L:=[[32,102,97,108,115,101]]) (o_ [2]) zS
   ·refine xB o0 λb170 m170 o170=>?_
    refine fB bP ?_;refine oB o170 0 aK ?_;refine bA λc173=>bA λc174=>?_;refine bA λc175=>bB λc176=>?_;refine lA o170 aB aC λb177 m177 o177=>?_;refine fB bP ?_;refine oB o177 0 aK ?_;refine rR (idx aB aC (o177.boxArr 1 rfl zS zS) rfl zO (by first|omega|(simp<;>omega)) ?_);refine oB o177 1 aC ?_;refine rR (aDb rfl rfl (by first|omega|(simp<;>omega)) ?_);refine lA o177 aB aC λb183 m183 o183=>?_;refine rO ?_
    first|exact iR.lit (L:=[[32,116,114,117,101]]) (o_ [0]) zS|exact iR.lit (L:=[[32,116,114,117,101]]) (o_ [1]) zS|exact iR.lit (L:=[[32,116,114,117,101]]) (o_ [2]) zS
  ·cases hq
 ·rw[if_neg k4]at hq
  cases hq
theorem yL (x:Opd)(ps:List Pc)(h:Heap)(hq:iA x=some ps):bG Tryz.prog 93 [.agg ⟨opdC x⟩] h (iR h (txts ps)):=by
 obtain⟨xv,xa,xc,⟨vk,vn,vt⟩⟩:=x
 unfold iA at hq;dsimp only at hq;show bG Tryz.prog 93 [.agg ⟨[sv xv,sv xa,.bool xc,iv vk,iv vn,sv vt]⟩] h _;refine eN Tryz.func93 Tryz.ntmps93 ?_;have o0:=Own.refl h;cases xc with
 | true =>
  rw[if_pos rfl]at hq
  split at hq
  ·refine xB o0 λb10 m10 o10=>?_
   refine fB cY ?_;refine oB o10 0 yF ?_;refine aDK (fB cY ?_);refine nB o10 0 cG ?_;refine aDN (qV ⟨vk,vn,vt⟩ ps _ hq) ?_;rintro _ h2 hr;refine rO ?_;exact hr.up zA
  ·cases hq
 | false =>
  rw[if_neg zD]at hq
  split at hq
  ·cases hq
  by_cases hv:xv=[]
  ·rw[if_pos hv]at hq
   split at hq
   ·cases hq
   obtain⟨hn,rfl⟩:=bQ hq
   have hnl:=bJ hn;refine xB o0 λb50 m50 o50=>?_;refine fB cY ?_;refine oB o50 0 yF ?_;refine aDL (fB cY ?_);refine oB o50 0 aC ?_;refine bB λc55=>fB cY ?_;refine oB o50 0 aC ?_;refine rR (aDb rfl rfl (by first|omega|(simp<;>omega)) ?_);refine lA o50 aB aC λb59 m59 o59=>?_;refine rO ?_
   first|exact iR.lit (L:=[[32]++xa]) (o_ [0]) zS|exact iR.lit (L:=[[32]++xa]) (o_ [1]) zS|exact iR.lit (L:=[[32]++xa]) (o_ [2]) zS
  ·rw[if_neg hv]at hq
   split at hq
   ·cases hq
   obtain⟨p1,q1,e1,i1,rfl⟩:=aN hq
   obtain⟨p2,q2,e2,i2,rfl⟩:=aN i1
   obtain⟨p3,q3,e3,i3,rfl⟩:=aN i2
   obtain rfl:=dL i3
   obtain⟨hn1,rfl⟩:=bQ e1
   obtain⟨hn3,rfl⟩:=bQ e3
   cases e2
   have hnl:=bJ hn1;refine xB o0 λb70 m70 o70=>?_;refine fB cY ?_;refine oB o70 0 yF ?_;refine aDL (fB cY ?_);refine oB o70 0 aC ?_;refine bA λc75=>fB cY ?_;refine oB o70 0 aC ?_;refine rR (aDb rfl rfl (by first|omega|(simp<;>omega)) ?_);refine fB cY ?_;refine oB o70 0 aC ?_;refine lA o70 aB aC λb81 m81 o81=>?_;refine rO ?_
   first|exact iR.lit (L:=[[32]++xv,[46],xa]) (o_ [0]) zS|exact iR.lit (L:=[[32]++xv,[46],xa]) (o_ [1]) zS|exact iR.lit (L:=[[32]++xv,[46],xa]) (o_ [2]) zS
structure PPred where
 p:Value->Heap->Prop
 up:∀ v h h',p v h->Ext h h'->p v h'
def PPred.tk (L:List aBs):PPred:=⟨pR L,λ_ _ _ p e=>p.ext e⟩
def PPred.val (u:Value):PPred:=⟨λv _=>v=u,λ_ _ _ p _=>p⟩
def PPred.cell (u:Value):PPred:=⟨λv h=>∃ a,v=.pointer (some a)/\bI h a=some u,λ_ _ _ ⟨a,h1,h2⟩ e=>⟨a,h1,e.cell h2⟩⟩
def sP (l:List (Nat×PPred))(i:Nat)(v:Value)(h:Heap):Prop :=
 List.rec (motive:=λ_=>Prop) True (λa _ ih=>bif Nat.beq a.1 i then a.2.p v h else ih) l
theorem sP.up:∀(l:List (Nat×PPred))(i:Nat)(v:Value)(h h':Heap),sP l i v h->Ext h h'->sP l i v h'
 | [],_,_,_,_,_,_=>trivial
 | a::l,i,v,h,h',hp,e=>by
  show(bif Nat.beq a.1 i then a.2.p v h' else sP l i v h')
  have hp:(bif Nat.beq a.1 i then a.2.p v h else sP l i v h):=hp;cases hb:Nat.beq a.1 i with
  | true=>rw[hb]at hp;exact a.2.up _ _ _ hp e
  | false=>rw[hb]at hp;exact sP.up l i v h h' hp e
theorem RestA.of {P:Program}{ops:Array Oper}{Q:QQ}{st0 stR tails mid suf dsts:List Nat}{plan:List (List Nat×List Nat)}{s:aVs}{h:Heap}(l:List (Nat×PPred))
  (hst:aCy (λi d l'=>∀(junk:Nat->Value) (h':Heap),Ext h h'->forK (sP l) h' d λvs=>mN dsts l' vs junk 0 s λs=>vopAt P ops.toList (sP l) Q i s h') mid plan)
  (hend:∀(junk:Nat->Value) (h':Heap),Ext h h'->forK (sP l) h' mid λvs=>mN dsts dsts vs junk 0 s λs=>vord P ops.toList st0 stR tails suf [] s h' Q):RestA P ops Q st0 stR tails mid suf dsts plan s h :=
 ⟨sP l,sP.up l,hst,hend⟩
theorem pR.cell {L:List aBs}{a:Option Addr}{n c i:Nat}{h:Heap}{t:aBs}(hA:Arr h (.slice a n c) (strs L))(ht:L[i]?=some t):(PPred.cell (sv t)).p (adr (.slice a n c) i) h:=by
 obtain⟨a',cap,hv,_,r⟩:=hA
 have hx:(strs L)[i]?=some (sv t):=by simp[strs,ht]
 obtain⟨hi,_⟩:=aDZ.1 hx
 rcases r with r|⟨b,o,rfl,hc⟩
 ·rw[r]at hi;simp at hi
 cases hv
 exact⟨⟨b,o+i,none⟩,by simp[adr],by rw[hc i hi];exact hx⟩
theorem oV {α:Type}{one:Nat->α->Option (List Pc)}{l:List α}{i:Nat}{x:α}{p ps:List Pc}(hx:l[i]?=some x)(hp:dD one (l.take i)=some p)(hf:dD one l=some ps):∃ q,one i x=some q/\dD one (l.take (i+1))=some (p++q):=by
 cases hq:one i x with
 | none=>rw[aV hx hp hq]at hf;cases hf
 | some q=>exact⟨q,rfl,bL hx hp hq⟩
theorem condI_len {i:Nat}{x:Cnd}{q:List Pc}(h:pQ i x=some q):q.length<=10:=by
 unfold pQ at h;cases hc:kP x with
 | none=>rw[hc]at h;cases h
 | some q' =>
  rw[hc]at h
  cases h
  have:=aCR x q' hc
  simp
  omega
def ops4:List aBs:=[[32,61],[32,33,61],[32,60],[32,60,61]]
theorem opQ_at {n:Int}{q:List Pc}(h:opQ n=some q):1<=n/\n<=4/\∃ t:aBs,ops4[(n - 1).toNat]?=some t/\txts q=[t]:=by
 unfold opQ at h;split at h
 ·rename_i hh
  cases h
  refine⟨hh.1,hh.2,?_⟩
  have:n=1∨n=2∨n=3∨n=4:=by omega
  rcases this with rfl|rfl|rfl|rfl
  ·exact⟨_,rfl,rfl⟩
  ·exact⟨_,rfl,rfl⟩
  ·exact⟨_,rfl,rfl⟩
  ·exact⟨_,rfl,rfl⟩
 ·cases h
theorem condI_parts {i:Nat}{x:Cnd}{q:List Pc}(h:pQ i x=some q):∃ pl po pr pa,iA x.left=some pl/\opQ x.op=some po/\iA x.right=some pr/\rW x.add=some pa /\
  txts q=((if i=0 then[32,119,104,101,114,101] else[32,97,110,100])::(txts pl++(txts po++txts pr)))++txts pa:=by
 unfold pQ at h;cases hc:kP x with
 | none=>rw[hc]at h;cases h
 | some q' =>
  rw[hc]at h
  cases h
  obtain⟨p1,q1,e1,i1,rfl⟩:=aN hc
  obtain⟨p2,q2,e2,i2,rfl⟩:=aN i1
  obtain⟨p3,q3,e3,i3,rfl⟩:=aN i2
  obtain⟨p4,q4,e4,i4,rfl⟩:=aN i3
  obtain rfl:=dL i4
  refine⟨p1,p2,p3,p4,e1,e2,e3,e4,?_⟩
  rw[cN,cM,cM,cM,cM,cW]
  have:gX (if i=0 then aG [32] [119,104,101,114,101] else aG [32] [97,110,100])=(if i=0 then[32,119,104,101,114,101] else[32,97,110,100]):=by split<;>rfl
  rw[this]
  simp
theorem addQ_parts {n:Int}{q:List Pc}(h:rW n=some q):-9999999999<=n/\n<=9999999999/\txts q=if 0<n then[[32,43],32::Lib.itoa n] else if n<0 then[[32,45],32::Lib.itoa (0 - n)] else[]:=by
 unfold rW at h;split at h
 ·cases h
 rename_i hn
 have hn:=Classical.not_not.1 hn
 refine⟨hn.1,hn.2,?_⟩
 split at h
 ·rename_i h1
  cases h
  rw[if_pos h1]
  rfl
 ·rename_i h1
  rw[if_neg h1]
  split at h
  ·rename_i h2
   cases h
   rw[if_pos h2,show -n=0 - n by omega]
   rfl
  ·rename_i h2
   cases h
   rw[if_neg h2]
   rfl
theorem lY.ext:∀ {ts:List (List aBs)}{vs:aVs}{h h':Heap},lY ts vs h->Ext h h'->lY ts vs h'
 | [],[],_,_,_,_=>trivial
 | _::_,_::_,_,_,p,e=>⟨p.1.ext e,lY.ext p.2 e⟩
 | [],_::_,_,_,p,_=>p.elim
 | _::_,[],_,_,p,_=>p.elim
theorem pR.arr {L:List aBs}{a:Option Addr}{n c:Nat}{h:Heap}(hA:Arr h (.slice a n c) (strs L))(hn:n=L.length):pR L (.slice a n c) h:=by
 subst hn
 exact⟨_,_,rfl,hA⟩
theorem vM (l:List Cnd)(ps:List Pc)(va:Value)(h:Heap)(hA:aY 14 h va l.length (l.flatMap nN))(hl:l.length<=1000000000)(hOK:∀ c∈l,uL c)(hq:lW l=some ps) :
  bG Tryz.prog 46 [va] h (iR h (txts ps)):=by
 obtain⟨ya,yc,rfl⟩:=hA.isS
 have hne:l≠[]:=λe=>by rw[e]at hq;cases hq
 rw[zM l hne]at hq
 refine eN Tryz.func46 Tryz.ntmps46 ?_;have o0:=Own.refl h;have o1:=o0.nilRow 9 1;refine aDT [3,4,5,6,7,8,9,10,11,12,13,14,15,16,17,18,19,20,21,22,23,24,25,26,27,28,29,30,31,32,33,34,35,36,37,38,39,40,41,42,43,44,45,46,47,48,49,50,51,52,53,54,55,56,57,58,59,60,61,62,63,64,65,66,67,68,69,70,71,72,73] [3,4] (λws hh=>∃(i:Nat) (v:Value) (p:List Pc),i<=l.length/\ws=[v,.int .i64 i]/\dD pQ (l.take i)=some p/\p.length<=10*i/\Own h [row v 9 1 (txts p).length (strs (txts p))] hh) (λws _=>match ws with|[_,.int _ i]=>l.length - i.toNat|_=>0) ?_ ?_
 ·exact⟨0,_,[],by omega,rfl,rfl,by simp,o1⟩
 rintro ws junk hh ⟨i,v,p,hi,rfl,hp,hpl,oh⟩;clear o0 o1;have hptl:=fZ p;by_cases hlt:i<l.length
 ·obtain⟨x,hx⟩:=getx hlt
  have hxOK:=hOK x (aDY hx)
  obtain⟨q,hqx,hnx⟩:=oV hx hp hq
  have hqlen:=condI_len hqx
  obtain⟨pl,po,pr,pa,hl1,ho1,hr1,ha1,hqt⟩:=condI_parts hqx
  obtain⟨ho2,ho3,t,ht,hpo⟩:=opQ_at ho1
  have hll:=fZ pl;have hlr:=fZ pr;have hl3:=aAa _ _ hl1;have hr3:=aAa _ _ hr1;have hqt2:=addQ_parts ha1
  obtain⟨ha2,ha3,hpa⟩:=hqt2
  generalize hW:(if i=0 then[32,119,104,101,114,101] else[32,97,110,100]:aBs)=W at hqt
  refine lB gL ?_;refine bB λc51=>Br.join [5] [5] (λus h'=>us=[sv W]/\Own h [row v 9 1 (txts p).length (strs (txts p))] h') rfl rfl ?_ ?_
  ·refine aDJ (λc60=>?_) (λc60=>?_)
   refine⟨rfl,?_⟩
   rotate_left
   refine⟨rfl,?_⟩
   all_goals first
    | (rw[if_neg zO]at hW;subst hW;exact⟨rfl,oh⟩)
    | (rw[if_pos zO]at hW;subst hW;exact⟨rfl,oh⟩)
  rintro us junk h1 ⟨rfl,oh1⟩;clear oh;refine aDA [0,1,3,4,5,6,10,11,12,13,15,16,19,20,21,22,27] [7,14,17,23] [25,26] [0,1,3,4,5,6,7,10,11,12,13,14,15,19,20,21,22,23] [2,8,9,16,17,18,24] [25,26,27] [16,22,23,30,31,32,38] [([],[]),([],[]),([],[]),([9],[23]),([16],[30]),([17],[31]),([],[])] mixed k_ (λ_ _ _ _ h=>h) ?_;refine aDe gL eB (hA.ext oh1.ext) rfl zO zO ?_;refine aDf (hA.ext oh1.ext) zO fG rfl rfl rfl ?_;refine aDD lE (hA.ext oh1.ext) (λ_=>rfl) zD zD rfl zA rfl ?_;refine aDe gL eB (hA.ext oh1.ext) rfl zO zO ?_;refine aDf (hA.ext oh1.ext) zO fG rfl rfl rfl ?_;refine aDl (hA.ext oh1.ext) aK (λ_=>rfl) rfl zA rfl ?_;refine aR (aDe gL eB (hA.ext oh1.ext) rfl zO zO ?_);refine aDf (hA.ext oh1.ext) zO fG rfl rfl rfl ?_;refine aDD lE (hA.ext oh1.ext) (λ_=>rfl) zD zD rfl zA rfl ?_
  refine⟨rfl,RestA.of [(2,.tk [W]),(8,.tk (txts pl)),(9,.tk ops4),(16,.cell (sv t)),(17,.val (sv t)),(18,.tk [t]),(24,.tk (txts pr))] ⟨?_,?_,?_,?_,?_,?_,?_,trivial⟩ ?_⟩
  ·intro junk h1 eh
   have oz:=Own.refl h1;refine lA (Own.refl _) aB aC λb120 m120 o120=>?_;(refine aI o120.ext ?_;have o121:=Own.call oz o120;simp only[lcA,lnA]at o121;clear o120);exact pR.lit (L:=[W]) zA 0 rfl
  ·intro junk h1 eh
   refine aDN (yL x.left pl _ hl1) λr h2 hr=>?_;exact hr.extP
  ·intro junk h1 eh
   have oz:=Own.refl h1;refine lA (Own.refl _) aB aC λb130 m130 o130=>?_;(refine aI o130.ext ?_;have o131:=Own.call oz o130;simp only[lcA,lnA]at o131;clear o130);exact pR.lit (L:=ops4) zA 0 rfl
  ·rintro junk h1 eh v1 ⟨a1,c1,rfl,hA1⟩
   have oz:=Own.refl h1;have hl4:(strs ops4).length=4:=rfl;refine rR (idx aB aC hA1 rfl zO zO ?_);refine aI oz.ext ?_;exact pR.cell hA1 ht
  ·rintro junk h1 eh v1 ⟨a1,rfl,hA1⟩
   have oz:=Own.refl h1;refine rR (load1 aC rfl zA ?_);refine aI oz.ext ?_
   rfl
  ·rintro junk h1 eh v1 rfl
   have oz:=Own.refl h1;refine lA (Own.refl _) aB aC λb160 m160 o160=>?_;(refine aI o160.ext ?_;have o161:=Own.call oz o160;simp only[lcA,lnA]at o161;clear o160);exact pR.lit (L:=[t]) zA 0 rfl
  ·intro junk h1 eh
   refine aDN (yL x.right pr _ hr1) λr h2 hr=>?_;exact hr.extP
  rintro junk h2 eh v1 ⟨a1,c1,rfl,p1⟩ v2 ⟨a2,c2,rfl,p2⟩ v3 p3 v4 p4 v5 p5 v6 ⟨a6,c6,rfl,p6⟩ v7 ⟨a7,c7,rfl,p7⟩;clear p3 p4 p5;have oh2:=oh1.extE eh
  obtain⟨a0,c0,rfl⟩:=oh2.rowIs 0 rfl
  have hPs:lY [txts p,[W],txts pl,[t],txts pr] [.slice a0 (txts p).length c0,.slice a1 [W].length c1,.slice a2 (txts pl).length c2,.slice a6 [t].length c6,.slice a7 (txts pr).length c7] h2:=⟨.arr (oh2.rowArr 0 rfl) rfl,.arr p1 rfl,.arr p2 rfl,.arr p6 rfl,.arr p7 rfl,trivial⟩;clear p1 p2 p6 p7 oh1;have oz:=Own.refl h2;refine lA oz lM cS λb170 m170 o170=>?_;have hfl:[txts p,[W],txts pl,[t],txts pr].flatten=txts p++(W::(txts pl++(txts po++txts pr))):=by rw[hpo];simp only[aEz,aEF,aD7,lcA,lnA]
  have hfn0:[txts p,[W],txts pl,[t],txts pr].flatten.length<=p.length+8:=by simp only[aEz,aEF,aD7,aDX,aD1,aD2];omega
  have key:=yM [txts p,[W],txts pl,[t],txts pr] [.slice a0 (txts p).length c0,.slice a1 [W].length c1,.slice a2 (txts pl).length c2,.slice a6 [t].length c6,.slice a7 (txts pr).length c7] (some ⟨b170,0,none⟩) 5 m170 (o170.boxArr 0 rfl rfl (aD6 _)) (hPs.ext o170.ext) zS zO;have hfin:txts (p++q)=txts p++(W::(txts pl++(txts po++txts pr)))++(if 0<x.add then[[32,43],32::Lib.itoa x.add] else if x.add<0 then[[32,45],32::Lib.itoa (0 - x.add)] else[]):=by rw[cM,hqt,hpa,aEb]
  have hql2:(p++q).length<=10*(i+1):=by rw[aDX];omega
  rw[hfl]at key hfn0
  generalize txts p++(W::(txts pl++(txts po++txts pr)))=LL at key hfn0 hfin
  refine aDN key λr h3 hr=>?_
  obtain⟨a8,c8,rfl,ow⟩:=hr.up ((oh2.extE o170.ext).sel [] rfl)
  clear hr oz oh2 o170 hPs key;by_cases hpos:0<x.add
  ·rw[if_pos hpos]at hfin
   refine rR (aDe gL eB (hA.ext ow.ext) rfl zO zO ?_);refine rR (aDf (hA.ext ow.ext) zO fG rfl rfl rfl ?_);refine rR (aDl (hA.ext ow.ext) aK (λ_=>rfl) rfl zA rfl ?_);refine bB λc203=>rR (aDe gL eB (hA.ext ow.ext) rfl zO zO ?_);refine rR (aDf (hA.ext ow.ext) zO fG rfl rfl rfl ?_);refine rR (aDl (hA.ext ow.ext) aK (λ_=>rfl) rfl zA rfl ?_);refine aDN (fL x.add _ zO zO) ?_;rintro _ h4 ⟨rfl,oc⟩;have o4:=oc.thenE (B:=h) zA;clear ow oc;have hil:=xS (n:=x.add) zO;refine rR (aDb rfl rfl (by first|omega|(simp<;>omega)) ?_);refine lA o4 aB aC λb221 m221 o221=>?_;(refine aDI o221 0 rfl aB aC zD (o221.boxArr 1 rfl zS zS).toN c_ (by simp only[maxLen];first|omega|(simp<;>omega)) (by first|omega|(simp<;>omega)) ?_;intro v222 m222 o222);refine rR (aDe gL eB (hA.ext o222.ext) rfl zO zO ?_);refine rR (aDf (hA.ext o222.ext) zO fG rfl rfl rfl ?_);refine rR (aDl (hA.ext o222.ext) aK (λ_=>rfl) rfl zA rfl ?_);refine bA λc226=>aR ?_
   refine⟨rfl,?_⟩
   refine⟨⟨i+1,_,p++q,by omega,rfl,hnx,hql2,?_⟩,by simp;omega⟩
   rw[hfin,aDX,eF]
   exact o_ [0]
  ·rw[if_neg hpos]at hfin
   by_cases hneg:x.add<0
   ·rw[if_pos hneg]at hfin
    refine rR (aDe gL eB (hA.ext ow.ext) rfl zO zO ?_);refine rR (aDf (hA.ext ow.ext) zO fG rfl rfl rfl ?_);refine rR (aDl (hA.ext ow.ext) aK (λ_=>rfl) rfl zA rfl ?_);refine bA λc303=>rR (aDe gL eB (hA.ext ow.ext) rfl zO zO ?_);refine rR (aDf (hA.ext ow.ext) zO fG rfl rfl rfl ?_);refine rR (aDl (hA.ext ow.ext) aK (λ_=>rfl) rfl zA rfl ?_);refine bB λc307=>rR (aDe gL eB (hA.ext ow.ext) rfl zO zO ?_);refine rR (aDf (hA.ext ow.ext) zO fG rfl rfl rfl ?_);refine rR (aDl (hA.ext ow.ext) aK (λ_=>rfl) rfl zA rfl ?_);refine aR (aDN (fL (0 - x.add) _ zO zO) ?_);rintro _ h4 ⟨rfl,oc⟩;have o4:=oc.thenE (B:=h) zA;clear ow oc;have hil:=xS (n:=0 - x.add) zO;have hil2:(Lib.itoa (-x.add)).length<=20:=by rw[show -x.add=0 - x.add by omega];exact hil
    refine rR (aDb rfl rfl (by first|omega|(simp<;>omega)) ?_);refine lA o4 aB aC λb321 m321 o321=>?_;(refine aDI o321 0 rfl aB aC zD (o321.boxArr 1 rfl zS zS).toN c_ (by simp only[maxLen];first|omega|(simp<;>omega)) (by first|omega|(simp<;>omega)) ?_;intro v322 m322 o322);refine aR ?_
    refine⟨rfl,?_⟩
    refine⟨⟨i+1,_,p++q,by omega,rfl,hnx,hql2,?_⟩,by simp;omega⟩
    rw[hfin,aDX,eF]
    exact o_ [0]
   ·rw[if_neg hneg,aD7]at hfin
    refine rR (aDe gL eB (hA.ext ow.ext) rfl zO zO ?_);refine rR (aDf (hA.ext ow.ext) zO fG rfl rfl rfl ?_);refine rR (aDl (hA.ext ow.ext) aK (λ_=>rfl) rfl zA rfl ?_);refine bA λc403=>rR (aDe gL eB (hA.ext ow.ext) rfl zO zO ?_);refine rR (aDf (hA.ext ow.ext) zO fG rfl rfl rfl ?_);refine rR (aDl (hA.ext ow.ext) aK (λ_=>rfl) rfl zA rfl ?_);refine bA λc407=>aR ?_
    refine⟨rfl,?_⟩
    refine⟨⟨i+1,_,p++q,by omega,rfl,hnx,hql2,?_⟩,by simp;omega⟩
    rw[hfin]
    exact o_ [0]
 ·rw[fF zO hp]at hq
  cases hq
  refine lB gL ?_;refine bA λc701=>rO ?_
  obtain⟨a',c',rfl⟩:=oh.rowIs 0 rfl
  exact⟨_,_,rfl,oh⟩
theorem oZ {α:Type}{p:α->Bool}{l:List α}{i:Nat}(hi:l.length<=i)(h:∀(j:Nat)(x:α),j<i->l[j]?=some x->p x=true):l.all p=true:=aD4.2 λc hc=>by
 obtain⟨j,hj⟩:=aEm.1 hc
 exact h j c (by have:=(aDZ.1 hj).1;omega) hj
theorem rM {α:Type}{p:α->Bool}{l:List α}{i:Nat}{x:α}(hx:l[i]?=some x)(h:p x=false):l.all p=false:=by
 rw[aEh]
 intro hh
 rw[aD4.1 hh x (aDY hx)]at h
 cases h
theorem lF {α:Type}{p:α->Bool}{l:List α}{i:Nat}{x:α}(h:∀(j:Nat)(x:α),j<i->l[j]?=some x->p x=true)(hx:l[i]?=some x)(hp:p x=true):∀(j:Nat)(y:α),j<i+1->l[j]?=some y->p y=true:=λj y hj hy=>by
 by_cases e:j=i
 ·subst e
  rw[hx]at hy
  cases hy
  exact hp
 ·exact h j y zO hy
theorem vS (l:List Cnd)(va:Value)(h:Heap)(hA:aY 14 h va l.length (l.flatMap nN))(hl:l.length<=1000000000000000)(hOK:∀ x∈l,uL x) :
  bG Tryz.prog 89 [va] h λr h'=>r=.bool ((l.all λx=>(kP x).isSome)&&decide (0<l.length))/\Own h [] h':=by
 obtain⟨ya,yc,rfl⟩:=hA.isS
 refine eN Tryz.func89 Tryz.ntmps89 ?_;have o0:=Own.refl h;refine aDT [2,3,4,5,6,7,8,9,10,11,12,13,14,15,16,17,18,19,20,21,22,23,24,25,26,27,28,29,30,31,32,33,34,35,36,37,38,39,40,41,42,43,44] [3] (λvs hh=>∃(i:Nat),i<=l.length/\vs=[.int .i64 i]/\(∀(j:Nat) (x:Cnd),j<i->l[j]?=some x->(kP x).isSome=true)/\Own h [] hh) (λvs _=>match vs with|[.int _ i]=>l.length - i.toNat|_=>0) ?_ ?_
 ·exact⟨0,by omega,rfl,λj c hj=>by omega,o0⟩
 rintro vs junk hh ⟨i,hi,rfl,hE,oh⟩;by_cases hlt:i<l.length
 ·obtain⟨x,hx⟩:=getx hlt
  have hxOK:=hOK x (aDY hx);have no:(kP x).isSome=false->((l.all λx=>(kP x).isSome)&&decide (0<l.length))=false:=λhh=>by rw[rM (p:=λx=>(kP x).isSome) hx hh];rfl
  have q1:=hA.ext oh.ext;clear o0;refine lB gL ?_;refine bB λc51=>rR (aDe gL eB q1 rfl zO zO ?_);refine rR (aDg eB q1 (λ_=>rfl) zD rfl zA ?_);refine aDH oh eB λb54 m54 o54=>?_;(refine sA o54 0 eB ?_;intro m55 o55);refine fB fG ?_;refine nB o55 0 lE ?_;refine aDN (sL x.left _ hxOK.1) ?_;rintro _ g50 ⟨rfl,oc⟩;have z50:=oc.thenE (B:=h) zA;clear oc;cases hb50:(iA x.left).isSome
  case false =>
   refine aDK (aDK ?_);refine rO ?_
   exact⟨congrArg Value.bool (no (by rw[qE];simp[*])).symm,o_ []⟩
  refine aDL (fB fG ?_);refine nB z50 0 lE ?_;refine aDN (sL x.right _ hxOK.2.2.1) ?_;rintro _ g90 ⟨rfl,oc⟩;have z90:=oc.thenE (B:=h) zA;clear oc;cases hb90:(iA x.right).isSome
  case false =>
   refine aDK (aDK ?_);refine rO ?_
   exact⟨congrArg Value.bool (no (by rw[qE];simp[*])).symm,o_ []⟩
  by_cases hb110:1<=x.op/\x.op<=4
  case neg =>
   refine aDL (fB fG ?_);refine oB z90 0 aK ?_;refine aDJ (λc132=>?_) (λc132=>?_);refine aDK (rO ?_)
   rotate_left
   refine fB fG ?_;refine oB z90 0 aK ?_;refine bB λc135=>aDK ?_;refine rO ?_
   all_goals exact⟨congrArg Value.bool (no (by rw[qE];simp[*])).symm,o_ []⟩
  by_cases hb130:-9999999999<=x.add/\x.add<=9999999999
  case neg =>
   refine aDL (fB fG ?_);refine oB z90 0 aK ?_;refine bA λc152=>fB fG ?_;refine oB z90 0 aK ?_;refine bA λc155=>fB fG ?_;refine oB z90 0 aK ?_;refine aDJ (λc158=>?_) (λc158=>?_);refine aDK (rO ?_)
   rotate_left
   refine fB fG ?_;refine oB z90 0 aK ?_;refine bB λc161=>rO ?_
   all_goals exact⟨congrArg Value.bool (no (by rw[qE];simp[*])).symm,o_ []⟩
  refine aDL (fB fG ?_);refine oB z90 0 aK ?_;refine bA λc172=>fB fG ?_;refine oB z90 0 aK ?_;refine bA λc175=>fB fG ?_;refine oB z90 0 aK ?_;refine bA λc178=>fB fG ?_;refine oB z90 0 aK ?_;refine bA λc181=>aR ?_
  refine⟨rfl,?_⟩
  exact⟨⟨i+1,by omega,rfl,lF (p:=λx=>(kP x).isSome) hE hx (by rw[qE];simp[*,show dB 0=true from rfl]),o_ []⟩,by simp;omega⟩
 ·have hall:(l.all λx=>(kP x).isSome)=true:=oZ zO hE
  refine lB gL ?_;refine bA λc901=>lB gL ?_;refine rO ?_
  refine⟨congrArg Value.bool ?_,o_ []⟩
  rw[hall]
  exact decide_eq_decide.2 zO
theorem aAE (l:List Col)(va:Value)(h:Heap)(hA:aY 5 h va l.length (l.flatMap vE))(hl:l.length<=1000000000000000)(hOK:∀ x∈l,aCp x) :
  bG Tryz.prog 83 [va] h λr h'=>r=.bool ((l.all λx=>(iP [] x).isSome)&&decide (0<l.length))/\Own h [] h':=by
 obtain⟨ya,yc,rfl⟩:=hA.isS
 refine eN Tryz.func83 Tryz.ntmps83 ?_;have o0:=Own.refl h;refine aDT [2,3,4,5,6,7,8,9,10,11,12,13,14,15,16,17,18,19,20,21,22,23,24,25,26,27,28,29,30,31,32,33,34,35,36,37,38,39,40,41] [3] (λvs hh=>∃(i:Nat),i<=l.length/\vs=[.int .i64 i]/\(∀(j:Nat) (x:Col),j<i->l[j]?=some x->(iP [] x).isSome=true)/\Own h [] hh) (λvs _=>match vs with|[.int _ i]=>l.length - i.toNat|_=>0) ?_ ?_
 ·exact⟨0,by omega,rfl,λj c hj=>by omega,o0⟩
 rintro vs junk hh ⟨i,hi,rfl,hE,oh⟩;by_cases hlt:i<l.length
 ·obtain⟨x,hx⟩:=getx hlt
  have hxOK:=hOK x (aDY hx);have no:(iP [] x).isSome=false->((l.all λx=>(iP [] x).isSome)&&decide (0<l.length))=false:=λhh=>by rw[rM (p:=λx=>(iP [] x).isSome) hx hh];rfl
  have q1:=hA.ext oh.ext;clear o0;refine lB iQ ?_;refine bB λc51=>rR (aDe iQ eV q1 rfl zO zO ?_);refine rR (aDf q1 zO iG rfl rfl rfl ?_);refine rR (aDl q1 aC (λ_=>rfl) rfl zA rfl ?_);refine aDN (bY x.name _ hxOK.1) ?_;rintro _ g50 ⟨rfl,oc⟩;have z50:=oc.thenE (B:=h) zA;clear oc;cases hb50:aZ x.name
  case false =>
   refine aDK (aDK ?_);refine rO ?_
   exact⟨congrArg Value.bool (no (by rw[qF];simp[*])).symm,o_ []⟩
  by_cases hb70:1<=x.kind/\x.kind<=4
  case neg =>
   refine aDL (rR (aDe iQ eV (hA.ext z50.ext) rfl zO zO ?_));refine rR (aDf (hA.ext z50.ext) zO iG rfl rfl rfl ?_);refine rR (aDl (hA.ext z50.ext) aK (λ_=>rfl) rfl zA rfl ?_);refine aDJ (λc93=>?_) (λc93=>?_);refine aDK (rO ?_)
   rotate_left
   refine rR (aDe iQ eV (hA.ext z50.ext) rfl zO zO ?_);refine rR (aDf (hA.ext z50.ext) zO iG rfl rfl rfl ?_);refine rR (aDl (hA.ext z50.ext) aK (λ_=>rfl) rfl zA rfl ?_);refine bB λc97=>aDK ?_;refine rO ?_
   all_goals exact⟨congrArg Value.bool (no (by rw[qF];simp[*])).symm,o_ []⟩
  refine aDL (rR (aDe iQ eV (hA.ext z50.ext) rfl zO zO ?_));refine rR (aDf (hA.ext z50.ext) zO iG rfl rfl rfl ?_);refine rR (aDl (hA.ext z50.ext) aK (λ_=>rfl) rfl zA rfl ?_);refine bA λc113=>rR (aDe iQ eV (hA.ext z50.ext) rfl zO zO ?_);refine rR (aDf (hA.ext z50.ext) zO iG rfl rfl rfl ?_);refine rR (aDl (hA.ext z50.ext) aK (λ_=>rfl) rfl zA rfl ?_);refine bA λc117=>rR (aDe iQ eV (hA.ext z50.ext) rfl zO zO ?_);refine rR (aDf (hA.ext z50.ext) zO iG rfl rfl rfl ?_);refine rR (aDD cG (hA.ext (Own.ext (B:=h) zA)) (λ_=>rfl) zD zD rfl zA rfl ?_);refine aDN (qW x.dflt _ hxOK.2.2) ?_;rintro _ g110 ⟨rfl,oc⟩;have z110:=oc.thenE (B:=h) zA;clear oc;cases hb110:(cD x.dflt).isSome
  case false =>
   refine aDK (rO ?_)
   exact⟨congrArg Value.bool (no (by rw[qF];simp[*])).symm,o_ []⟩
  refine aDL (aR ?_)
  refine⟨rfl,?_⟩
  exact⟨⟨i+1,by omega,rfl,lF (p:=λx=>(iP [] x).isSome) hE hx (by rw[qF];simp[*,show dB 0=true from rfl]),o_ []⟩,by simp;omega⟩
 ·have hall:(l.all λx=>(iP [] x).isSome)=true:=oZ zO hE
  refine lB iQ ?_;refine bA λc901=>lB iQ ?_;refine rO ?_
  refine⟨congrArg Value.bool ?_,o_ []⟩
  rw[hall]
  exact decide_eq_decide.2 zO
theorem aCC (l:List Trm)(va:Value)(h:Heap)(hA:aY 7 h va l.length (l.flatMap wP))(hl:l.length<=1000000000000000)(hOK:∀ x∈l,aCn x) :
  bG Tryz.prog 86 [va] h λr h'=>r=.bool ((l.all λx=>(bM x).isSome))/\Own h [] h':=by
 obtain⟨ya,yc,rfl⟩:=hA.isS
 refine eN Tryz.func86 Tryz.ntmps86 ?_;have o0:=Own.refl h;refine aDT [2,3,4,5,6,7,8,9,10,11,12,13,14,15,16,17,18,19,20,21,22,23,24,25,26,27,28,29,30,31,32,33,34,35,36,37,38,39,40,41,42,43,44,45,46,47,48,49,50,51,52,53,54,55,56,57,58,59,60,61,62,63,64,65,66,67,68] [3] (λvs hh=>∃(i:Nat),i<=l.length/\vs=[.int .i64 i]/\(∀(j:Nat) (x:Trm),j<i->l[j]?=some x->(bM x).isSome=true)/\Own h [] hh) (λvs _=>match vs with|[.int _ i]=>l.length - i.toNat|_=>0) ?_ ?_
 ·exact⟨0,by omega,rfl,λj c hj=>by omega,o0⟩
 rintro vs junk hh ⟨i,hi,rfl,hE,oh⟩;by_cases hlt:i<l.length
 ·obtain⟨x,hx⟩:=getx hlt
  have hxOK:=hOK x (aDY hx);have no:(bM x).isSome=false->((l.all λx=>(bM x).isSome))=false:=λhh=>by rw[rM (p:=λx=>(bM x).isSome) hx hh]
  have q1:=hA.ext oh.ext;clear o0;refine lB mE ?_;refine bB λc51=>rR (aDe mE cT q1 rfl zO zO ?_);refine rR (aDg cT q1 (λ_=>rfl) zD rfl zA ?_);refine aDH oh cT λb54 m54 o54=>?_;(refine sA o54 0 cT ?_;intro m55 o55);refine fB bO ?_;refine oB o55 0 aC ?_;refine aDN (bY x.attr _ hxOK.1) ?_;rintro _ g50 ⟨rfl,oc⟩;have z50:=oc.thenE (B:=h) zA;clear oc;cases hb50:aZ x.attr
  case false =>
   refine aDK (aDK ?_);refine rO ?_
   exact⟨congrArg Value.bool (no (by rw[gE];simp[*])).symm,o_ []⟩
  by_cases hb70:1<=x.measure/\x.measure<=5
  case neg =>
   refine aDL (fB bO ?_);refine oB z50 0 aK ?_;refine aDJ (λc92=>?_) (λc92=>?_);refine aDK (rO ?_)
   rotate_left
   refine fB bO ?_;refine oB z50 0 aK ?_;refine bB λc95=>aDK ?_;refine rO ?_
   all_goals exact⟨congrArg Value.bool (no (by rw[gE];simp[*])).symm,o_ []⟩
  refine aDL (fB bO ?_);refine oB z50 0 aK ?_;refine bA λc112=>fB bO ?_;refine oB z50 0 aK ?_;refine bA λc115=>fB bO ?_;refine oB z50 0 aK ?_;refine aDN (dJ x.tol _ hxOK.2.2.1) ?_;rintro _ g110 ⟨rfl,oc⟩;have z110:=oc.thenE (B:=h) zA;clear oc;cases hb110:dB x.tol
  case false =>
   refine aDK (aDK ?_);refine rO ?_
   exact⟨congrArg Value.bool (no (by rw[gE];simp[*])).symm,o_ []⟩
  by_cases hb130:x.measure=5
  case pos =>
   refine aDL (fB bO ?_);refine oB z110 0 aK ?_;refine bC λc152=>aDL ?_;refine fB bO ?_;refine fB iK ?_;refine oB z110 0 aK ?_;refine aDN (dJ x.num _ hxOK.2.2.2.1) ?_;rintro _ g150 ⟨rfl,oc⟩;have z150:=oc.thenE (B:=h) zA;clear oc;cases hb150:dB x.num
   case false =>
    refine aDK (aDK ?_);refine rO ?_
    exact⟨congrArg Value.bool (no (by rw[gE];simp[*])).symm,o_ []⟩
   refine aDL (fB bO ?_);refine fB iK ?_;refine oB z150 0 aK ?_;refine aDN (dJ x.den _ hxOK.2.2.2.2.1) ?_;rintro _ g190 ⟨rfl,oc⟩;have z190:=oc.thenE (B:=h) zA;clear oc;cases hb190:dB x.den
   case false =>
    refine aDK (aDK ?_);refine rO ?_
    exact⟨congrArg Value.bool (no (by rw[gE];simp[*])).symm,o_ []⟩
   refine aDL (fB bO ?_);refine oB z190 0 aK ?_;refine aDN (dJ x.gives _ hxOK.2.2.2.2.2.1) ?_;rintro _ g230 ⟨rfl,oc⟩;have z230:=oc.thenE (B:=h) zA;clear oc;cases hb230:dB x.gives
   case false =>
    refine aDK (aDK ?_);refine rO ?_
    exact⟨congrArg Value.bool (no (by rw[gE];simp[*])).symm,o_ []⟩
   refine aDL (fB bO ?_);refine oB z230 0 aK ?_;refine aDN (dJ x.takes _ hxOK.2.2.2.2.2.2) ?_;rintro _ g270 ⟨rfl,oc⟩;have z270:=oc.thenE (B:=h) zA;clear oc;cases hb270:dB x.takes
   case false =>
    refine aDK (rO ?_)
    exact⟨congrArg Value.bool (no (by rw[gE];simp[*])).symm,o_ []⟩
   refine aDL (aR ?_)
   refine⟨rfl,?_⟩
   exact⟨⟨i+1,by omega,rfl,lF (p:=λx=>(bM x).isSome) hE hx (by rw[gE];simp[*,show dB 0=true from rfl]),o_ []⟩,by simp;omega⟩
  case neg =>
   by_cases hb310:x.tol=0
   case neg =>
    refine aDL (fB bO ?_);refine oB z110 0 aK ?_;refine bD λc332=>fB bO ?_;refine oB z110 0 aK ?_;refine bD λc335=>rO ?_
    all_goals exact⟨congrArg Value.bool (no (by rw[gE];simp[*])).symm,o_ []⟩
   refine aDL (fB bO ?_);refine oB z110 0 aK ?_;refine bD λc352=>fB bO ?_;refine oB z110 0 aK ?_;refine bC λc355=>fB bO ?_;refine fB iK ?_;refine oB z110 0 aK ?_;refine aDN (dJ x.num _ hxOK.2.2.2.1) ?_;rintro _ g350 ⟨rfl,oc⟩;have z350:=oc.thenE (B:=h) zA;clear oc;cases hb350:dB x.num
   case false =>
    refine aDK (aDK ?_);refine rO ?_
    exact⟨congrArg Value.bool (no (by rw[gE];simp[*])).symm,o_ []⟩
   refine aDL (fB bO ?_);refine fB iK ?_;refine oB z350 0 aK ?_;refine aDN (dJ x.den _ hxOK.2.2.2.2.1) ?_;rintro _ g390 ⟨rfl,oc⟩;have z390:=oc.thenE (B:=h) zA;clear oc;cases hb390:dB x.den
   case false =>
    refine aDK (aDK ?_);refine rO ?_
    exact⟨congrArg Value.bool (no (by rw[gE];simp[*])).symm,o_ []⟩
   refine aDL (fB bO ?_);refine oB z390 0 aK ?_;refine aDN (dJ x.gives _ hxOK.2.2.2.2.2.1) ?_;rintro _ g430 ⟨rfl,oc⟩;have z430:=oc.thenE (B:=h) zA;clear oc;cases hb430:dB x.gives
   case false =>
    refine aDK (aDK ?_);refine rO ?_
    exact⟨congrArg Value.bool (no (by rw[gE];simp[*])).symm,o_ []⟩
   refine aDL (fB bO ?_);refine oB z430 0 aK ?_;refine aDN (dJ x.takes _ hxOK.2.2.2.2.2.2) ?_;rintro _ g470 ⟨rfl,oc⟩;have z470:=oc.thenE (B:=h) zA;clear oc;cases hb470:dB x.takes
   case false =>
    refine aDK (rO ?_)
    exact⟨congrArg Value.bool (no (by rw[gE];simp[*])).symm,o_ []⟩
   refine aDL (aR ?_)
   refine⟨rfl,?_⟩
   exact⟨⟨i+1,by omega,rfl,lF (p:=λx=>(bM x).isSome) hE hx (by rw[gE];simp[*,show dB 0=true from rfl]),o_ []⟩,by simp;omega⟩
 ·have hall:(l.all λx=>(bM x).isSome)=true:=oZ zO hE
  refine lB mE ?_;refine bA λc901=>rO ?_
  refine⟨congrArg Value.bool ?_,o_ []⟩
  rw[hall]
theorem aCH (l:List Nmd)(va:Value)(h:Heap)(hA:aY 4 h va l.length (l.flatMap xH))(hl:l.length<=1000000000000000)(hOK:∀ x∈l,aCo x) :
  bG Tryz.prog 87 [va] h λr h'=>r=.bool ((l.all λx=>(pW x).isSome))/\Own h [] h':=by
 obtain⟨ya,yc,rfl⟩:=hA.isS
 refine eN Tryz.func87 Tryz.ntmps87 ?_;have o0:=Own.refl h;refine aDT [2,3,4,5,6,7,8,9,10,11,12,13,14,15,16,17,18,19,20,21,22,23,24,25] [3] (λvs hh=>∃(i:Nat),i<=l.length/\vs=[.int .i64 i]/\(∀(j:Nat) (x:Nmd),j<i->l[j]?=some x->(pW x).isSome=true)/\Own h [] hh) (λvs _=>match vs with|[.int _ i]=>l.length - i.toNat|_=>0) ?_ ?_
 ·exact⟨0,by omega,rfl,λj c hj=>by omega,o0⟩
 rintro vs junk hh ⟨i,hi,rfl,hE,oh⟩;by_cases hlt:i<l.length
 ·obtain⟨x,hx⟩:=getx hlt
  have hxOK:=hOK x (aDY hx);have no:(pW x).isSome=false->((l.all λx=>(pW x).isSome))=false:=λhh=>by rw[rM (p:=λx=>(pW x).isSome) hx hh]
  have q1:=hA.ext oh.ext;clear o0;refine lB kV ?_;refine bB λc51=>rR (aDe kV oN q1 rfl zO zO ?_);refine rR (aDf q1 zO wS rfl rfl rfl ?_);refine rR (aDl q1 aC (λ_=>rfl) rfl zA rfl ?_);refine aDN (bY x.name _ hxOK.1) ?_;rintro _ g50 ⟨rfl,oc⟩;have z50:=oc.thenE (B:=h) zA;clear oc;cases hb50:aZ x.name
  case false =>
   refine aDK (aDK ?_);refine rO ?_
   exact⟨congrArg Value.bool (no (by rw[aAw];simp[*])).symm,o_ []⟩
  refine aDL (rR (aDe kV oN (hA.ext z50.ext) rfl zO zO ?_));refine rR (aDf (hA.ext z50.ext) zO wS rfl rfl rfl ?_);refine rR (aDD cG (hA.ext (Own.ext (B:=h) zA)) (λ_=>rfl) zD zD rfl zA rfl ?_);refine aDN (qW x.val _ hxOK.2) ?_;rintro _ g90 ⟨rfl,oc⟩;have z90:=oc.thenE (B:=h) zA;clear oc;cases hb90:(cD x.val).isSome
  case false =>
   refine aDK (rO ?_)
   exact⟨congrArg Value.bool (no (by rw[aAw];simp[*])).symm,o_ []⟩
  refine aDL (aR ?_)
  refine⟨rfl,?_⟩
  exact⟨⟨i+1,by omega,rfl,lF (p:=λx=>(pW x).isSome) hE hx (by rw[aAw];simp[*,show dB 0=true from rfl]),o_ []⟩,by simp;omega⟩
 ·have hall:(l.all λx=>(pW x).isSome)=true:=oZ zO hE
  refine lB kV ?_;refine bA λc901=>rO ?_
  refine⟨congrArg Value.bool ?_,o_ []⟩
  rw[hall]
theorem rvars9_spec (l:List Vr)(va:Value)(h:Heap)(hA:aY 2 h va l.length (l.flatMap vrC))(hl:l.length<=1000000000000000)(hOK:∀ x∈l,VrOK x) :
  bG Tryz.prog 88 [va] h λr h'=>r=.bool ((l.all λx=>(lI x).isSome)&&decide (0<l.length))/\Own h [] h':=by
 obtain⟨ya,yc,rfl⟩:=hA.isS
 refine eN Tryz.func88 Tryz.ntmps88 ?_;have o0:=Own.refl h;refine aDT [2,3,4,5,6,7,8,9,10,11,12,13,14,15,16,17,18,19,20,21,22,23,24,25] [3] (λvs hh=>∃(i:Nat),i<=l.length/\vs=[.int .i64 i]/\(∀(j:Nat) (x:Vr),j<i->l[j]?=some x->(lI x).isSome=true)/\Own h [] hh) (λvs _=>match vs with|[.int _ i]=>l.length - i.toNat|_=>0) ?_ ?_
 ·exact⟨0,by omega,rfl,λj c hj=>by omega,o0⟩
 rintro vs junk hh ⟨i,hi,rfl,hE,oh⟩;by_cases hlt:i<l.length
 ·obtain⟨x,hx⟩:=getx hlt
  have hxOK:=hOK x (aDY hx);have no:(lI x).isSome=false->((l.all λx=>(lI x).isSome)&&decide (0<l.length))=false:=λhh=>by rw[rM (p:=λx=>(lI x).isSome) hx hh];rfl
  have q1:=hA.ext oh.ext;clear o0;refine lB jW ?_;refine bB λc51=>rR (aDe jW kT q1 rfl zO zO ?_);refine rR (aDf q1 zO aAp rfl rfl rfl ?_);refine rR (aDl q1 aC (λ_=>rfl) rfl zA rfl ?_);refine aDN (bY x.name _ hxOK.1) ?_;rintro _ g50 ⟨rfl,oc⟩;have z50:=oc.thenE (B:=h) zA;clear oc;cases hb50:aZ x.name
  case false =>
   refine aDK (aDK ?_);refine rO ?_
   exact⟨congrArg Value.bool (no (by rw[aAt];simp[*])).symm,o_ []⟩
  refine aDL (rR (aDe jW kT (hA.ext z50.ext) rfl zO zO ?_));refine rR (aDf (hA.ext z50.ext) zO aAp rfl rfl rfl ?_);refine rR (aDl (hA.ext z50.ext) aC (λ_=>rfl) rfl zA rfl ?_);refine aDN (bY x.table _ hxOK.2) ?_;rintro _ g90 ⟨rfl,oc⟩;have z90:=oc.thenE (B:=h) zA;clear oc;cases hb90:aZ x.table
  case false =>
   refine aDK (rO ?_)
   exact⟨congrArg Value.bool (no (by rw[aAt];simp[*])).symm,o_ []⟩
  refine aDL (aR ?_)
  refine⟨rfl,?_⟩
  exact⟨⟨i+1,by omega,rfl,lF (p:=λx=>(lI x).isSome) hE hx (by rw[aAt];simp[*,show dB 0=true from rfl]),o_ []⟩,by simp;omega⟩
 ·have hall:(l.all λx=>(lI x).isSome)=true:=oZ zO hE
  refine lB jW ?_;refine bA λc901=>lB jW ?_;refine rO ?_
  refine⟨congrArg Value.bool ?_,o_ []⟩
  rw[hall]
  exact decide_eq_decide.2 zO
def aBp:Ex->Ex
 | .mk k t ks cs ns a s g _=>.mk k (if k=1 then t else[]) ks (if k=2 then cs else[]) (if k=3∨k=8 then ns else[]) (if k=7∨k=8 then a else[]) (if k=7∨k=8 then s else[]) (if k=8 then g else 0) 0
theorem bareX_ok:∀(x:Ex),gK x->gK (aBp x)
 | .mk k t ks cs ns a s g o,h=>by
  rw[gK]at h
  rw[aBp,gK]
  obtain⟨h1,h2,h3,h4,h5,h6,h7,h8,h9,h10,h11⟩:=h
  refine⟨h1,?_,h3,?_,?_,?_,?_,?_,h9,?_,?_⟩
  all_goals (split<;>first|assumption|simp)
theorem bareX_iff (k:Int)(t:aBs)(ks:List Ex)(cs:List Cnd)(ns:List aBs)(a s:aBs)(g:Int)(o:Nat):ExQ pB (aBp (.mk k t ks cs ns a s g o)) (.mk k t ks cs ns a s g o)↔gJ k t cs ns a s g=true:=by
 have hks:wM pB ks ks:=(aA9 ks ks).2 rfl
 rw[aBp,ExQ]
 unfold gJ
 rw[decide_eq_true_eq]
 constructor
 ·rintro⟨_,h2,h3,h4,h5,h6,h7,_⟩
  refine⟨?_,?_,?_,?_,?_,?_⟩
  ·by_cases e:k=1
   ·exact .inl e
   ·rw[if_neg e]at h2;exact .inr h2.symm
  ·by_cases e:k=2
   ·exact .inl e
   ·rw[if_neg e]at h3;exact .inr h3.symm
  ·by_cases e:k=3∨k=8
   ·rcases e with e|e
    ·exact .inl e
    ·exact .inr (.inl e)
   ·rw[if_neg e]at h4;exact .inr (.inr h4.symm)
  ·by_cases e:k=7∨k=8
   ·rcases e with e|e
    ·exact .inl e
    ·exact .inr (.inl e)
   ·rw[if_neg e]at h5;exact .inr (.inr h5.symm)
  ·by_cases e:k=7∨k=8
   ·rcases e with e|e
    ·exact .inl e
    ·exact .inr (.inl e)
   ·rw[if_neg e]at h6;exact .inr (.inr h6.symm)
  ·by_cases e:k=8
   ·exact .inl e
   ·rw[if_neg e]at h7;exact .inr h7.symm
 ·rintro⟨h1,h2,h3,h4,h5,h6⟩
  refine⟨rfl,?_,?_,?_,?_,?_,?_,trivial,hks⟩
  ·by_cases e:k=1
   ·rw[if_pos e]
   ·rw[if_neg e];exact(h1.resolve_left e).symm
  ·by_cases e:k=2
   ·rw[if_pos e]
   ·rw[if_neg e];exact(h2.resolve_left e).symm
  ·by_cases e:k=3∨k=8
   ·rw[if_pos e]
   ·rw[if_neg e];exact((h3.resolve_left λx=>e (.inl x)).resolve_left λx=>e (.inr x)).symm
  ·by_cases e:k=7∨k=8
   ·rw[if_pos e]
   ·rw[if_neg e];exact((h4.resolve_left λx=>e (.inl x)).resolve_left λx=>e (.inr x)).symm
  ·by_cases e:k=7∨k=8
   ·rw[if_pos e]
   ·rw[if_neg e];exact((h5.resolve_left λx=>e (.inl x)).resolve_left λx=>e (.inr x)).symm
  ·by_cases e:k=8
   ·rw[if_pos e]
   ·rw[if_neg e];exact(h6.resolve_left e).symm
theorem rkids9_spec (k:Int)(h:Heap):bG Tryz.prog 134 [iv k] h λr h'=>r=iv (fW k:Nat)/\Own h [] h':=by
 refine eN Tryz.func134 Tryz.ntmps134 ?_;have o0:=Own.refl h;unfold fW;by_cases k1:k=1
 ·rw[if_pos k1]
  refine bB λc10=>rO ?_
  exact⟨rfl,o0⟩
 rw[if_neg k1]
 by_cases k4:k=4
 ·rw[if_pos (.inl k4)]
  refine bA λc20=>bB λc21=>?_;refine aDK (rO ?_)
  exact⟨rfl,o0⟩
 by_cases k5:k=5
 ·rw[if_pos (.inr (.inl k5))]
  refine bA λc30=>bA λc31=>?_;refine bB λc32=>aDK ?_;refine rO ?_
  exact⟨rfl,o0⟩
 by_cases k6:k=6
 ·rw[if_pos (.inr (.inr k6))]
  refine bA λc40=>bA λc41=>?_;refine bA λc42=>bB λc43=>?_;refine rO ?_
  exact⟨rfl,o0⟩
 rw[if_neg zO]
 refine bA λc50=>bA λc51=>?_;refine bA λc52=>bA λc53=>?_;refine rO ?_
 exact⟨rfl,o0⟩
theorem aAF (x:Ex)(c:aVs)(h:Heap)(hB:gK x)(hc:fT h c x):bG Tryz.prog 135 [.agg ⟨c⟩] h λr h'=>∃ c',r=.agg ⟨c'⟩/\fT h c' (aBp x)/\Own h [] h':=by
 obtain⟨k,t,ks,cs,ns,a,s,g,o⟩:=x
 rw[aBp]
 rw[fT]at hc
 obtain⟨vk,vc,vn,z,rfl,r1,r2,xs,r3,rk⟩:=hc
 obtain⟨y1,z1,rfl⟩:=aY.isS r3
 obtain⟨y2,z2,rfl⟩:=aY.isS r1
 obtain⟨y3,z3,rfl⟩:=aY.isS r2
 unfold kG;refine eN Tryz.func135 Tryz.ntmps135 ?_;have o0:=Own.refl h;by_cases k1:k=1
 ·subst k1
  refine xB o0 λb10 m10 o10=>?_;refine aDH o10 aQ λb11 m11 o11=>?_;refine fB aE ?_;refine oB o11 0 aK ?_;refine fB aE ?_;refine oB o11 0 cR ?_;refine rR (aDd aE ?_);refine aI rfl ?_;refine aI rfl ?_;refine aDH o11 aQ λb17 m17 o17=>?_;(refine sA o17 2 aQ ?_;intro m18 o18);refine fB aE ?_;refine oB o18 0 aK ?_;refine aDK (fB aE ?_);refine oB o18 0 aC ?_;refine fB aE ?_;(refine sB o18 2 aC ?_;intro m24 o24);refine nB o24 2 aQ ?_;(refine sA o24 1 aQ ?_;intro m26 o26)
  first|refine r1_ o26 1 aQ ?_|refine r2_ o26 1 aQ ?_
  refine⟨_,rfl,?_,o_ []⟩
  rw[fT]
  exact⟨.slice y1 ks.length z1,.slice none 0 0,.slice none 0 0,0,rfl,aY.nil _ _,aY.nil _ _,xs,r3,rk⟩
 by_cases k2:k=2
 ·subst k2
  refine xB o0 λb30 m30 o30=>?_;refine aDH o30 aQ λb31 m31 o31=>?_;refine fB aE ?_;refine oB o31 0 aK ?_;refine fB aE ?_;refine oB o31 0 cR ?_;refine rR (aDd aE ?_);refine aI rfl ?_;refine aI rfl ?_;refine aDH o31 aQ λb37 m37 o37=>?_;(refine sA o37 2 aQ ?_;intro m38 o38);refine fB aE ?_;refine oB o38 0 aK ?_;refine aDL (aDK ?_);refine fB aE ?_;refine oB o38 0 kI ?_;refine fB aE ?_;(refine sB o38 2 kI ?_;intro m44 o44);refine nB o44 2 aQ ?_;(refine sA o44 1 aQ ?_;intro m46 o46)
  first|refine r1_ o46 1 aQ ?_|refine r2_ o46 1 aQ ?_
  refine⟨_,rfl,?_,o_ []⟩
  rw[fT]
  exact⟨.slice y1 ks.length z1,.slice y2 cs.length z2,.slice none 0 0,0,rfl,r1,aY.nil _ _,xs,r3,rk⟩
 by_cases k3:k=3
 ·subst k3
  refine xB o0 λb50 m50 o50=>?_;refine aDH o50 aQ λb51 m51 o51=>?_;refine fB aE ?_;refine oB o51 0 aK ?_;refine fB aE ?_;refine oB o51 0 cR ?_;refine rR (aDd aE ?_);refine aI rfl ?_;refine aI rfl ?_;refine aDH o51 aQ λb57 m57 o57=>?_;(refine sA o57 2 aQ ?_;intro m58 o58);refine fB aE ?_;refine oB o58 0 aK ?_;refine aDL (aDL ?_);refine aDK (fB aE ?_);refine oB o58 0 cS ?_;refine fB aE ?_;(refine sB o58 2 cS ?_;intro m64 o64);refine nB o64 2 aQ ?_;(refine sA o64 1 aQ ?_;intro m66 o66)
  first|refine r1_ o66 1 aQ ?_|refine r2_ o66 1 aQ ?_
  refine⟨_,rfl,?_,o_ []⟩
  rw[fT]
  exact⟨.slice y1 ks.length z1,.slice none 0 0,.slice y3 ns.length z3,0,rfl,aY.nil _ _,r2,xs,r3,rk⟩
 by_cases k7:k=7
 ·subst k7
  refine xB o0 λb70 m70 o70=>?_;refine aDH o70 aQ λb71 m71 o71=>?_;refine fB aE ?_;refine oB o71 0 aK ?_;refine fB aE ?_;refine oB o71 0 cR ?_;refine rR (aDd aE ?_);refine aI rfl ?_;refine aI rfl ?_;refine aDH o71 aQ λb77 m77 o77=>?_;(refine sA o77 2 aQ ?_;intro m78 o78);refine fB aE ?_;refine oB o78 0 aK ?_;refine aDL (aDL ?_);refine aDL (aDK ?_);refine d2_ b70 [0,2,4,6] [1,3] [7] [0,1,2,3,4,5,6,7] ?_;refine fC aE ?_;refine StillVCA.load1 aC rfl rfl ((o78.cellB 0 rfl _).trans rfl) ?_;refine fC aE ?_;refine StillVCA.load1 aC rfl rfl ((o78.cellB 0 rfl _).trans rfl) ?_;refine fC aE ?_;(refine sB o78 2 aC ?_;intro m275 o275);refine aI ((o275.boxBlk 0 rfl).trans (o78.boxBlk 0 rfl).symm) ?_;refine fC aE ?_;(refine sB o275 2 aC ?_;intro m277 o277);refine nB o277 2 aQ ?_;(refine sA o277 1 aQ ?_;intro m279 o279)
  first|refine r1_ o279 1 aQ ?_|refine r2_ o279 1 aQ ?_
  refine⟨_,rfl,?_,o_ []⟩
  rw[fT]
  exact⟨.slice y1 ks.length z1,.slice none 0 0,.slice none 0 0,0,rfl,aY.nil _ _,aY.nil _ _,xs,r3,rk⟩
 by_cases k8:k=8
 ·subst k8
  refine xB o0 λb90 m90 o90=>?_;refine aDH o90 aQ λb91 m91 o91=>?_;refine fB aE ?_;refine oB o91 0 aK ?_;refine fB aE ?_;refine oB o91 0 cR ?_;refine rR (aDd aE ?_);refine aI rfl ?_;refine aI rfl ?_;refine aDH o91 aQ λb97 m97 o97=>?_;(refine sA o97 2 aQ ?_;intro m98 o98);refine fB aE ?_;refine oB o98 0 aK ?_;refine aDL (aDL ?_);refine aDL (aDL ?_);refine aDK (d2_ b90 [0,2,4,6,8,10,12,14] [1,3,5,7] [15] [0,1,2,3,4,5,6,7,8,9,10,11,12,13,14,15] ?_);refine fC aE ?_;refine StillVCA.load1 cS rfl rfl ((o98.cellB 0 rfl _).trans rfl) ?_;refine fC aE ?_;refine StillVCA.load1 aC rfl rfl ((o98.cellB 0 rfl _).trans rfl) ?_;refine fC aE ?_;refine StillVCA.load1 aC rfl rfl ((o98.cellB 0 rfl _).trans rfl) ?_;refine fC aE ?_;refine StillVCA.load1 aK rfl rfl ((o98.cellB 0 rfl _).trans rfl) ?_;refine fC aE ?_;(refine sB o98 2 cS ?_;intro m299 o299);refine aI ((o299.boxBlk 0 rfl).trans (o98.boxBlk 0 rfl).symm) ?_;refine fC aE ?_;(refine sB o299 2 aC ?_;intro m301 o301);refine aI ((o301.boxBlk 0 rfl).trans (o299.boxBlk 0 rfl).symm) ?_;refine fC aE ?_;(refine sB o301 2 aC ?_;intro m303 o303);refine aI ((o303.boxBlk 0 rfl).trans (o301.boxBlk 0 rfl).symm) ?_;refine fC aE ?_;(refine sB o303 2 aK ?_;intro m305 o305);refine nB o305 2 aQ ?_;(refine sA o305 1 aQ ?_;intro m307 o307)
  first|refine r1_ o307 1 aQ ?_|refine r2_ o307 1 aQ ?_
  refine⟨_,rfl,?_,o_ []⟩
  rw[fT]
  exact⟨.slice y1 ks.length z1,.slice none 0 0,.slice y3 ns.length z3,0,rfl,aY.nil _ _,r2,xs,r3,rk⟩
 rw[if_neg k1,if_neg k2,if_neg (show ¬ (k=3∨k=8) by omega),if_neg (show ¬ (k=7∨k=8) by omega),if_neg (show ¬ (k=7∨k=8) by omega),if_neg k8]
 refine xB o0 λb110 m110 o110=>?_;refine aDH o110 aQ λb111 m111 o111=>?_;refine fB aE ?_;refine oB o111 0 aK ?_;refine fB aE ?_;refine oB o111 0 cR ?_;refine rR (aDd aE ?_);refine aI rfl ?_;refine aI rfl ?_;refine aDH o111 aQ λb117 m117 o117=>?_;(refine sA o117 2 aQ ?_;intro m118 o118);refine fB aE ?_;refine oB o118 0 aK ?_;refine bA λc121=>bA λc122=>?_;refine bA λc123=>bA λc124=>?_;refine bA λc125=>nB o118 2 aQ ?_;(refine sA o118 1 aQ ?_;intro m127 o127)
 first|refine r1_ o127 1 aQ ?_|refine r2_ o127 1 aQ ?_
 refine⟨_,rfl,?_,o_ []⟩
 rw[fT]
 exact⟨.slice y1 ks.length z1,.slice none 0 0,.slice none 0 0,0,rfl,aY.nil _ _,aY.nil _ _,xs,r3,rk⟩
theorem mK (l:List aBs):l.flatMap sD=strs l:=by
 induction l with
 | nil=>rfl
 | cons s l ih=>rw[aEf,ih];rfl
theorem yN:∀(n:Nat)(x:Ex)(c:aVs)(h:Heap)(_:eL x<=n)(_:gK x)(_:fT h c x),
  bG Tryz.prog 90 [.agg ⟨c⟩] h λr h'=>r=.bool (gP [] x).isSome/\Own h [] h'
 | 0,.mk _ _ _ _ _ _ _ _ _,_,_,hd,_,_=>absurd hd (by rw[eL];omega)
 | n+1,.mk k t ks cs ns a s g o,c,h,hd,hB,hc=>by
  have hBx:=hB;have hcx:=hc;have hbi:=bareX_iff k t ks cs ns a s g o
  rw[some_ex,some_rest,cF]
  rw[eL]at hd
  rw[gK]at hB
  rw[fT]at hc
  obtain⟨hkr,htl,hOK,hcs,hns,hal,hsl,hgr,hkl,hcl,hnl⟩:=hB
  obtain⟨vk,vc,vn,z,rfl,r1,r2,xs,r3,rk⟩:=hc
  obtain⟨y1,z1,rfl⟩:=aY.isS r3
  obtain⟨y2,z2,rfl⟩:=aY.isS r1
  obtain⟨y3,z3,rfl⟩:=aY.isS r2
  have q2:=r2
  rw[mK]at q2
  unfold kG at hcx ⊢;refine eN Tryz.func90 Tryz.ntmps90 ?_;have o0:=Own.refl h;by_cases hk:1<=k/\k<=8
  case neg =>
   rw[show decide (1<=k/\k<=8/\ks.length=fW k/\gJ k t cs ns a s g=true)=false from decide_eq_false (λhh=>hk ⟨hh.1,hh.2.1⟩),aEu]
   refine xB o0 λb10 m10 o10=>?_;refine d1_ [0,2,3,4,6,7,8,9,11,12,15,16,17,22,23] [1,5,10,13,18,20] [21] [0,1,2,3,4,5,6,7,8,9,10,11,12,13,14,15,16,17,18,20,19,21,22,23] ?_;refine fC aE ?_;refine oC o10 0 aK ?_;refine aDJ (λc13=>?_) (λc13=>?_);refine aDK (rO ?_)
   rotate_left
   refine fC aE ?_;refine oC o10 0 aK ?_;refine bB λc16=>aDK ?_;refine rO ?_
   all_goals exact⟨rfl,o_ []⟩
  refine xB o0 λb50 m50 o50=>?_;refine d1_ [0,2,3,4,6,7,8,9,11,12,15,16,17,22,23] [1,5,10,13,18,20] [21] [0,1,2,3,4,5,6,7,8,9,10,11,12,13,14,15,16,17,18,20,19,21,22,23] ?_;refine fC aE ?_;refine oC o50 0 aK ?_;refine bA λc53=>fC aE ?_;refine oC o50 0 aK ?_;refine bA λc56=>fC aE ?_;refine oC o50 0 cR ?_;refine aDz rfl cH ?_;refine fC aE ?_;refine oC o50 0 aK ?_;have ob:Own h [box b50 [iv k,sv t,.slice y1 ks.length z1,.slice y2 cs.length z2,.slice y3 ns.length z3,sv a,sv s,iv g,iv z] 42] m50:=o50;clear o50;refine aDN (rkids9_spec k _) ?_;rintro _ h2 ⟨rfl,oc2⟩;have w2:=oc2.thenE (B:=h) zA
  refine⟨oc2.ext,?_⟩
  clear ob;by_cases hlk:ks.length=fW k
  case neg =>
   rw[show decide (1<=k/\k<=8/\ks.length=fW k/\gJ k t cs ns a s g=true)=false from decide_eq_false (λhh=>hlk hh.2.2.1),aEu]
   refine bD λc70=>aDK ?_;refine rO ?_
   exact⟨rfl,o_ []⟩
  refine bC λc100=>aDr w2 0 rfl aQ rfl rfl rfl ?_;refine aDr w2 0 rfl aQ rfl rfl rfl ?_;refine aDN (aAF _ _ _ hBx (fT.ext (Own.ext (B:=h) zA) _ _ hcx)) ?_;rintro _ h3 ⟨c',rfl,hc',oc3⟩;have w3:=oc3.thenE (B:=h) zA
  refine⟨oc3.ext,?_⟩
  clear w2;refine aDN (oT (n+1) _ _ _ _ _ (by rw[aBp,eL];omega) (bareX_ok _ hBx) hBx (by first|exact hc'|exact fT.ext oc3.ext _ _ hc') (fT.ext (Own.ext (B:=h) zA) _ _ hcx)) ?_;rintro _ h4 ⟨bb,rfl,hbb,oc4⟩;have w4:=oc4.thenE (B:=h) zA;clear w3
  rw[hbi]at hbb
  cases bb with
  | false =>
   rw[show decide (1<=k/\k<=8/\ks.length=fW k/\gJ k t cs ns a s g=true)=false from decide_eq_false (λhh=>by have:=hbb.2 hh.2.2.2;cases this),aEu]
   refine aDK (rO ?_)
   exact⟨rfl,o_ []⟩
  | true =>
  have hbe:=hbb.1 rfl
  rw[show decide (1<=k/\k<=8/\ks.length=fW k/\gJ k t cs ns a s g=true)=true from decide_eq_true ⟨hk.1,hk.2,hlk,hbe⟩,aEq]
  clear hbb hbi hcx hc';refine aDL ?_;refine aDT [2,3,29,30,31,32,33,34,35,36,37,38,39,40,41,42] [3] (λvs hh=>∃(i:Nat),i<=ks.length/\vs=[.int .i64 i]/\(∀(j:Nat) (x:Ex),j<i->ks[j]?=some x->(gP [] x).isSome=true)/\Own h [box b50 [.int .i64 k,.string ⟨⟨t⟩⟩,.slice y1 ks.length z1,.slice y2 cs.length z2,.slice y3 ns.length z3,.string ⟨⟨a⟩⟩,.string ⟨⟨s⟩⟩,.int .i64 g,.int .i64 z] 42] hh) (λvs _=>match vs with|[.int _ i]=>ks.length - i.toNat|_=>0) ?_ ?_
  ·exact⟨0,by omega,rfl,λj x hj=>by omega,o_ [0]⟩
  rintro vs junk hh ⟨i,hi,rfl,hE,oh⟩;clear w4;by_cases hlt:i<ks.length
  ·obtain⟨kx,hkx⟩:=getx hlt
   obtain⟨cx,hcx,hrx⟩:=iC rk hkx
   have hdx:=fX hkx;refine fB aE ?_;refine oB oh 0 cR ?_;refine lB cH ?_;refine bB λc223=>fB aE ?_;refine oB oh 0 cR ?_;refine rR (aDe cH aQ (r3.ext oh.ext) rfl zO zO ?_);refine rR (aDg aQ (r3.ext oh.ext) (λy:dG=>y.2) zD rfl zA ?_);refine aDN (yN n kx cx.1 _ (aEc hdx zO) (gG hOK hkx) (fT.ext oh.ext _ _ hrx)) ?_;rintro _ h5 ⟨rfl,oc⟩;have w5:=oc.thenE (B:=h) oh;cases hb:(gP [] kx).isSome with
   | true =>
    refine aDL (aR ?_)
    refine⟨rfl,?_⟩
    exact⟨⟨i+1,by omega,rfl,lF (p:=λx=>(gP [] x).isSome) hE hkx hb,o_ [0]⟩,by simp;omega⟩
   | false =>
    have hno:(ks.all λx=>(gP [] x).isSome)=false:=rM (p:=λx=>(gP [] x).isSome) hkx hb;refine aDK (rO ?_)
    refine⟨congrArg Value.bool ?_,o_ []⟩
    rw[hno,aEu]
  have hall:(ks.all λx=>(gP [] x).isSome)=true:=oZ (p:=λx=>(gP [] x).isSome) zO hE
  rw[hall,aEq]
  have hAn:=(q2.ext oh.ext).to1;have hnl':(strs ns).length=ns.length:=by simp[strs]
  by_cases k1:k=1
  ·rw[if_pos k1]
   refine fB aE ?_;refine oB oh 0 cR ?_;refine lB cH ?_;refine bA λc303=>fB aE ?_;refine oB oh 0 aK ?_;refine bB λc306=>fB aE ?_;refine oB oh 0 aC ?_;refine aDN (bY t _ htl) ?_;rintro _ g1 ⟨rfl,oc⟩;have w1:=oc.thenE (B:=h) zA;clear oc;refine rO ?_
   exact⟨rfl,o_ []⟩
  rw[if_neg k1]
  by_cases k2:k=2
  ·rw[if_pos k2,← cF]
   refine fB aE ?_;refine oB oh 0 cR ?_;refine lB cH ?_;refine bA λc323=>fB aE ?_;refine oB oh 0 aK ?_;refine bA λc326=>bB λc327=>?_;refine fB aE ?_;refine oB oh 0 kI ?_;refine aDN (vS cs _ _ (r1.ext (Own.ext (B:=h) zA)) hcl hcs) ?_;rintro _ g2 ⟨rfl,oc⟩;have w2:=oc.thenE (B:=h) zA;clear oc;refine rO ?_
   exact⟨congrArg Value.bool (cF cs).symm,o_ []⟩
  rw[if_neg k2]
  by_cases k3:k=3
  ·rw[if_pos k3]
   refine fB aE ?_;refine oB oh 0 cR ?_;refine lB cH ?_;refine bA λc343=>fB aE ?_;refine oB oh 0 aK ?_;refine bA λc346=>bA λc347=>?_;refine bB λc348=>fB aE ?_;refine oB oh 0 cS ?_;refine aDN (jX ns _ _ hAn hnl hns) ?_;rintro _ g3 ⟨rfl,oc⟩;have w3:=oc.thenE (B:=h) zA;clear oc;refine rO ?_
   exact⟨rfl,o_ []⟩
  rw[if_neg k3]
  by_cases k7:k=7
  ·rw[if_pos k7]
   refine fB aE ?_;refine oB oh 0 cR ?_;refine lB cH ?_;refine bA λc363=>fB aE ?_;refine oB oh 0 aK ?_;refine bA λc366=>bA λc367=>?_;refine bA λc368=>bB λc369=>?_;refine fB aE ?_;refine oB oh 0 aC ?_;refine aDN (bY a _ hal) ?_;rintro _ g4 ⟨rfl,oc⟩;have w4:=oc.thenE (B:=h) zA;clear oc;cases hb7:aZ a with
   | false =>
    refine aDL (rO ?_)
    exact⟨rfl,o_ []⟩
   | true =>
    refine aDK (fB aE ?_);refine oB w4 0 aC ?_;refine aDN (bY s _ hsl) ?_;rintro _ g5 ⟨rfl,oc⟩;have w5:=oc.thenE (B:=h) zA;clear oc;refine rO ?_
    exact⟨rfl,o_ []⟩
  rw[if_neg k7]
  by_cases k8:k=8
  ·rw[if_pos k8]
   by_cases g1:g=1
   ·rw[if_pos g1,decide_eq_true (show 1<=g/\g<=4 by omega),aEq]
    by_cases ha:a=[]
    ·rw[decide_eq_true ha,aEq]
     refine fB aE ?_;refine oB oh 0 cR ?_;refine lB cH ?_;refine bA λc403=>fB aE ?_;refine oB oh 0 aK ?_;refine bA λc406=>bA λc407=>?_;refine bA λc408=>bA λc409=>?_;refine bB λc410=>fB aE ?_;refine oB oh 0 aK ?_;refine bB λc413=>fB aE ?_;refine oB oh 0 aC ?_;refine bB λc416=>aDK ?_;refine fB aE ?_;refine oB oh 0 cS ?_;refine aDN (jX ns _ _ ((q2.ext (Own.ext (B:=h) zA)).to1) hnl hns) ?_;rintro _ g10 ⟨rfl,oc⟩;have w10:=oc.thenE (B:=h) zA;clear oc;cases hbn:ns.all aZ with
     | false =>
      rw[aEu,aED]
      refine aDL (rO ?_)
      exact⟨rfl,o_ []⟩
     | true =>
      cases ns with
      | nil =>
       refine aDK (fB aE ?_);refine oB w10 0 cS ?_;refine lB aB ?_;refine aDK (fB aE ?_);refine oB w10 0 aC ?_;refine aDN (bY s _ hsl) ?_;rintro _ g11 ⟨rfl,oc⟩;have w11:=oc.thenE (B:=h) zA;clear oc;refine rO ?_
       refine⟨congrArg Value.bool ?_,o_ []⟩
       simp[rP, *]
      | cons s0 r0 =>
       have hA0:=(q2.ext (Own.ext (B:=h) (by assumption:Own h _ _))).to1;have hl0:(s0::r0).length=r0.length+1:=rfl;have hs0:(strs (s0::r0))[0]?=some (sv s0):=rfl;by_cases hw:s0=[119,105,116,104]
       ·refine aDK ?_
        refine fB aE ?_;refine oB w10 0 cS ?_;refine lB aB ?_;refine bA λc443=>fB aE ?_;refine oB w10 0 cS ?_;refine rR (idx aB aC hA0 rfl zO zO ?_);refine rR (aDq hA0 aC rfl a_ ?_);refine bC λc448=>rO ?_
        refine⟨congrArg Value.bool ?_,o_ []⟩
        rw[show rP (s0::r0)=false from decide_eq_false (λe=>e hw),aEu]
       refine aDK (fB aE ?_);refine oB w10 0 cS ?_;refine lB aB ?_;refine bA λc463=>fB aE ?_;refine oB w10 0 cS ?_;refine rR (idx aB aC hA0 rfl zO zO ?_);refine rR (aDq hA0 aC rfl a_ ?_);refine bD λc468=>fB aE ?_;refine oB w10 0 aC ?_;refine aDN (bY s _ hsl) ?_;rintro _ g12 ⟨rfl,oc⟩;have w12:=oc.thenE (B:=h) zA;clear oc;refine rO ?_
       refine⟨congrArg Value.bool ?_,o_ []⟩
       rw[show rP (s0::r0)=true from decide_eq_true hw,aEq,aEq]
    ·rw[decide_eq_false ha,aEu,aED,aED]
     refine fB aE ?_;refine oB oh 0 cR ?_;refine lB cH ?_;refine bA λc503=>fB aE ?_;refine oB oh 0 aK ?_;refine bA λc506=>bA λc507=>?_;refine bA λc508=>bA λc509=>?_;refine bB λc510=>fB aE ?_;refine oB oh 0 aK ?_;refine bB λc513=>fB aE ?_;refine oB oh 0 aC ?_;refine bA λc516=>fB aE ?_;refine oB oh 0 aK ?_;refine bA λc519=>aDL ?_;refine rO ?_
     exact⟨rfl,o_ []⟩
   ·rw[if_neg g1]
    by_cases g4:2<=g/\g<=4
    ·rw[decide_eq_true (show 1<=g/\g<=4 by omega),aEq]
     refine fB aE ?_;refine oB oh 0 cR ?_;refine lB cH ?_;refine bA λc523=>fB aE ?_;refine oB oh 0 aK ?_;refine bA λc526=>bA λc527=>?_;refine bA λc528=>bA λc529=>?_;refine bB λc530=>fB aE ?_;refine oB oh 0 aK ?_;refine bA λc533=>fB aE ?_;refine oB oh 0 aK ?_;refine bB λc536=>fB aE ?_;refine oB oh 0 aK ?_;refine bB λc539=>fB aE ?_;refine oB oh 0 aC ?_;refine aDN (bY a _ hal) ?_;rintro _ g20 ⟨rfl,oc⟩;have w20:=oc.thenE (B:=h) zA;clear oc;cases hba:aZ a with
     | false =>
      rw[aEu,aED,aED]
      refine aDL (rO ?_)
      exact⟨rfl,o_ []⟩
     | true =>
      rw[aEq]
      refine aDK (fB aE ?_);refine oB w20 0 cS ?_;refine aDN (jX ns _ _ ((q2.ext (Own.ext (B:=h) zA)).to1) hnl hns) ?_;rintro _ g21 ⟨rfl,oc⟩;have w21:=oc.thenE (B:=h) zA;clear oc;cases hbn:ns.all aZ with
      | false =>
       rw[aEu,aED]
       refine aDL (rO ?_)
       exact⟨rfl,o_ []⟩
      | true =>
       cases ns with
       | nil =>
        refine aDK (fB aE ?_);refine oB w21 0 cS ?_;refine lB aB ?_;refine aDK (fB aE ?_);refine oB w21 0 aC ?_;refine aDN (bY s _ hsl) ?_;rintro _ g22 ⟨rfl,oc⟩;have w22:=oc.thenE (B:=h) zA;clear oc;refine rO ?_
        refine⟨congrArg Value.bool ?_,o_ []⟩
        simp[rP, *]
       | cons s0 r0 =>
        have hA0:=(q2.ext (Own.ext (B:=h) (by assumption:Own h _ _))).to1;have hl0:(s0::r0).length=r0.length+1:=rfl;have hs0:(strs (s0::r0))[0]?=some (sv s0):=rfl;by_cases hw:s0=[119,105,116,104]
        ·refine aDK ?_
         refine fB aE ?_;refine oB w21 0 cS ?_;refine lB aB ?_;refine bA λc583=>fB aE ?_;refine oB w21 0 cS ?_;refine rR (idx aB aC hA0 rfl zO zO ?_);refine rR (aDq hA0 aC rfl a_ ?_);refine bC λc588=>rO ?_
         refine⟨congrArg Value.bool ?_,o_ []⟩
         rw[show rP (s0::r0)=false from decide_eq_false (λe=>e hw),aEu]
        refine aDK (fB aE ?_);refine oB w21 0 cS ?_;refine lB aB ?_;refine bA λc603=>fB aE ?_;refine oB w21 0 cS ?_;refine rR (idx aB aC hA0 rfl zO zO ?_);refine rR (aDq hA0 aC rfl a_ ?_);refine bD λc608=>fB aE ?_;refine oB w21 0 aC ?_;refine aDN (bY s _ hsl) ?_;rintro _ g23 ⟨rfl,oc⟩;have w23:=oc.thenE (B:=h) zA;clear oc;refine rO ?_
        refine⟨congrArg Value.bool ?_,o_ []⟩
        rw[show rP (s0::r0)=true from decide_eq_true hw,aEq,aEq]
    ·rw[decide_eq_false (show ¬ (1<=g/\g<=4) by omega),aEu,aED,aED]
     refine fB aE ?_;refine oB oh 0 cR ?_;refine lB cH ?_;refine bA λc643=>fB aE ?_;refine oB oh 0 aK ?_;refine bA λc646=>bA λc647=>?_;refine bA λc648=>bA λc649=>?_;refine bB λc650=>fB aE ?_;refine oB oh 0 aK ?_;refine bA λc653=>fB aE ?_;refine oB oh 0 aK ?_;refine aDJ (λc656=>?_) (λc656=>?_);refine fB aE ?_;refine oB oh 0 aK ?_;refine bA λc659=>aDL ?_;refine rO ?_
     rotate_left
     refine aDL (rO ?_)
     all_goals exact⟨rfl,o_ []⟩
  rw[if_neg k8]
  refine fB aE ?_;refine oB oh 0 cR ?_;refine lB cH ?_;refine bA λc663=>fB aE ?_;refine oB oh 0 aK ?_;refine bA λc666=>bA λc667=>?_;refine bA λc668=>bA λc669=>?_;refine bA λc670=>rO ?_
  exact⟨rfl,o_ []⟩
theorem iR.upK {B:Base}{h1 h2:Heap}{K:List Item}{L:List aBs}{r:Value}(p:iR h1 L r h2)(o:Own B K h1):∃ a c,r=.slice a L.length c/\Own B (K++[row (.slice a L.length c) 9 1 L.length (strs L)]) h2:=by
 obtain⟨a,c,rfl,o2⟩:=p
 exact⟨a,c,rfl,o.call o2⟩
theorem gS (ts:List (List aBs))(vs:aVs) {m:Heap}{B:Base}{K:List Item}{b n:Nat}(o:Own B K m)(k:Nat)(hk:K[k]?=some (box b vs 35))(hn:n=vs.length)(hP:lY ts vs m)(hl:ts.length<=1000) {L:List aBs}(hL:ts.flatten=L)(hT:L.length<=1000000000000) :
  bG Tryz.prog 41 [.slice (some ⟨b,0,none⟩) n n] m (iR m L):=by
 subst hn;subst hL;exact yM ts vs (some ⟨b,0,none⟩) vs.length m (o.boxArr k hk rfl (aD6 _)) hP hl hT
theorem xW:∀ {l:List Ex}{i:Nat}{x:Ex},l[i]?=some x->fD x<=gI l
 | [],_,_,h=>by simp at h
 | a::l,0,x,h=>by
  simp at h
  subst h
  rw[gI]
  omega
 | a::l,i+1,x,h=>by
  have:=xW (l:=l) (i:=i) (x:=x) (by simpa using h)
  rw[gI]
  omega
theorem iR.row {h h':Heap}{K:List Item}{v:Value}{n:Nat}{xs:aVs}(L:List aBs)(o:Own h K h')(k:Nat)(hk:K[k]?=some (Go.Proofs.YtohlogbnpfofpaaGreatDoor.row v 9 1 n xs))(hn:n=L.length)(hx:xs=strs L):iR h L v h':=by
 subst hn;subst hx
 obtain⟨a,c,rfl⟩:=o.rowIs k hk
 have o2:=o.sel [k] rfl;have e:pick K [k]=[Go.Proofs.YtohlogbnpfofpaaGreatDoor.row (.slice a L.length c) 9 1 L.length (strs L)]:=by simp[pick,hk]
 rw[e]at o2
 exact⟨a,c,rfl,o2⟩
theorem tZ {ks:List Ex}{k0:Ex}{pk:List Pc}(hl:ks.length=1)(h0:ks[0]?=some k0)(e:jH [] ks=some pk):gP [] k0=some pk:=by
 match ks,hl with
 | [u],_ =>
  simp at h0
  subst h0
  rw[jH]at e
  split at e
  ·rename_i p q e1 e2
   cases e
   rw[jH]at e2
   cases e2
   simpa using e1
  ·cases e
theorem kidsQ_two {ks:List Ex}{k0:Ex}{pk:List Pc}(hl:ks.length=2)(h0:ks[0]?=some k0)(e:jH [] ks=some pk):∃ k1 p0 p1,ks[1]?=some k1/\gP [] k0=some p0/\gP [32] k1=some p1/\pk=p0++[aS [] [44]]++p1:=by
 match ks,hl with
 | [u,v],_ =>
  simp at h0
  subst h0
  rw[jH]at e
  split at e
  ·rename_i p q e1 e2
   cases e
   rw[jH]at e2
   split at e2
   ·rename_i p' q' e3 e4
    cases e2
    rw[jH]at e4
    cases e4
    exact⟨v,p,p',rfl,e1,e3,by simp⟩
   ·cases e2
  ·cases e
def wK:List aBs:=[[32,99,111,117,110,116],[32,115,117,109],[32,108,101,97,115,116],[32,103,114,101,97,116,101,115,116]]
theorem aggWord_at {g:Int}{q:List Pc}(h:hO g [[99,111,117,110,116],[115,117,109],[108,101,97,115,116],[103,114,101,97,116,101,115,116]]=some q):1<=g/\g<=4/\∃ t:aBs,wK[(g - 1).toNat]?=some t/\txts q=[t]:=by
 unfold hO at h;split at h
 ·rename_i hh
  cases h
  have h4:g<=4:=by simpa using hh.2
  refine⟨hh.1,h4,?_⟩
  have:g=1∨g=2∨g=3∨g=4:=by omega
  rcases this with rfl|rfl|rfl|rfl
  ·exact⟨_,rfl,rfl⟩
  ·exact⟨_,rfl,rfl⟩
  ·exact⟨_,rfl,rfl⟩
  ·exact⟨_,rfl,rfl⟩
 ·cases h
def opWords:List aBs:=[[115,101,108,101,99,116],[112,114,111,106,101,99,116],[106,111,105,110],[117,110,105,111,110],[109,105,110,117,115],[114,101,110,97,109,101],[103,114,111,117,112]]
theorem opWord_at {k:Int}(h2:2<=k)(h8:k<=8):∃ w,opWords[(k - 2).toNat]?=some w/\dV.getD (k - 2).toNat []=w/\w.length<=10:=by
 have:k=2∨k=3∨k=4∨k=5∨k=6∨k=7∨k=8:=by omega
 rcases this with rfl|rfl|rfl|rfl|rfl|rfl|rfl<;>exact⟨_,rfl,rfl,by decide⟩
theorem pT:∀(n:Nat)(x:Ex)(c:aVs)(h:Heap)(b:aBs)(ps:List Pc)(_:eL x<=n)(_:gK x)(_:fT h c x)(_:fD x<=50000000)(_:b.length<=100)(_:gP b x=some ps),
  bG Tryz.prog 47 [.agg ⟨c⟩,sv b] h (iR h (txts ps))
 | 0,.mk _ _ _ _ _ _ _ _ _,_,_,_,_,hd,_,_,_,_,_=>absurd hd (by rw[eL];omega)
 | n+1,.mk k t ks cs ns a s g o,c,h,b,ps,hd,hB,hc,hz,hb,hq=>by
  have hps:=ln_ex _ _ _ hq
  rw[eL]at hd
  rw[gK]at hB
  rw[fT]at hc
  rw[fD]at hz hps
  rw[gP]at hq
  obtain⟨hkr,htl,hOK,hcs,hns,hal,hsl,hgr,hkl,hcl,hnl⟩:=hB
  obtain⟨vk,vc,vn,z,rfl,r1,r2,xs,r3,rk⟩:=hc
  obtain⟨y1,z1,rfl⟩:=aY.isS r3
  obtain⟨y2,z2,rfl⟩:=aY.isS r1
  obtain⟨y3,z3,rfl⟩:=aY.isS r2
  have q2:=r2
  rw[mK]at q2
  unfold kG;split at hq
  case isFalse=>cases hq
  rename_i hcond
  obtain⟨hk1,hk8,hkids,_⟩:=hcond
  refine eN Tryz.func47 Tryz.ntmps47 ?_;have o0:=Own.refl h;by_cases k1:k=1
  ·rw[if_pos k1]at hq
   obtain⟨hn,rfl⟩:=bQ hq
   have hnl:=bJ hn;refine xB o0 λb10 m10 o10=>?_;refine fB aE ?_;refine oB o10 0 aK ?_;refine bB λc13=>fB aE ?_;refine oB o10 0 aC ?_;refine rR (aDb rfl rfl (by first|omega|(simp<;>omega)) ?_);refine lA o10 aB aC λb17 m17 o17=>?_;refine rO ?_
   first|exact iR.lit (L:=[b++t]) (o_ [0]) zS|exact iR.lit (L:=[b++t]) (o_ [1]) zS
  rw[if_neg k1]at hq
  obtain⟨p1,q1,e1,i1,rfl⟩:=aN hq
  obtain⟨pk,q2',e2,i2,rfl⟩:=aN i1
  obtain⟨pr,q3,e3,i3,rfl⟩:=aN i2
  obtain⟨p4,q4,e4,i4,rfl⟩:=aN i3
  obtain rfl:=dL i4;cases e1;cases e4
  obtain⟨w,hw,hwn,hwl⟩:=opWord_at (k:=k) zO hk8
  rw[hwn]at hps ⊢
  obtain⟨k0,hk0⟩:=getx (l:=ks) (i:=0) (by rw[hkids];unfold fW;rw[if_neg k1];split<;>omega)
  obtain⟨cx,hcx,hrx⟩:=iC rk hk0
  have hdx:=fX hk0;have hw7:(opWords.map λs=>Value.string ⟨⟨s⟩⟩)[0+(k - 2).toNat]?=some (sv w):=by rw[aEg,aEv,hw];rfl
  have hkpos:0<ks.length:=(aDZ.1 hk0).1;have hksz:=xW hk0
  simp only[aDX,aD1,aD2]at hps
  refine xB o0 λb50 m50 o50=>?_;refine fB aE ?_;refine oB o50 0 aK ?_;refine bA λc53=>lA o50 aB aC λb54 m54 o54=>?_;refine fB aE ?_;refine oB o54 0 aK ?_;refine aR ?_;refine rR (idx aB aC (o54.boxArr 1 rfl zS zS) rfl zO (by first|omega|(simp<;>omega)) ?_);refine rR (aDu o54 1 rfl aC rfl zA ?_);refine rR (aDb rfl rfl (by first|omega|(simp<;>omega)) ?_);refine lA o54 aB aC λb60 m60 o60=>?_;refine fB aE ?_;refine oB o60 0 cR ?_;refine rR (aDe cH aQ (r3.ext o60.ext) rfl zO zO ?_);refine rR (aDg aQ (r3.ext (Own.ext (B:=h) zA)) (λy:dG=>y.2) zD (i:=0) rfl zA ?_);clear hw7 hw hwn;have oa:Own h [box b50 [iv k,sv t,.slice y1 ks.length z1,.slice y2 cs.length z2,.slice y3 ns.length z3,sv a,sv s,iv g,iv z] 42,box b60 (strs [b++w,[40]]) 9] m60:=o60.sel [0,2] rfl;clear o60
  obtain⟨p0,hp0,hpl⟩:∃ p0,gP [] k0=some p0/\p0.length<=pk.length:=by
   cases ks with
   | nil=>simp at hk0
   | cons u r =>
    simp at hk0
    subst hk0
    rw[jH]at e2
    split at e2
    ·rename_i p q e3 e4
     cases e2
     exact⟨p,e3,by simp⟩
    ·cases e2
  refine aDN (pT n k0 cx.1 _ [] p0 (aEc hdx zO) (gG hOK hk0) (fT.ext oa.ext _ _ hrx) zO zS hp0) λr h2 hr=>?_
  obtain⟨a2,c2,rfl,o2⟩:=hr.upK oa
  simp only[lcA,lnA]at o2
  clear oa hr;have hpl0:=fZ p0;refine lA o2 lM cS λb100 m100 o100=>?_;have hP2:lY [[b++w,[40]],txts p0] [.slice (some ⟨b60,0,none⟩) [b++w,[40]].length [b++w,[40]].length,.slice a2 (txts p0).length c2] m100:=⟨pR.lit o100 1 rfl,.arr (o100.rowArr 2 rfl) rfl,trivial⟩
  obtain⟨LL,hLL⟩:∃ LL,LL=(b++w)::[40]::txts p0:=⟨_,rfl⟩
  have hLLn:LL.length=p0.length+2:=by rw[hLL];simp[hpl0]
  refine aDN (gS _ _ o100 3 rfl rfl hP2 zS (L:=LL) (by rw[hLL];simp) zO) λr h3 hr=>?_
  obtain⟨a3,c3,rfl,o3⟩:=hr.upK (o100.sel [0] rfl)
  have o3:Own h [box b50 [iv k,sv t,.slice y1 ks.length z1,.slice y2 cs.length z2,.slice y3 ns.length z3,sv a,sv s,iv g,iv z] 42,row (.slice a3 LL.length c3) 9 1 LL.length (strs LL)] h3:=o3;clear hr o100 o2 hP2;have hpr:=fZ pr;by_cases k2:k=2
  ·subst k2
   have hpk:=tZ hkids hk0 e2;obtain rfl:p0=pk:=Option.some.inj (hp0.symm.trans hpk);have hq2:lW cs=some pr:=e3;refine fB aE ?_;refine oB o3 0 aK ?_;refine aDK (fB aE ?_);refine oB o3 0 kI ?_;refine aDN (vM cs pr _ _ (r1.ext (Own.ext (B:=h) zA)) zO hcs hq2) λr h4 hr=>?_
   obtain⟨a4,c4,rfl,o4⟩:=hr.upK o3
   simp only[lcA,lnA]at o4
   clear o3 hr;refine lA o4 lM cS λb1050 m1050 o1050=>?_;have hP3:lY [LL,txts pr] [.slice a3 LL.length c3,.slice a4 (txts pr).length c4] m1050:=⟨.arr (o1050.rowArr 1 rfl) rfl,.arr (o1050.rowArr 2 rfl) rfl,trivial⟩;refine aDN (gS _ _ o1050 3 rfl rfl hP3 zS (L:=LL++txts pr) zS (by rw[aDX];omega)) λr h5 hr=>?_
   obtain⟨a5,c5,rfl,o5⟩:=hr.upK (o1050.sel [0] rfl)
   have o5:Own h [box b50 [iv 2,sv t,.slice y1 ks.length z1,.slice y2 cs.length z2,.slice y3 ns.length z3,sv a,sv s,iv g,iv z] 42,row (.slice a5 (LL++txts pr).length c5) 9 1 (LL++txts pr).length (strs (LL++txts pr))] h5:=o5;clear hr o1050 o4 hP3;have hfn:(LL++txts pr).length<=1000000000:=by rw[aDX];omega
   rw[show txts ([aG b w,aS [] [40]]++(p0++(pr++([aS [] [41]]++[]))))=(LL++txts pr)++[[41]] by rw[hLL];simp[cM,cN,cW,dU,eT]]
   generalize LL++txts pr=L2 at o5 hfn ⊢
   refine lA o5 aB aC λb1100 m1100 o1100=>?_;(refine aDI o1100 1 rfl aB aC zD (o1100.boxArr 2 rfl zS zS).toN c_ (by simp only[maxLen];first|omega|(simp<;>omega)) (by first|omega|(simp<;>omega)) ?_;intro v1101 m1101 o1101);refine rO ?_;exact iR.row _ zA 1 rfl zS (by simp[strs])
  by_cases k3:k=3
  ·subst k3
   have hpk:=tZ hkids hk0 e2;obtain rfl:p0=pk:=Option.some.inj (hp0.symm.trans hpk);have hq3:aO [some [aG [32] [111,110]],jA bN [32] ns]=some pr:=e3
   obtain⟨pn1,q5,e5,i5,rfl⟩:=aN hq3
   obtain⟨pn,q6,e6,i6,rfl⟩:=aN i5
   obtain rfl:=dL i6;cases e5;have hpn:=uU e6;have hnl2:=oF [32] ns;refine fB aE ?_;refine oB o3 0 aK ?_;refine aDL (aDK ?_);refine lA o3 aB aC λb2002 m2002 o2002=>?_;refine fB aE ?_;refine oB o2002 0 cS ?_;refine aDN (mY ns [32] _ _ ((q2.ext (Own.ext (B:=h) zA)).to1) zO hns zS) λr h4 hr=>?_
   obtain⟨a4,c4,rfl,o4⟩:=hr.upK zA
   simp only[lcA,lnA]at o4
   clear o3 hr;refine lA o4 lM cS λb2050 m2050 o2050=>?_;have hP3:lY [LL,[[32,111,110]],gC [32] ns] [.slice a3 LL.length c3,.slice (some ⟨b2002,0,none⟩) 1 1,.slice a4 (gC [32] ns).length c4] m2050:=⟨.arr (o2050.rowArr 1 rfl) rfl,pR.lit (L:=[[32,111,110]]) o2050 2 rfl,.arr (o2050.rowArr 3 rfl) rfl,trivial⟩
   obtain⟨L2,hL2⟩:∃ L2,L2=LL++[32,111,110]::gC [32] ns:=⟨_,rfl⟩
   have hfn:L2.length<=3000000000:=by rw[hL2,aDX,aD1];omega
   refine aDN (gS _ _ o2050 4 rfl rfl hP3 zS (L:=L2) (by rw[hL2];simp) zO) λr h5 hr=>?_
   obtain⟨a5,c5,rfl,o5⟩:=hr.upK (o2050.sel [0] rfl)
   have o5:Own h [box b50 [iv 3,sv t,.slice y1 ks.length z1,.slice y2 cs.length z2,.slice y3 ns.length z3,sv a,sv s,iv g,iv z] 42,row (.slice a5 L2.length c5) 9 1 L2.length (strs L2)] h5:=o5;clear hr o2050 o4 hP3
   rw[show txts ([aG b w,aS [] [40]]++(p0++(([aG [32] [111,110]]++(pn++[]))++([aS [] [41]]++[]))))=L2++[[41]] by rw[hL2,hLL,← hpn];simp[cM,cN,cW,dU,eT]]
   refine lA o5 aB aC λb2100 m2100 o2100=>?_;(refine aDI o2100 1 rfl aB aC zD (o2100.boxArr 2 rfl zS zS).toN c_ (by simp only[maxLen];first|omega|(simp<;>omega)) (by first|omega|(simp<;>omega)) ?_;intro v2101 m2101 o2101);refine rO ?_;exact iR.row _ zA 1 rfl zS (by simp[strs])
  by_cases k7:k=7
  ·subst k7
   have hpk:=tZ hkids hk0 e2;obtain rfl:p0=pk:=Option.some.inj (hp0.symm.trans hpk);have hq3:aO [some [aS [] [44]],bN [32] a,some [aG [32] [97,115]],bN [32] s]=some pr:=e3
   obtain⟨pn1,q5,e5,i5,rfl⟩:=aN hq3
   obtain⟨pn2,q6,e6,i6,rfl⟩:=aN i5
   obtain⟨pn3,q7,e7,i7,rfl⟩:=aN i6
   obtain⟨pn4,q8,e8,i8,rfl⟩:=aN i7
   obtain rfl:=dL i8;cases e5;cases e7
   obtain⟨hna,rfl⟩:=bQ e6
   obtain⟨hns',rfl⟩:=bQ e8
   have hnal:=bJ hna;have hnsl:=bJ hns'
   rw[show txts ([aG b w,aS [] [40]]++(p0++(([aS [] [44]]++([aG [32] a]++([aG [32] [97,115]]++([aG [32] s]++[]))))++([aS [] [41]]++[]))))=(LL++[[44],32::a,[32,97,115],32::s])++[[41]] by rw[hLL];simp[cM,cN,cW,dU,eT]]
   refine fB aE ?_;refine oB o3 0 aK ?_;refine aDL (aDL ?_);refine aDK (fB aE ?_);refine oB o3 0 aC ?_;refine rR (aDb rfl rfl (by first|omega|(simp<;>omega)) ?_);refine fB aE ?_;refine oB o3 0 aC ?_;refine rR (aDb rfl rfl (by first|omega|(simp<;>omega)) ?_);refine lA o3 aB aC λb3008 m3008 o3008=>?_;(refine aDI o3008 1 rfl aB aC zD (o3008.boxArr 2 rfl zS zS).toN c_ (by simp only[maxLen];first|omega|(simp<;>omega)) (by first|omega|(simp<;>omega)) ?_;intro v3009 m3009 o3009);refine lA o3009 aB aC λb3010 m3010 o3010=>?_;(refine aDI o3010 1 rfl aB aC zD (o3010.boxArr 3 rfl zS zS).toN c_ (by simp only[maxLen];first|omega|(simp<;>omega)) (by first|omega|(simp<;>omega)) ?_;intro v3011 m3011 o3011);refine rO ?_;exact iR.row _ zA 1 rfl zS (by simp[strs])
  by_cases k8:k=8
  ·subst k8
   have hpk:=tZ hkids hk0 e2;obtain rfl:p0=pk:=Option.some.inj (hp0.symm.trans hpk);have hq3:(if rP ns=true then aO [some [aG [32] [111,110]],jA bN [32] ns,some [aG [32] [119,105,116,104]],hO g [[99,111,117,110,116],[115,117,109],[108,101,97,115,116],[103,114,101,97,116,101,115,116]],(if g=1 then(if a=[] then some [] else none) else bN [32] a),some [aG [32] [97,115]],bN [32] s] else none)=some pr:=e3;split at hq3
   case isFalse=>cases hq3
   obtain⟨pn1,q5,e5,i5,rfl⟩:=aN hq3
   obtain⟨pn,q6,e6,i6,rfl⟩:=aN i5
   obtain⟨pn3,q7,e7,i7,rfl⟩:=aN i6
   obtain⟨pw,q8,e8,i8,rfl⟩:=aN i7
   obtain⟨pa,q9,e9,i9,rfl⟩:=aN i8
   obtain⟨pn6,q10,e10,i10,rfl⟩:=aN i9
   obtain⟨pn7,q11,e11,i11,rfl⟩:=aN i10
   obtain rfl:=dL i11;cases e5;cases e7;cases e10
   obtain⟨hns',rfl⟩:=bQ e11
   have hnsl:=bJ hns';have hpn:=uU e6;have hnl2:=oF [32] ns
   obtain⟨hg1,hg4,u,hu,hpw⟩:=aggWord_at e8
   have hpa:txts pa=if a=[] then[] else[32::a]:=by
    split at e9
    ·split at e9
     ·rename_i ha
      cases e9
      rw[if_pos ha]
      rfl
     ·cases e9
    ·obtain⟨hna,rfl⟩:=bQ e9
     rw[if_neg (λe=>by rw[e]at hna;cases hna)]
     rfl
   have hal2:a.length<=24:=by
    split at e9
    ·split at e9
     ·rename_i ha
      rw[ha]
      simp
     ·cases e9
    ·exact bJ (bQ e9).1
   rw[show txts ([aG b w,aS [] [40]]++(p0++(([aG [32] [111,110]]++(pn++([aG [32] [119,105,116,104]]++(pw++(pa++([aG [32] [97,115]]++([aG [32] s]++[])))))))++([aS [] [41]]++[]))))=(LL++[32,111,110]::(gC [32] ns++[[32,119,105,116,104],u]))++(if a=[] then[] else[32::a])++[[32,97,115],32::s]++[[41]] by rw[hLL,← hpn,← hpa];simp[cM,cN,cW,dU,eT,hpw]]
   refine fB aE ?_;refine oB o3 0 aK ?_;refine aDL (aDL ?_);refine aDL (aDK ?_);refine aDA [0,2,6,8,9,14] [3,7,10] [12,13] [0,2,3,6,7,8] [1,4,5,9,10,11] [12,13,14] [74,77,78,82,83,84] [([],[]),([],[]),([],[]),([5],[78]),([9],[82]),([10],[83])] mixed k_ (λ_ _ _ _ h=>h) ?_;refine fC aE ?_;refine oC o3 0 cS ?_;refine fC aE ?_;refine oC o3 0 aK ?_;refine aR ?_
   refine⟨rfl,RestA.of [(1,.tk [[32,111,110]]),(4,.tk (gC [32] ns)),(5,.tk wK),(9,.cell (sv u)),(10,.val (sv u)),(11,.tk [[32,119,105,116,104],u])] ⟨?_,?_,?_,?_,?_,?_,trivial⟩ ?_⟩
   ·intro junk h1 eh
    have oz:=Own.refl h1;refine lA (Own.refl _) aB aC λb4050 m4050 o4050=>?_;(refine aI o4050.ext ?_;have o4051:=Own.call oz o4050;simp only[lcA,lnA]at o4051;clear o4050);exact pR.lit (L:=[[32,111,110]]) zA 0 rfl
   ·intro junk h1 eh
    refine aDN (mY ns [32] _ _ ((q2.ext ((o3.extE eh).ext)).to1) zO hns zS) λr h2 hr=>?_;exact hr.extP
   ·intro junk h1 eh
    have oz:=Own.refl h1;refine lA (Own.refl _) aB aC λb4060 m4060 o4060=>?_;(refine aI o4060.ext ?_;have o4061:=Own.call oz o4060;simp only[lcA,lnA]at o4061;clear o4060);exact pR.lit (L:=wK) zA 0 rfl
   ·rintro junk h1 eh v1 ⟨a1,c1,rfl,hA1⟩
    have oz:=Own.refl h1;have hl4:(strs wK).length=4:=rfl;refine rR (idx aB aC hA1 rfl zO zO ?_);refine aI oz.ext ?_;exact pR.cell hA1 hu
   ·rintro junk h1 eh v1 ⟨a1,rfl,hA1⟩
    have oz:=Own.refl h1;refine rR (load1 aC rfl zA ?_);refine aI oz.ext ?_
    rfl
   ·rintro junk h1 eh v1 rfl
    have oz:=Own.refl h1;refine lA (Own.refl _) aB aC λb4090 m4090 o4090=>?_;(refine aI o4090.ext ?_;have o4091:=Own.call oz o4090;simp only[lcA,lnA]at o4091;clear o4090);exact pR.lit (L:=[[32,119,105,116,104],u]) zA 0 rfl
   rintro junk h2 eh v1 ⟨a1,c1,rfl,p1⟩ v2 ⟨a2,c2,rfl,p2⟩ v3 p3 v4 p4 v5 p5 v6 ⟨a6,c6,rfl,p6⟩;clear p3 p4 p5;have oh2:=o3.extE eh;have hPs:lY [LL,[[32,111,110]],gC [32] ns,[[32,119,105,116,104],u]] [.slice a3 LL.length c3,.slice a1 1 c1,.slice a2 (gC [32] ns).length c2,.slice a6 2 c6] h2:=⟨.arr (oh2.rowArr 1 rfl) rfl,.arr p1 rfl,.arr p2 rfl,.arr p6 rfl,trivial⟩;clear p1 p2 p6 o3;have oz:=Own.refl h2;refine lA oz lM cS λb4100 m4100 o4100=>?_
   obtain⟨L2,hL2⟩:∃ L2,L2=LL++[32,111,110]::(gC [32] ns++[[32,119,105,116,104],u]):=⟨_,rfl⟩
   have hfn:L2.length<=3000000000:=by rw[hL2,aDX,aD1,aDX];simp only[aD1,aD2];omega
   refine aDN (gS _ _ o4100 0 rfl rfl (hPs.ext o4100.ext) zS (L:=L2) (by rw[hL2];simp) zO) λr h5 hr=>?_
   obtain⟨a5,c5,rfl,o5⟩:=hr.upK ((oh2.extE o4100.ext).sel [0] rfl)
   have o5:Own h [box b50 [iv 8,sv t,.slice y1 ks.length z1,.slice y2 cs.length z2,.slice y3 ns.length z3,sv a,sv s,iv g,iv z] 42,row (.slice a5 L2.length c5) 9 1 L2.length (strs L2)] h5:=o5;clear hr oz oh2 o4100 hPs
   rw[← hL2]
   by_cases ha:a=[]
   ·rw[if_pos ha,aD7]
    refine fB aE ?_;refine oB o5 0 aC ?_;refine bC λc4202=>fB aE ?_;refine oB o5 0 aC ?_;refine rR (aDb rfl rfl (by first|omega|(simp<;>omega)) ?_);refine lA o5 aB aC λb4206 m4206 o4206=>?_;(refine aDI o4206 1 rfl aB aC zD (o4206.boxArr 2 rfl zS zS).toN c_ (by simp only[maxLen];first|omega|(simp<;>omega)) (by first|omega|(simp<;>omega)) ?_;intro v4207 m4207 o4207);refine lA o4207 aB aC λb4208 m4208 o4208=>?_;(refine aDI o4208 1 rfl aB aC zD (o4208.boxArr 3 rfl zS zS).toN c_ (by simp only[maxLen];first|omega|(simp<;>omega)) (by first|omega|(simp<;>omega)) ?_;intro v4209 m4209 o4209);refine rO ?_;exact iR.row _ zA 1 rfl zS (by simp[strs])
   ·rw[if_neg ha]
    refine fB aE ?_;refine oB o5 0 aC ?_;refine bD λc4302=>fB aE ?_;refine oB o5 0 aC ?_;refine rR (aDb rfl rfl (by first|omega|(simp<;>omega)) ?_);refine lA o5 aB aC λb4306 m4306 o4306=>?_;(refine aDI o4306 1 rfl aB aC zD (o4306.boxArr 2 rfl zS zS).toN c_ (by simp only[maxLen];first|omega|(simp<;>omega)) (by first|omega|(simp<;>omega)) ?_;intro v4307 m4307 o4307);refine fB aE ?_;refine oB o4307 0 aC ?_;refine rR (aDb rfl rfl (by first|omega|(simp<;>omega)) ?_);refine lA o4307 aB aC λb4311 m4311 o4311=>?_;(refine aDI o4311 1 rfl aB aC zD (o4311.boxArr 3 rfl zS zS).toN c_ (by simp only[maxLen];first|omega|(simp<;>omega)) (by first|omega|(simp<;>omega)) ?_;intro v4312 m4312 o4312);refine lA o4312 aB aC λb4313 m4313 o4313=>?_;(refine aDI o4313 1 rfl aB aC zD (o4313.boxArr 4 rfl zS zS).toN c_ (by simp only[maxLen];first|omega|(simp<;>omega)) (by first|omega|(simp<;>omega)) ?_;intro v4314 m4314 o4314);refine rO ?_;exact iR.row _ zA 1 rfl zS (by simp[strs])
  have hkd:fW k=2:=by unfold fW;rw[if_neg k1,if_pos zO]
  obtain⟨k1',p0',p1,hk1',hp0',hp1,rfl⟩:=kidsQ_two (hkids.trans hkd) hk0 e2
  obtain rfl:p0=p0':=Option.some.inj (hp0.symm.trans hp0');have hk1pos:1<ks.length:=(aDZ.1 hk1').1
  obtain⟨cy,hcy,hry⟩:=iC rk hk1'
  have hdy:=fX hk1';have hksz1:=xW hk1';have hpl1:=fZ p1;obtain rfl:pr=[]:=by
   have e3':(some []:Option (List Pc))=some pr:=by rw[← e3];unfold eW;rw[if_neg k2,if_neg k3,if_neg k7,if_neg k8]
   exact(Option.some.inj e3').symm
  simp only[aDX,aD1,aD2]at hps
  refine fB aE ?_;refine oB o3 0 aK ?_;refine bA λc5002=>bA λc5003=>?_;refine bA λc5004=>bA λc5005=>?_;refine lA o3 aB aC λb5006 m5006 o5006=>?_;refine fB aE ?_;refine oB o5006 0 cR ?_;refine rR (aDe cH aQ (r3.ext o5006.ext) rfl zO zO ?_);refine rR (aDg aQ (r3.ext (Own.ext (B:=h) zA)) (λy:dG=>y.2) zD (i:=1) rfl zA ?_);refine aDN (pT n k1' cy.1 _ [32] p1 (aEc hdy zO) (gG hOK hk1') (fT.ext (Own.ext (B:=h) zA) _ _ hry) zO zS hp1) λr h4 hr=>?_
  obtain⟨a4,c4,rfl,o4⟩:=hr.upK zA
  simp only[lcA,lnA]at o4
  clear o3 hr;refine lA o4 lM cS λb5050 m5050 o5050=>?_
  obtain⟨L2,hL2⟩:∃ L2,L2=LL++[44]::txts p1:=⟨_,rfl⟩
  have hfn:L2.length<=3000000000:=by rw[hL2,aDX,aD1];omega
  have hP3:lY [LL,[[44]],txts p1] [.slice a3 LL.length c3,.slice (some ⟨b5006,0,none⟩) 1 1,.slice a4 (txts p1).length c4] m5050:=⟨.arr (o5050.rowArr 1 rfl) rfl,pR.lit (L:=[[44]]) o5050 2 rfl,.arr (o5050.rowArr 3 rfl) rfl,trivial⟩;refine aDN (gS _ _ o5050 4 rfl rfl hP3 zS (L:=L2) (by rw[hL2];simp) zO) λr h5 hr=>?_
  obtain⟨a5,c5,rfl,o5⟩:=hr.upK (o5050.sel [0] rfl)
  have o5:Own h [box b50 [iv k,sv t,.slice y1 ks.length z1,.slice y2 cs.length z2,.slice y3 ns.length z3,sv a,sv s,iv g,iv z] 42,row (.slice a5 L2.length c5) 9 1 L2.length (strs L2)] h5:=o5;clear hr o5050 o4 hP3
  rw[show txts ([aG b w,aS [] [40]]++((p0++[aS [] [44]]++p1)++([]++([aS [] [41]]++[]))))=L2++[[41]] by rw[hL2,hLL];simp[cM,cN,cW,dU,eT]]
  refine lA o5 aB aC λb5100 m5100 o5100=>?_;(refine aDI o5100 1 rfl aB aC zD (o5100.boxArr 2 rfl zS zS).toN c_ (by simp only[maxLen];first|omega|(simp<;>omega)) (by first|omega|(simp<;>omega)) ?_;intro v5101 m5101 o5101);refine rO ?_;exact iR.row _ zA 1 rfl zS (by simp[strs])
theorem aY.to1s {h:Heap}{v:Value}{l:List aBs}(r:aY 1 h v l.length (l.flatMap sD)):Arr h v (strs l):=by
 rw[mK]at r
 exact r.to1
theorem Own.litRow {B:Base}{K:List Item}{h:Heap}{L:List aBs}{b:Nat}(o:Own B K h)(k:Nat)(hk:K[k]?=some (box b (strs L) 9))(hn:L.length<=1000):Own B (K.set k (row (.slice (some ⟨b,0,none⟩) L.length L.length) 9 1 L.length (strs L))) h:=by
 have hl:=oO L;have o2:=o.boxRow k hk 1 L.length L.length zO (aD6 _) (by simp only[maxLen];omega)
 rw[aEa zO]at o2
 exact o2
def wH:List aBs:=[[32,116,101,120,116],[32,110,117,109,98,101,114],[32,100,97,121],[32,102,108,97,103]]
theorem zW {n:Int}{ws:List aBs}{q:List Pc}(h:hO n ws=some q):1<=n/\n<=ws.length/\∃ t,(ws.map λs=>32::s)[(n - 1).toNat]?=some t/\txts q=[t]:=by
 unfold hO at h;split at h
 ·rename_i hh
  cases h
  refine⟨hh.1,hh.2,32::ws.getD (n - 1).toNat [],?_,rfl⟩
  have hlt:(n - 1).toNat<ws.length:=by omega
  have e:ws.getD (n - 1).toNat []=ws[(n - 1).toNat]:=by rw[aEi,aEN hlt];rfl
  rw[aEv,aEN hlt,e]
  rfl
 ·cases h
theorem col_parts {i:Nat}{x:Col}{q:List Pc}(h:eK iP i x=some q):∃(t:aBs)(pd:List aBs),1<=x.kind/\x.kind<=4/\wH[(x.kind - 1).toNat]?=some t/\aZ x.name=true/\txts q=(if i=0 then[x.name,t] else[[44],32::x.name,t])++pd /\
  ((x.dflt.k=0/\pd=[])∨(x.dflt.k≠0/\∃ pc,cD x.dflt=some pc/\pd=[32,61]::txts pc)):=by
 have key:∀(b:aBs) (q:List Pc),iP b x=some q->∃(t:aBs) (pd:List aBs),1<=x.kind/\x.kind<=4/\wH[(x.kind - 1).toNat]?=some t/\aZ x.name=true/\txts q=[b++x.name,t]++pd /\
  ((x.dflt.k=0/\pd=[])∨(x.dflt.k≠0/\∃ pc,cD x.dflt=some pc/\pd=[32,61]::txts pc)):=by
  intro b q hq
  obtain⟨p1,q1,e1,i1,rfl⟩:=aN hq
  obtain⟨p2,q2,e2,i2,rfl⟩:=aN i1
  obtain⟨p3,q3,e3,i3,rfl⟩:=aN i2
  obtain rfl:=dL i3
  obtain⟨hn,rfl⟩:=bQ e1
  obtain⟨h1,h4,t,ht,hp⟩:=zW e2
  refine⟨t,txts p3,h1,by simpa using h4,by simpa[wH] using ht,hn,?_,?_⟩
  ·simp only[cM,hp,cN,cW,dU]
   simp
  ·split at e3
   ·rename_i hz
    cases e3
    exact .inl ⟨hz.1,rfl⟩
   ·rename_i hz
    cases hc:cD x.dflt with
    | none=>rw[hc]at e3;cases e3
    | some pc =>
     rw[hc]at e3
     cases e3
     refine .inr ⟨λhk=>hz ?_,pc,rfl,rfl⟩
     have:=(uQ x.dflt).1 (by rw[hc];rfl)
     unfold aC6 at this
     rcases this with h|h|h|h|h
     ·exact h
     all_goals (exact absurd hk zO)
 unfold eK at h;split at h
 ·rename_i h0
  obtain⟨t,pd,a1,a2,a3,a4,a5,a6⟩:=key _ _ h
  exact⟨t,pd,a1,a2,a3,a4,by rw[if_pos h0];exact a5,a6⟩
 ·rename_i h0
  cases hc:iP [32] x with
  | none=>rw[hc]at h;cases h
  | some q' =>
   rw[hc]at h
   cases h
   obtain⟨t,pd,a1,a2,a3,a4,a5,a6⟩:=key _ _ hc
   refine⟨t,pd,a1,a2,a3,a4,?_,a6⟩
   rw[if_neg h0,cN,a5]
   rfl
theorem comI_len {i:Nat}{x:Col}{q:List Pc}(h:eK iP i x=some q):q.length<=6:=by
 unfold eK at h;split at h
 ·have:=ln_col x [] q h
  omega
 ·cases hc:iP [32] x with
  | none=>rw[hc]at h;cases h
  | some q' =>
   rw[hc]at h
   cases h
   have:=ln_col x [32] q' hc
   simp
   omega
theorem aCD (x:It)(c:aVs)(h:Heap)(pc pn:List Pc)(hc:nP h c x)(hOK:fO x)(hz:dF x<=50000000)(hcq:eO iP [] x.cols=some pc)(hnq:eO bN [32] x.names=some pn)(hnm:x.name.length<=24) :
  bG Tryz.prog 38 [.agg ⟨c⟩] h (iR h ([[116,97,98,108,101],32::x.name,[40]]++txts pc++([41]::[32,107,101,121]::txts pn))):=by
 have hz0:dF x=1+x.cols.length+x.names.length+x.terms.length+x.fixed.length+x.vars.length+x.conds.length+fD x.expr:=rfl
 obtain⟨z,vc,vn,vt,vf,vv,vd,e0,e1,e2,e3,e4,e5,e6,e7,e8,rfl,w1,w2,w3,w4,w5,w6,rx⟩:=hc
 obtain⟨i1,j1,rfl⟩:=w1.isS
 obtain⟨i2,j2,rfl⟩:=w2.isS
 obtain⟨bkind,bname,btable,battr,bcols,bnames,bby,bn,bm,bterms,both,boat,bfixed,bvars,bconds,bexpr,lcols,lnames,lterms,lfixed,lvars,lconds⟩:=hOK
 have hne:x.cols≠[]:=λe=>by rw[e]at hcq;cases hcq
 rw[pL iP x.cols hne]at hcq
 unfold eD;refine eN Tryz.func38 Tryz.ntmps38 ?_;have o0:=Own.refl h;refine xB o0 λb10 m10 o10=>?_;refine fB aA ?_;refine oB o10 0 aC ?_;refine rR (aDb rfl rfl (by first|omega|(simp<;>omega)) ?_);refine lA o10 aB aC λb14 m14 o14=>?_
 obtain⟨HD,hHD⟩:∃ HD,HD=[[116,97,98,108,101],32::x.name,[40]]:=⟨_,rfl⟩
 have hHn:HD.length=3:=by rw[hHD];rfl
 have o1:Own h [box b10 [iv x.kind,sv x.name,iv z,sv x.table,sv x.attr,.slice i1 x.cols.length j1,.slice i2 x.names.length j2,iv x.by_,iv x.n,iv x.m,vt,sv x.other,sv x.oattr,vf,vv,vd,e0,e1,e2,e3,e4,e5,e6,e7,e8] 44,row (.slice (some ⟨b14,0,none⟩) 3 3) 9 1 HD.length (strs HD)] m14:=by
  have o2:=o14.litRow (L:=[[116,97,98,108,101],32::x.name,[40]]) 1 rfl zS
  rw[hHD]
  exact o2
 clear o14 o0
 rw[← hHD]
 refine aDT [3,4,5,6,11,12,13,14,15,16,17,18,19,20,21,22,23,24,25,26,27,28,29,30,31,32,33,34,35,36,37,38,39,40,41,42,43,44,45,46,47,48,49,50,51] [3,4] (λws hh=>∃(i:Nat) (v:Value) (p:List Pc),i<=x.cols.length/\ws=[v,.int .i64 i]/\dD (eK iP) (x.cols.take i)=some p/\p.length<=6*i/\Own h [box b10 [.int .i64 x.kind,.string ⟨⟨x.name⟩⟩,.int .i64 z,.string ⟨⟨x.table⟩⟩,.string ⟨⟨x.attr⟩⟩,.slice i1 x.cols.length j1,.slice i2 x.names.length j2,.int .i64 x.by_,.int .i64 x.n,.int .i64 x.m,vt,.string ⟨⟨x.other⟩⟩,.string ⟨⟨x.oattr⟩⟩,vf,vv,vd,e0,e1,e2,e3,e4,e5,e6,e7,e8] 44,row v 9 1 (HD++txts p).length (strs (HD++txts p))] hh) (λws _=>match ws with|[_,.int _ i]=>x.cols.length - i.toNat|_=>0) ?_ ?_
 ·exact⟨0,_,[],by omega,rfl,rfl,by simp,by rw[cW,aD7];exact o1⟩
 rintro ws junk hh ⟨i,v,p,hi,rfl,hp,hpl,oh⟩;clear o1;have hptl:=fZ p;by_cases hlt:i<x.cols.length
 ·obtain⟨y,hy⟩:=getx hlt
  have hyOK:=bcols y (aDY hy)
  obtain⟨q,hqx,hnx⟩:=oV hy hp hcq
  have hqlen:=comI_len hqx
  obtain⟨t,pd,hk1,hk4,ht,hyn,hqt,hpd⟩:=col_parts hqx
  have hynl:=bJ hyn;have hLn:(HD++txts p).length=p.length+3:=by rw[aDX];omega
  have hfin0:HD++txts (p++q)=(HD++txts p)++(if i=0 then[] else[[44]])++[(if i=0 then[] else[32])++y.name,t]++pd:=by
   rw[cM,hqt]
   split<;>simp
  generalize HD++txts p=LL at oh hLn hfin0
  refine fB aA ?_;refine oB oh 0 kU ?_;refine lB iQ ?_;refine bB λc53=>Br.join [3,5,20,21,22] [3,5] (λus h'=>∃(v':Value) (L1:List aBs) (W:aBs),us=[v',sv W]/\W.length<=1/\L1.length<=LL.length+1/\HD++txts (p++q)=L1++[W++y.name,t]++pd/\Own h [box b10 [iv x.kind,sv x.name,iv z,sv x.table,sv x.attr,.slice i1 x.cols.length j1,.slice i2 x.names.length j2,iv x.by_,iv x.n,iv x.m,vt,sv x.other,sv x.oattr,vf,vv,vd,e0,e1,e2,e3,e4,e5,e6,e7,e8] 44,row v' 9 1 (L1).length (strs (L1))] h') rfl rfl ?_ ?_
  ·refine aDJ (λc60=>?_) (λc60=>?_)
   refine lA oh aB aC λb61 m61 o61=>?_;(refine aDI o61 1 rfl aB aC zD (o61.boxArr 2 rfl zS zS).toN c_ (by simp only[maxLen];first|omega|(simp<;>omega)) (by first|omega|(simp<;>omega)) ?_;intro v62 m62 o62)
   refine⟨rfl,?_⟩
   rotate_left
   refine⟨rfl,?_⟩
   ·rw[if_pos (show i=0 by omega),if_pos (show i=0 by omega),aD7]at hfin0
    exact⟨_,LL,[],rfl,by simp,by simp,hfin0,oh⟩
   ·rw[if_neg (show ¬ i=0 by omega),if_neg (show ¬ i=0 by omega)]at hfin0
    exact⟨_,LL++[[44]],[32],rfl,by simp,by simp,hfin0,by rw[aDX,eF];exact o_ [0,1]⟩
  rintro us junk h1 ⟨v',L1,W,rfl,hWl,hL1,hfin,oh1⟩;clear oh hfin0;have hw4:(wH.map λs=>Value.string ⟨⟨s⟩⟩)[0+(y.kind - 1).toNat]?=some (sv t):=by rw[aEg,aEv,ht];rfl
  refine fB aA ?_;refine oB oh1 0 kU ?_;refine rR (aDe iQ eV (w1.ext oh1.ext) rfl zO zO ?_);refine rR (aDg eV (w1.ext oh1.ext) (λ_=>rfl) zD rfl zA ?_);refine aDH oh1 eV λb104 m104 o104=>?_;(refine sA o104 2 eV ?_;intro m105 o105);refine d1_ [0,1,2,4,6,8,9,13] [3,7,10] [11,12] [0,1,2,3,4,6,7,8,5,9,10,11,12,13] ?_;refine fC iG ?_;refine oC o105 2 aC ?_;refine aDb rfl rfl (by first|omega|(simp<;>omega)) ?_;refine fC iG ?_;refine oC o105 2 aK ?_;refine aR (lA (Own.refl _) aB aC λb111 m111 o111=>?_);(refine aI o111.ext ?_;have o112:=Own.call o105 o111;simp only[lcA,lnA]at o112;clear o111);refine idx aB aC (o112.boxArr 3 rfl zS zS) rfl zO (by first|omega|(simp<;>omega)) ?_;refine aDu o112 3 rfl aC rfl zA ?_;refine lA o112 aB aC λb115 m115 o115=>?_;(refine aDI o115 1 rfl aB aC zD (o115.boxArr 4 rfl zS zS).toN c_ (by simp only[maxLen];first|omega|(simp<;>omega)) (by first|omega|(simp<;>omega)) ?_;intro v116 m116 o116);refine fB iG ?_;refine fB bP ?_;refine oB o116 2 aK ?_;refine Br.ndec (λc120=>?_) (λc120=>?_);refine lA o116 aB aC λb121 m121 o121=>?_;refine fB iG ?_;refine nB o121 2 cG ?_
  rotate_left
  refine aR ?_
  refine⟨rfl,?_⟩
  ·obtain⟨_,rfl⟩:y.dflt.k=0/\pd=[]:=hpd.resolve_right λe=>e.1 zO
   rw[aD7]at hfin
   refine⟨⟨i+1,_,p++q,by omega,rfl,hnx,by rw[aDX];omega,?_⟩,by simp;omega⟩
   rw[hfin,aDX,eF]
   exact o_ [0,1]
  ·obtain⟨_,pcc,hcc,rfl⟩:y.dflt.k≠0/\∃ pc,cD y.dflt=some pc/\pd=[32,61]::txts pc:=hpd.resolve_left λe=>by omega
   obtain⟨L2,hL2⟩:∃ L2,L2=L1++[W++y.name,t]:=⟨_,rfl⟩
   have hL2n:L2.length=L1.length+2:=by rw[hL2,aDX];rfl
   obtain⟨a0,c0,rfl⟩:=o121.rowIs 1 rfl
   have ob:Own h [box b10 [iv x.kind,sv x.name,iv z,sv x.table,sv x.attr,.slice i1 x.cols.length j1,.slice i2 x.names.length j2,iv x.by_,iv x.n,iv x.m,vt,sv x.other,sv x.oattr,vf,vv,vd,e0,e1,e2,e3,e4,e5,e6,e7,e8] 44,row (.slice a0 (L1.length+2) c0) 9 1 L2.length (strs L2),box b121 (strs [[32,61]]) 9] m121:=by
    rw[hL2,aDX,eF]
    exact o121.sel [0,1,5] rfl
   clear o121;have hpcl:=tC _ _ hcc;have hpct:=fZ pcc;refine aDN (qV y.dflt pcc _ hcc) λr h2 hr=>?_
   obtain⟨a2,c2,rfl,o2⟩:=hr.upK ob
   simp only[lcA,lnA]at o2
   clear hr ob;refine lA o2 lM cS λb150 m150 o150=>?_;have hP:lY [L2,[[32,61]],txts pcc] [.slice a0 (L1.length+2) c0,.slice (some ⟨b121,0,none⟩) 1 1,.slice a2 (txts pcc).length c2] m150:=⟨.arr (o150.rowArr 1 rfl) hL2n.symm,pR.lit (L:=[[32,61]]) o150 2 rfl,.arr (o150.rowArr 3 rfl) rfl,trivial⟩;refine aDN (gS _ _ o150 4 rfl rfl hP zS (L:=HD++txts (p++q)) (by rw[hfin,hL2];simp) (by rw[hfin,aDX,aDX,aD1];simp only[aD1,aD2];omega)) λr h3 hr=>?_
   obtain⟨a3,c3,rfl,o3⟩:=hr.upK (o150.sel [0] rfl)
   simp only[pick,lgZ,lcA,lnA]at o3
   clear o150 hr o2 hP;refine aR ?_
   refine⟨rfl,?_⟩
   exact⟨⟨i+1,_,p++q,by omega,rfl,hnx,by rw[aDX];omega,o3⟩,by simp;omega⟩
 ·rw[fF zO hp]at hcq
  obtain rfl:=Option.some.inj hcq;have hpn:=rH hnq;have hnl2:=oF [32] x.names
  obtain⟨a0,c0,rfl⟩:=oh.rowIs 1 rfl
  refine fB aA ?_;refine oB oh 0 kU ?_;refine lB iQ ?_;refine bA λc703=>lA oh aB aC λb704 m704 o704=>?_;refine fB aA ?_;refine oB o704 0 cS ?_;refine aDN (mY x.names [32] _ _ ((w2.ext (Own.ext (B:=h) zA)).to1s) zO bnames zS) λr h2 hr=>?_
  obtain⟨a2,c2,rfl,o2⟩:=hr.upK zA
  simp only[lcA,lnA]at o2
  clear hr;have hLn:(HD++txts p).length=p.length+3:=by rw[aDX];omega
  rw[hpn]
  generalize HD++txts p=LL at o2 hLn ⊢
  refine lA o2 lM cS λb750 m750 o750=>?_;have hP:lY [LL,[[41],[32,107,101,121]],gC [32] x.names] [.slice a0 LL.length c0,.slice (some ⟨b704,0,none⟩) 2 2,.slice a2 (gC [32] x.names).length c2] m750:=⟨.arr (o750.rowArr 1 rfl) rfl,pR.lit (L:=[[41],[32,107,101,121]]) o750 2 rfl,.arr (o750.rowArr 3 rfl) rfl,trivial⟩;refine aDN (gS _ _ o750 4 rfl rfl hP zS (L:=LL++[41]::[32,107,101,121]::gC [32] x.names) zS (by rw[aDX,aD1,aD1];omega)) λr h3 hr=>?_;refine rO ?_;exact hr.up (o_ [])
end Go.Proofs.YtohlogbnpfofpaaGreatDoor
