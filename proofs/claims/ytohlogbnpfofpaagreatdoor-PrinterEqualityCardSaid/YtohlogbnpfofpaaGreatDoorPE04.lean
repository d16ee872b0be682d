/- Part 4 of the proof of equality: FnPl, FnPd, FnPe, FnPf, FnPg, FnPh, FnPi, FnPj. -/
import Derived.Test.YtohlogbnpfofpaaGreatDoorPE03
set_option linter.all false
set_option maxHeartbeats 100000000
set_option maxRecDepth 100000
namespace Go.Proofs.YtohlogbnpfofpaaGreatDoor
open Go StillVC
def cW {α:Type}(B:Base)(bp z:Nat)(tk:Item)(n:Nat)(res:Except (Int×Nat) (α×List Tok))(V:α→Value→Item→Prop):Ending→Heap→Prop :=
 Ends (fun v h'=>∃ a r w I,res=.ok (a,r)∧V a v I∧r.length≤n∧cJ tk w r∧Own B [box bp [w,.int .i64 z] 72,tk,I] h')
  (fun c h'=>∃ e w,res=.error e∧c=kQ e∧Own B (PSt bp z w tk) h')
theorem cW.call {α:Type}{g:FuncId}{args:aVs}{s:aVs}{h:Heap}{K:KK}{Q:QQ}{B:Base}{bp z:Nat}{tk:Item}{n:Nat}{res:Except (Int×Nat) (α×List Tok)}{V:α→Value→Item→Prop}
  (sp:Spec Tryz.prog g args h (cW B bp z tk n res V))
  (hret:∀ a r w' v I h',res=.ok (a,r)→V a v I→r.length≤n→cJ tk w' r→Own B [box bp [w',.int .i64 z] 72,tk,I] h'→K v false h')
  (hpan:∀ e w' h',res=.error e→Own B (PSt bp z w' tk) h'→Q (.panic (kQ e)) s h'):CallVC Tryz.prog g args s h K Q :=
 aC0 sp (fun _ _ ⟨_,_,_,_,h1,h2,h3,h4,h5⟩=>hret _ _ _ _ _ _ h1 h2 h3 h4 h5) (fun _ _ ⟨_,_,h1,h2,h3⟩=>by subst h2;exact hpan _ _ _ h1 h3)
theorem PEnd.call {α:Type}{g:FuncId}{args:aVs}{s:aVs}{h:Heap}{K:KK}{Q:QQ}{B:Base}{bp z:Nat}{tk:Item}{n:Nat}{res:Except (Int×Nat) (α×List Tok)}{V:α→Value→Prop}
  (sp:Spec Tryz.prog g args h (PEnd B bp z tk n res V))
  (hret:∀ a r w' v h',res=.ok (a,r)→V a v→r.length≤n→cJ tk w' r→Own B (PSt bp z w' tk) h'→K v false h')
  (hpan:∀ e w' h',res=.error e→Own B (PSt bp z w' tk) h'→Q (.panic (kQ e)) s h'):CallVC Tryz.prog g args s h K Q :=
 aC0 sp (fun _ _ ⟨_,_,_,h1,h2,h3,h4,h5⟩=>hret _ _ _ _ _ h1 h2 h3 h4 h5) (fun _ _ ⟨_,_,h1,h2,h3⟩=>by subst h2;exact hpan _ _ _ h1 h3)
theorem nD {s:aBs}{ts r:List Tok}(h:cM s ts=.ok (true,r)):r.length+1=ts.length:=by
 unfold cM at h;split at h
 ·rename_i hs
  cases ts with
  | nil=>cases hs
  | cons t q=>injection h with h;injection h with _ h;subst h;rfl
 ·injection h with h;injection h with h;cases h
theorem lA {α:Type}{sep:aBs}{one:PM α}{f:Nat}{acc:List α}{ts r:List Tok}(h:cM sep ts=.ok (true,r)):listA sep one (f+1) acc ts=(one >>= fun a=>listA sep one f (acc++[a])) r:=by
 rw[listA,aCj h]
 rfl
theorem nL {α:Type}{sep:aBs}{one:PM α}{f:Nat}{acc:List α}{ts r:List Tok}(h:cM sep ts=.ok (false,r)):listA sep one (f+1) acc ts=.ok (acc,r):=by
 rw[listA,aCj h]
 rfl
def tB (s:aBs):aVs:=[.string ⟨⟨s⟩⟩]
def vlC (x:Vl):aVs:=[.int .i64 x.k,.int .i64 x.n,.string ⟨⟨x.t⟩⟩]
def opdC (x:Opd):aVs:=[.string ⟨⟨x.var⟩⟩,.string ⟨⟨x.attr⟩⟩,.bool x.con,.int .i64 x.val.k,.int .i64 x.val.n,.string ⟨⟨x.val.t⟩⟩]
def nT (x:Cnd):aVs:=[.string ⟨⟨x.left.var⟩⟩,.string ⟨⟨x.left.attr⟩⟩,.bool x.left.con,.int .i64 x.left.val.k,.int .i64 x.left.val.n,.string ⟨⟨x.left.val.t⟩⟩,.int .i64 x.op,.string ⟨⟨x.right.var⟩⟩,.string ⟨⟨x.right.attr⟩⟩,.bool x.right.con,.int .i64 x.right.val.k,.int .i64 x.right.val.n,.string ⟨⟨x.right.val.t⟩⟩,.int .i64 x.add]
def uY (x:Col):aVs:=[.string ⟨⟨x.name⟩⟩,.int .i64 x.kind,.int .i64 x.dflt.k,.int .i64 x.dflt.n,.string ⟨⟨x.dflt.t⟩⟩]
def xW (x:Trm):aVs:=[.string ⟨⟨x.attr⟩⟩,.int .i64 x.measure,.int .i64 x.tol,.int .i64 x.num,.int .i64 x.den,.int .i64 x.gives,.int .i64 x.takes]
def yC (x:Nmd):aVs:=[.string ⟨⟨x.name⟩⟩,.int .i64 x.val.k,.int .i64 x.val.n,.string ⟨⟨x.val.t⟩⟩]
def vrC (x:Vr):aVs:=[.string ⟨⟨x.name⟩⟩,.string ⟨⟨x.table⟩⟩]
theorem listS_spec (g:FuncId)(one:Nat→PM aBs)(hone:PSpec g (fun bp=>[.pointer (some ⟨bp,0,none⟩)]) one (fun a v=>v=.string ⟨⟨a⟩⟩))(sep:aBs)(B:Base)(bp z:Nat)(tk:Item)(w:Value)(ts:List Tok)(h:Heap)(o:Own B (PSt bp z w tk) h)(hR:cJ tk w ts)(hl:ts.length≤5000) :
  Spec Tryz.prog 142 [.pointer (some ⟨bp,0,none⟩),.string ⟨⟨sep⟩⟩,.func (.func g) ⟨[.pointer (some ⟨bp,0,none⟩)]⟩ ⟨[]⟩] h (cW B bp z tk ts.length (iB sep (one z) ts) (fun l v I=>l.length≤5001∧I=row v 9 1 l.length (l.flatMap tB))):=by
 refine aC1 Tryz.func142 rfl Tryz.ntmps142 (by kernel_rfl) ?_;generalize hres:iB sep (one z) ts=res;refine aC6 ?_;refine hone.call o hR hl (fun a r w1 v h1 hm hv hle hR1 o1=>?_) (fun e w1 h1 hm o1=>⟨e,w1,(hres.symm.trans (aCk hm)),rfl,o1⟩);subst hv;have hE:listA sep (one z) (r.length+1) [a] r=res:=(aCj (f:=fun a ts=>listA sep (one z) (ts.length+1) [a] ts) hm).symm.trans hres;(refine aCS o1 aK aL rfl rfl (by decide) (aI rfl ?_);intro b20 m20 o20);have or:=Own.boxRow ‹_› 2 rfl 1 1 1 rfl (aDj _) (by decide);refine aC5 [7,11,12,13,14,15,16,17,18] [7] (fun vs hh=>∃(f:Nat) (acc:List aBs) (q:List Tok) (w':Value) (va:Option Addr) (vc:Nat),vs=[.slice va acc.length vc]∧listA sep (one z) f acc q=res∧q.length<f∧1≤acc.length∧acc.length+q.length≤ts.length+1∧cJ tk w' q∧Own B [box bp [w',.int .i64 z] 72,tk,row (.slice va acc.length vc) 9 1 acc.length (acc.flatMap tB)] hh) (fun vs _=>match vs with|[.slice _ n _]=>6000 - n|_=>0) ?_ ?_
 ·exact⟨r.length+1,[a],r,w1,_,_,rfl,hE,by omega,by simp,by simp;omega,hR1,or⟩
 ·rintro vs junk hh ⟨f,acc,q,w',va,vc,rfl,hE,hf,hac1,hac,hR',oh⟩
  obtain⟨f,rfl⟩:∃ f',f=f'+1:=⟨f - 1,by omega⟩
  refine(cD sep).call (oh.lend [0,1] [2] rfl) hR' (by omega) (fun b q2 w2 v h2 hm hv hle2 hR2 o2=>?_) (fun e w2 h2 hm o2=>absurd hm (cU sep q e))
  subst hv;have o2:=o2.back;cases b with
  | false =>
   rw[nL hm]at hE
   refine aCX ?_;refine aC3 rfl ?_
   refine⟨acc,q2,w2,_,hE.symm,⟨by omega,rfl⟩,by omega,hR2,o2.sel [0,1,2] rfl⟩
  | true =>
   have hlt:=nD hm
   rw[lA hm]at hE
   refine aCW ?_;refine aC6 ?_;refine hone.call (o2.lend [0,1] [2] rfl) hR2 (by omega) (fun a r3 w3 v h3 hm3 hv hle3 hR3 o3=>?_) (fun e w3 h3 hm3 o3=>⟨e,w3,(hE.symm.trans (aCk hm3)),rfl,o3.back.sel [0,1] rfl⟩);subst hv
   rw[aCj hm3]at hE
   have o3:=o3.back;(refine aCS o3 aK aL rfl rfl (by decide) (aI rfl ?_);intro b60 m60 o60);(refine aCU o60 2 rfl aK aL (by decide) (o60.boxArr 3 rfl (by simp) (by simp)).toN (by simp[Value.oneCell']) (by simp only[maxLen];first|omega|(simp;omega)) (by first|omega|(simp;omega)) ?_;intro v61 m61 o61)
   refine⟨rfl,?_⟩
   obtain⟨ua,uc,rfl⟩:=o61.rowIs 2 rfl
   refine⟨⟨f,acc++[a],r3,w3,ua,uc,by simp,hE,by omega,by simp,by simp;omega,hR3,?_⟩,by simp;omega⟩
   have e1:(acc++[a]).flatMap tB=acc.flatMap tB++tB a:=by rw[aDD,aDm,aDY,aDf]
   have e2:(acc++[a]).length=acc.length+1:=by simp
   rw[e1,e2]
   exact Own.sel ‹_› [0,1,2] rfl
theorem listC_spec (g:FuncId)(one:Nat→PM Cnd)(hone:PSpec g (fun bp=>[.pointer (some ⟨bp,0,none⟩)]) one (fun a v=>v=.agg ⟨nT a⟩))(sep:aBs)(B:Base)(bp z:Nat)(tk:Item)(w:Value)(ts:List Tok)(h:Heap)(o:Own B (PSt bp z w tk) h)(hR:cJ tk w ts)(hl:ts.length≤5000) :
  Spec Tryz.prog 143 [.pointer (some ⟨bp,0,none⟩),.string ⟨⟨sep⟩⟩,.func (.func g) ⟨[.pointer (some ⟨bp,0,none⟩)]⟩ ⟨[]⟩] h (cW B bp z tk ts.length (iB sep (one z) ts) (fun l v I=>l.length≤5001∧I=row v 142 14 l.length (l.flatMap nT))):=by
 refine aC1 Tryz.func143 rfl Tryz.ntmps143 (by kernel_rfl) ?_;generalize hres:iB sep (one z) ts=res;refine aC6 ?_;refine hone.call o hR hl (fun a r w1 v h1 hm hv hle hR1 o1=>?_) (fun e w1 h1 hm o1=>⟨e,w1,(hres.symm.trans (aCk hm)),rfl,o1⟩);subst hv;have hE:listA sep (one z) (r.length+1) [a] r=res:=(aCj (f:=fun a ts=>listA sep (one z) (ts.length+1) [a] ts) hm).symm.trans hres;(refine aCF o1 jD eV rfl rfl (by decide) ?_);refine aI rfl ?_;intro b21 m21 o21;have or:=Own.boxRow ‹_› 2 rfl 14 1 1 rfl (aDj _) (by decide);refine aC5 [7,11,12,13,14,15,16,17,18] [7] (fun vs hh=>∃(f:Nat) (acc:List Cnd) (q:List Tok) (w':Value) (va:Option Addr) (vc:Nat),vs=[.slice va acc.length vc]∧listA sep (one z) f acc q=res∧q.length<f∧1≤acc.length∧acc.length+q.length≤ts.length+1∧cJ tk w' q∧Own B [box bp [w',.int .i64 z] 72,tk,row (.slice va acc.length vc) 142 14 acc.length (acc.flatMap nT)] hh) (fun vs _=>match vs with|[.slice _ n _]=>6000 - n|_=>0) ?_ ?_
 ·exact⟨r.length+1,[a],r,w1,_,_,rfl,hE,by omega,by simp,by simp;omega,hR1,or⟩
 ·rintro vs junk hh ⟨f,acc,q,w',va,vc,rfl,hE,hf,hac1,hac,hR',oh⟩
  obtain⟨f,rfl⟩:∃ f',f=f'+1:=⟨f - 1,by omega⟩
  refine(cD sep).call (oh.lend [0,1] [2] rfl) hR' (by omega) (fun b q2 w2 v h2 hm hv hle2 hR2 o2=>?_) (fun e w2 h2 hm o2=>absurd hm (cU sep q e))
  subst hv;have o2:=o2.back;cases b with
  | false =>
   rw[nL hm]at hE
   refine aCX ?_;refine aC3 rfl ?_
   refine⟨acc,q2,w2,_,hE.symm,⟨by omega,rfl⟩,by omega,hR2,o2.sel [0,1,2] rfl⟩
  | true =>
   have hlt:=nD hm
   rw[lA hm]at hE
   refine aCW ?_;refine aC6 ?_;refine hone.call (o2.lend [0,1] [2] rfl) hR2 (by omega) (fun a r3 w3 v h3 hm3 hv hle3 hR3 o3=>?_) (fun e w3 h3 hm3 o3=>⟨e,w3,(hE.symm.trans (aCk hm3)),rfl,o3.back.sel [0,1] rfl⟩);subst hv
   rw[aCj hm3]at hE
   have o3:=o3.back;(refine aCF o3 jD eV rfl rfl (by decide) ?_);refine aI rfl ?_;intro b61 m61 o61;refine aCU ‹_› 2 rfl jD eV (by decide) (Own.boxArrN ‹_› 3 rfl (n:=1) rfl (by omega)) (by simp[Value.oneCell']) (by simp only[maxLen];omega) (by omega) ?_;intro v65 m65 o65
   obtain⟨ua,uc,rfl⟩:=o65.rowIs 2 rfl
   refine⟨rfl,?_⟩
   refine⟨⟨f,acc++[a],r3,w3,ua,uc,by simp,hE,by omega,by simp,by simp;omega,hR3,?_⟩,by simp;omega⟩
   have e1:(acc++[a]).flatMap nT=acc.flatMap nT++nT a:=by rw[aDD,aDm,aDY,aDf]
   have e2:(acc++[a]).length=acc.length+1:=by simp
   rw[e1,e2]
   exact Own.sel ‹_› [0,1,2] rfl
theorem listK_spec (g:FuncId)(one:Nat→PM Col)(hone:PSpec g (fun bp=>[.pointer (some ⟨bp,0,none⟩)]) one (fun a v=>v=.agg ⟨uY a⟩))(sep:aBs)(B:Base)(bp z:Nat)(tk:Item)(w:Value)(ts:List Tok)(h:Heap)(o:Own B (PSt bp z w tk) h)(hR:cJ tk w ts)(hl:ts.length≤5000) :
  Spec Tryz.prog 106 [.pointer (some ⟨bp,0,none⟩),.string ⟨⟨sep⟩⟩,.func (.func g) ⟨[.pointer (some ⟨bp,0,none⟩)]⟩ ⟨[]⟩] h (cW B bp z tk ts.length (iB sep (one z) ts) (fun l v I=>l.length≤5001∧I=row v 132 5 l.length (l.flatMap uY))):=by
 refine aC1 Tryz.func106 rfl Tryz.ntmps106 (by kernel_rfl) ?_;generalize hres:iB sep (one z) ts=res;refine aC6 ?_;refine hone.call o hR hl (fun a r w1 v h1 hm hv hle hR1 o1=>?_) (fun e w1 h1 hm o1=>⟨e,w1,(hres.symm.trans (aCk hm)),rfl,o1⟩);subst hv;have hE:listA sep (one z) (r.length+1) [a] r=res:=(aCj (f:=fun a ts=>listA sep (one z) (ts.length+1) [a] ts) hm).symm.trans hres;(refine aCF o1 kK fB rfl rfl (by decide) ?_);refine aI rfl ?_;intro b21 m21 o21;have or:=Own.boxRow ‹_› 2 rfl 5 1 1 rfl (aDj _) (by decide);refine aC5 [7,11,12,13,14,15,16,17,18] [7] (fun vs hh=>∃(f:Nat) (acc:List Col) (q:List Tok) (w':Value) (va:Option Addr) (vc:Nat),vs=[.slice va acc.length vc]∧listA sep (one z) f acc q=res∧q.length<f∧1≤acc.length∧acc.length+q.length≤ts.length+1∧cJ tk w' q∧Own B [box bp [w',.int .i64 z] 72,tk,row (.slice va acc.length vc) 132 5 acc.length (acc.flatMap uY)] hh) (fun vs _=>match vs with|[.slice _ n _]=>6000 - n|_=>0) ?_ ?_
 ·exact⟨r.length+1,[a],r,w1,_,_,rfl,hE,by omega,by simp,by simp;omega,hR1,or⟩
 ·rintro vs junk hh ⟨f,acc,q,w',va,vc,rfl,hE,hf,hac1,hac,hR',oh⟩
  obtain⟨f,rfl⟩:∃ f',f=f'+1:=⟨f - 1,by omega⟩
  refine(cD sep).call (oh.lend [0,1] [2] rfl) hR' (by omega) (fun b q2 w2 v h2 hm hv hle2 hR2 o2=>?_) (fun e w2 h2 hm o2=>absurd hm (cU sep q e))
  subst hv;have o2:=o2.back;cases b with
  | false =>
   rw[nL hm]at hE
   refine aCX ?_;refine aC3 rfl ?_
   refine⟨acc,q2,w2,_,hE.symm,⟨by omega,rfl⟩,by omega,hR2,o2.sel [0,1,2] rfl⟩
  | true =>
   have hlt:=nD hm
   rw[lA hm]at hE
   refine aCW ?_;refine aC6 ?_;refine hone.call (o2.lend [0,1] [2] rfl) hR2 (by omega) (fun a r3 w3 v h3 hm3 hv hle3 hR3 o3=>?_) (fun e w3 h3 hm3 o3=>⟨e,w3,(hE.symm.trans (aCk hm3)),rfl,o3.back.sel [0,1] rfl⟩);subst hv
   rw[aCj hm3]at hE
   have o3:=o3.back;(refine aCF o3 kK fB rfl rfl (by decide) ?_);refine aI rfl ?_;intro b61 m61 o61;refine aCU ‹_› 2 rfl kK fB (by decide) (Own.boxArrN ‹_› 3 rfl (n:=1) rfl (by omega)) (by simp[Value.oneCell']) (by simp only[maxLen];omega) (by omega) ?_;intro v65 m65 o65
   obtain⟨ua,uc,rfl⟩:=o65.rowIs 2 rfl
   refine⟨rfl,?_⟩
   refine⟨⟨f,acc++[a],r3,w3,ua,uc,by simp,hE,by omega,by simp,by simp;omega,hR3,?_⟩,by simp;omega⟩
   have e1:(acc++[a]).flatMap uY=acc.flatMap uY++uY a:=by rw[aDD,aDm,aDY,aDf]
   have e2:(acc++[a]).length=acc.length+1:=by simp
   rw[e1,e2]
   exact Own.sel ‹_› [0,1,2] rfl
theorem listN_spec (g:FuncId)(one:Nat→PM Nmd)(hone:PSpec g (fun bp=>[.pointer (some ⟨bp,0,none⟩)]) one (fun a v=>v=.agg ⟨yC a⟩))(sep:aBs)(B:Base)(bp z:Nat)(tk:Item)(w:Value)(ts:List Tok)(h:Heap)(o:Own B (PSt bp z w tk) h)(hR:cJ tk w ts)(hl:ts.length≤5000) :
  Spec Tryz.prog 113 [.pointer (some ⟨bp,0,none⟩),.string ⟨⟨sep⟩⟩,.func (.func g) ⟨[.pointer (some ⟨bp,0,none⟩)]⟩ ⟨[]⟩] h (cW B bp z tk ts.length (iB sep (one z) ts) (fun l v I=>l.length≤5001∧I=row v 95 4 l.length (l.flatMap yC))):=by
 refine aC1 Tryz.func113 rfl Tryz.ntmps113 (by kernel_rfl) ?_;generalize hres:iB sep (one z) ts=res;refine aC6 ?_;refine hone.call o hR hl (fun a r w1 v h1 hm hv hle hR1 o1=>?_) (fun e w1 h1 hm o1=>⟨e,w1,(hres.symm.trans (aCk hm)),rfl,o1⟩);subst hv;have hE:listA sep (one z) (r.length+1) [a] r=res:=(aCj (f:=fun a ts=>listA sep (one z) (ts.length+1) [a] ts) hm).symm.trans hres;(refine aCF o1 nH pI rfl rfl (by decide) ?_);refine aI rfl ?_;intro b21 m21 o21;have or:=Own.boxRow ‹_› 2 rfl 4 1 1 rfl (aDj _) (by decide);refine aC5 [7,11,12,13,14,15,16,17,18] [7] (fun vs hh=>∃(f:Nat) (acc:List Nmd) (q:List Tok) (w':Value) (va:Option Addr) (vc:Nat),vs=[.slice va acc.length vc]∧listA sep (one z) f acc q=res∧q.length<f∧1≤acc.length∧acc.length+q.length≤ts.length+1∧cJ tk w' q∧Own B [box bp [w',.int .i64 z] 72,tk,row (.slice va acc.length vc) 95 4 acc.length (acc.flatMap yC)] hh) (fun vs _=>match vs with|[.slice _ n _]=>6000 - n|_=>0) ?_ ?_
 ·exact⟨r.length+1,[a],r,w1,_,_,rfl,hE,by omega,by simp,by simp;omega,hR1,or⟩
 ·rintro vs junk hh ⟨f,acc,q,w',va,vc,rfl,hE,hf,hac1,hac,hR',oh⟩
  obtain⟨f,rfl⟩:∃ f',f=f'+1:=⟨f - 1,by omega⟩
  refine(cD sep).call (oh.lend [0,1] [2] rfl) hR' (by omega) (fun b q2 w2 v h2 hm hv hle2 hR2 o2=>?_) (fun e w2 h2 hm o2=>absurd hm (cU sep q e))
  subst hv;have o2:=o2.back;cases b with
  | false =>
   rw[nL hm]at hE
   refine aCX ?_;refine aC3 rfl ?_
   refine⟨acc,q2,w2,_,hE.symm,⟨by omega,rfl⟩,by omega,hR2,o2.sel [0,1,2] rfl⟩
  | true =>
   have hlt:=nD hm
   rw[lA hm]at hE
   refine aCW ?_;refine aC6 ?_;refine hone.call (o2.lend [0,1] [2] rfl) hR2 (by omega) (fun a r3 w3 v h3 hm3 hv hle3 hR3 o3=>?_) (fun e w3 h3 hm3 o3=>⟨e,w3,(hE.symm.trans (aCk hm3)),rfl,o3.back.sel [0,1] rfl⟩);subst hv
   rw[aCj hm3]at hE
   have o3:=o3.back;(refine aCF o3 nH pI rfl rfl (by decide) ?_);refine aI rfl ?_;intro b61 m61 o61;refine aCU ‹_› 2 rfl nH pI (by decide) (Own.boxArrN ‹_› 3 rfl (n:=1) rfl (by omega)) (by simp[Value.oneCell']) (by simp only[maxLen];omega) (by omega) ?_;intro v65 m65 o65
   obtain⟨ua,uc,rfl⟩:=o65.rowIs 2 rfl
   refine⟨rfl,?_⟩
   refine⟨⟨f,acc++[a],r3,w3,ua,uc,by simp,hE,by omega,by simp,by simp;omega,hR3,?_⟩,by simp;omega⟩
   have e1:(acc++[a]).flatMap yC=acc.flatMap yC++yC a:=by rw[aDD,aDm,aDY,aDf]
   have e2:(acc++[a]).length=acc.length+1:=by simp
   rw[e1,e2]
   exact Own.sel ‹_› [0,1,2] rfl
theorem listV_spec (g:FuncId)(one:Nat→PM Vr)(hone:PSpec g (fun bp=>[.pointer (some ⟨bp,0,none⟩)]) one (fun a v=>v=.agg ⟨vrC a⟩))(sep:aBs)(B:Base)(bp z:Nat)(tk:Item)(w:Value)(ts:List Tok)(h:Heap)(o:Own B (PSt bp z w tk) h)(hR:cJ tk w ts)(hl:ts.length≤5000) :
  Spec Tryz.prog 115 [.pointer (some ⟨bp,0,none⟩),.string ⟨⟨sep⟩⟩,.func (.func g) ⟨[.pointer (some ⟨bp,0,none⟩)]⟩ ⟨[]⟩] h (cW B bp z tk ts.length (iB sep (one z) ts) (fun l v I=>l.length≤5001∧I=row v 98 2 l.length (l.flatMap vrC))):=by
 refine aC1 Tryz.func115 rfl Tryz.ntmps115 (by kernel_rfl) ?_;generalize hres:iB sep (one z) ts=res;refine aC6 ?_;refine hone.call o hR hl (fun a r w1 v h1 hm hv hle hR1 o1=>?_) (fun e w1 h1 hm o1=>⟨e,w1,(hres.symm.trans (aCk hm)),rfl,o1⟩);subst hv;have hE:listA sep (one z) (r.length+1) [a] r=res:=(aCj (f:=fun a ts=>listA sep (one z) (ts.length+1) [a] ts) hm).symm.trans hres;(refine aCF o1 nV lW rfl rfl (by decide) ?_);refine aI rfl ?_;intro b21 m21 o21;have or:=Own.boxRow ‹_› 2 rfl 2 1 1 rfl (aDj _) (by decide);refine aC5 [7,11,12,13,14,15,16,17,18] [7] (fun vs hh=>∃(f:Nat) (acc:List Vr) (q:List Tok) (w':Value) (va:Option Addr) (vc:Nat),vs=[.slice va acc.length vc]∧listA sep (one z) f acc q=res∧q.length<f∧1≤acc.length∧acc.length+q.length≤ts.length+1∧cJ tk w' q∧Own B [box bp [w',.int .i64 z] 72,tk,row (.slice va acc.length vc) 98 2 acc.length (acc.flatMap vrC)] hh) (fun vs _=>match vs with|[.slice _ n _]=>6000 - n|_=>0) ?_ ?_
 ·exact⟨r.length+1,[a],r,w1,_,_,rfl,hE,by omega,by simp,by simp;omega,hR1,or⟩
 ·rintro vs junk hh ⟨f,acc,q,w',va,vc,rfl,hE,hf,hac1,hac,hR',oh⟩
  obtain⟨f,rfl⟩:∃ f',f=f'+1:=⟨f - 1,by omega⟩
  refine(cD sep).call (oh.lend [0,1] [2] rfl) hR' (by omega) (fun b q2 w2 v h2 hm hv hle2 hR2 o2=>?_) (fun e w2 h2 hm o2=>absurd hm (cU sep q e))
  subst hv;have o2:=o2.back;cases b with
  | false =>
   rw[nL hm]at hE
   refine aCX ?_;refine aC3 rfl ?_
   refine⟨acc,q2,w2,_,hE.symm,⟨by omega,rfl⟩,by omega,hR2,o2.sel [0,1,2] rfl⟩
  | true =>
   have hlt:=nD hm
   rw[lA hm]at hE
   refine aCW ?_;refine aC6 ?_;refine hone.call (o2.lend [0,1] [2] rfl) hR2 (by omega) (fun a r3 w3 v h3 hm3 hv hle3 hR3 o3=>?_) (fun e w3 h3 hm3 o3=>⟨e,w3,(hE.symm.trans (aCk hm3)),rfl,o3.back.sel [0,1] rfl⟩);subst hv
   rw[aCj hm3]at hE
   have o3:=o3.back;(refine aCF o3 nV lW rfl rfl (by decide) ?_);refine aI rfl ?_;intro b61 m61 o61;refine aCU ‹_› 2 rfl nV lW (by decide) (Own.boxArrN ‹_› 3 rfl (n:=1) rfl (by omega)) (by simp[Value.oneCell']) (by simp only[maxLen];omega) (by omega) ?_;intro v65 m65 o65
   obtain⟨ua,uc,rfl⟩:=o65.rowIs 2 rfl
   refine⟨rfl,?_⟩
   refine⟨⟨f,acc++[a],r3,w3,ua,uc,by simp,hE,by omega,by simp,by simp;omega,hR3,?_⟩,by simp;omega⟩
   have e1:(acc++[a]).flatMap vrC=acc.flatMap vrC++vrC a:=by rw[aDD,aDm,aDY,aDf]
   have e2:(acc++[a]).length=acc.length+1:=by simp
   rw[e1,e2]
   exact Own.sel ‹_› [0,1,2] rfl
def vlV (x:Vl):Value:=.agg ⟨vlC x⟩
def litV:Option Vl→Value→Prop
 | some x,v=>v=.tuple ⟨[vlV x,.bool true]⟩
 | none,v=>v=.tuple ⟨[vlV vl0,.bool false]⟩
theorem uL:PSpec 158 (fun bp=>[.pointer (some ⟨bp,0,none⟩)]) (fun z=>dO z) litV:=by
 intro B bp z tk w ts h o hR hl
 obtain⟨hR,hK⟩:=hR
 refine aC1 Tryz.func158 rfl Tryz.ntmps158 (by kernel_rfl) ?_;cases ts with
 | nil =>
  (refine aCT o bS ?_;intro b10 m10 o10);refine rR (nC rfl ?_);refine rR (fA fH rfl rfl rfl ?_);refine rR (aCi o10 0 rfl eM rfl rfl ?_);refine rR (aCJ (o10.reads 1 hR rfl) fI ?_);refine aCW ?_;refine rR (aCm o10 2 rfl bS rfl rfl rfl ?_);(refine aCl o10 2 rfl bS rfl (by decide) (aI ⟨rfl,rfl⟩ ?_);intro m16 o16)
  first|refine aCy rfl o16 2 rfl bS rfl rfl ?_|refine aCx rfl o16 2 rfl bS rfl rfl ?_|refine RetVC.cellTT rfl o16 2 rfl bS rfl rfl ?_
  exact⟨none,[],w,rfl,rfl,aDj _,⟨hR,hK⟩,Own.sel ‹_› [0,1] rfl⟩
 | cons t r =>
  have hx:(t::r)[0]?=some t:=rfl;have hln:(t::r).length=r.length+1:=rfl;by_cases h3:t.kind=3
  ·have hE:dO z (t::r)=.ok (some ⟨1,0,t.text⟩,r):=if_pos h3
   (refine aCT o bS ?_;intro b30 m30 o30);refine rR (nC rfl ?_);refine rR (fA fH rfl rfl rfl ?_);refine rR (aCi o30 0 rfl eM rfl rfl ?_);refine rR (aCJ (o30.reads 1 hR rfl) fI ?_);refine aCV (fun hc=>absurd hc (by omega)) (fun c35=>?_);refine rR (nC rfl ?_);refine rR (fA fH rfl rfl rfl ?_);refine rR (aCi o30 0 rfl eM rfl rfl ?_);refine rR (aCt fI bB (o30.reads 1 hR rfl) rfl (by omega) (by omega) ?_);refine rR (aCv bB (o30.reads 1 hR rfl) (fun _=>rfl) (by decide) rfl ‹_› ?_);(refine aCT o30 bB ?_;intro b41 m41 o41);(refine aCl o41 3 rfl bB rfl (by decide) (aI ⟨rfl,rfl⟩ ?_);intro m42 o42);refine rR (fA eP rfl rfl rfl ?_);refine rR (aCi o42 3 rfl aS rfl rfl ?_);refine aCV (fun c45=>?_) (fun hc=>absurd (by omega) hc);refine rR (fA eP rfl rfl rfl ?_);refine rR (aCi o42 3 rfl aS rfl rfl ?_)
   refine(tD t.kind).call (Own.lend ‹_› [0,1] [2,3] rfl) ⟨hR,hK⟩ hl (fun a q w2 v h2 hm hv hle hR2 o2=>?_) (fun e w2 h2 hm o2=>?_)
   ·have hq:fP z t.kind (t::r)=.ok (t,r):=if_pos rfl
    have hm:fP z t.kind (t::r)=.ok (a,q):=hm
    rw[hq]at hm
    injection hm with hm
    injection hm with ha hq
    subst ha hq
    obtain⟨rfl,_⟩:=hv
    have o2':=o2.back
    simp only[PSt,pick,lcA,lnA,lgS,lgZ]at o2'
    clear o2;refine rR (fieldV eP rfl rfl rfl rfl ?_);refine rR (aCr cN ?_);refine aI rfl ?_;refine aI rfl ?_;(refine aCl o2' 2 rfl bS rfl (by decide) (aI ⟨rfl,rfl⟩ ?_);intro m52 o52)
    first|refine aCy rfl o52 2 rfl bS rfl rfl ?_|refine aCx rfl o52 2 rfl bS rfl rfl ?_|refine RetVC.cellTT rfl o52 2 rfl bS rfl rfl ?_
    exact⟨_,r,w2,hE,rfl,hle,hR2,Own.sel ‹_› [0,1] rfl⟩
   ·have hq:fP z t.kind (t::r)=.ok (t,r):=if_pos rfl
    exact absurd (hq.symm.trans hm) (by simp)
  by_cases hk2:t.kind=2
  ·have hE:dO z (t::r)=.ok (some ⟨2,t.num,[]⟩,r):=(if_neg h3).trans (if_pos hk2)
   have hq:lZ z (t::r)=.ok (t.num,r):=by
    have:fP z 2 (t::r)=.ok (t,r):=if_pos hk2
    exact aCj this
   (refine aCT o bS ?_;intro b60 m60 o60);refine rR (nC rfl ?_);refine rR (fA fH rfl rfl rfl ?_);refine rR (aCi o60 0 rfl eM rfl rfl ?_);refine rR (aCJ (o60.reads 1 hR rfl) fI ?_);refine aCV (fun hc=>absurd hc (by omega)) (fun c65=>?_);refine rR (nC rfl ?_);refine rR (fA fH rfl rfl rfl ?_);refine rR (aCi o60 0 rfl eM rfl rfl ?_);refine rR (aCt fI bB (o60.reads 1 hR rfl) rfl (by omega) (by omega) ?_);refine rR (aCv bB (o60.reads 1 hR rfl) (fun _=>rfl) (by decide) rfl ‹_› ?_);(refine aCT o60 bB ?_;intro b71 m71 o71);(refine aCl o71 3 rfl bB rfl (by decide) (aI ⟨rfl,rfl⟩ ?_);intro m72 o72);refine rR (fA eP rfl rfl rfl ?_);refine rR (aCi o72 3 rfl aS rfl rfl ?_);refine aCV (fun hc=>absurd hc (by omega)) (fun c75=>?_);refine aCV (fun c76=>?_) (fun hc=>absurd (by omega) hc);refine bR.call (Own.lend ‹_› [0,1] [2,3] rfl) ⟨hR,hK⟩ hl (fun a q w2 v h2 hm hv hle hR2 o2=>?_) (fun e w2 h2 hm o2=>?_)
   ·have hm:lZ z (t::r)=.ok (a,q):=hm
    rw[hq]at hm
    injection hm with hm
    injection hm with ha hq
    subst ha hq
    obtain⟨rfl,_⟩:=hv
    have o2':=o2.back
    simp only[PSt,pick,lcA,lnA,lgS,lgZ]at o2'
    clear o2;refine rR (aCr cN ?_);refine aI rfl ?_;refine aI rfl ?_;(refine aCl o2' 2 rfl bS rfl (by decide) (aI ⟨rfl,rfl⟩ ?_);intro m81 o81)
    first|refine aCy rfl o81 2 rfl bS rfl rfl ?_|refine aCx rfl o81 2 rfl bS rfl rfl ?_|refine RetVC.cellTT rfl o81 2 rfl bS rfl rfl ?_
    exact⟨_,r,w2,hE,rfl,hle,hR2,Own.sel ‹_› [0,1] rfl⟩
   ·exact absurd (hq.symm.trans hm) (by simp)
  have hE:oM z (t::r)=dO z (t::r):=((if_neg h3).trans (if_neg hk2)).symm;unfold oM at hE;(refine aCT o bS ?_;intro b100 m100 o100);refine rR (nC rfl ?_);refine rR (fA fH rfl rfl rfl ?_);refine rR (aCi o100 0 rfl eM rfl rfl ?_);refine rR (aCJ (o100.reads 1 hR rfl) fI ?_);refine aCV (fun hc=>absurd hc (by omega)) (fun c105=>?_);refine rR (nC rfl ?_);refine rR (fA fH rfl rfl rfl ?_);refine rR (aCi o100 0 rfl eM rfl rfl ?_);refine rR (aCt fI bB (o100.reads 1 hR rfl) rfl (by omega) (by omega) ?_);refine rR (aCv bB (o100.reads 1 hR rfl) (fun _=>rfl) (by decide) rfl ‹_› ?_);(refine aCT o100 bB ?_;intro b111 m111 o111);(refine aCl o111 3 rfl bB rfl (by decide) (aI ⟨rfl,rfl⟩ ?_);intro m112 o112);refine rR (fA eP rfl rfl rfl ?_);refine rR (aCi o112 3 rfl aS rfl rfl ?_);refine aCV (fun hc=>absurd hc (by omega)) (fun c115=>?_);refine aCV (fun hc=>absurd hc (by omega)) (fun c116=>?_);have hR:cJ tk w (t::r):=⟨hR,hK⟩
  refine(cD [45]).call (Own.lend ‹_› [0,1] [2,3] rfl) hR hl (fun b q w200 v h200 hm hv hle hR2 o2=>?_) (fun e w2 h2 hm o2=>absurd hm (cU _ _ e))
  subst hv;have o200:=o2.back
  simp only[PSt,pick,lcA,lnA,lgS,lgZ]at o200
  clear o2
  rw[aCj hm]at hE
  cases b with
  | true =>
   rw[if_pos rfl]at hE
   refine aCW ?_;refine bR.call (Own.lend ‹_› [0,1] [2,3] rfl) hR2 (by omega) (fun a q2 w3 v h3 hm3 hv hle3 hR3 o3=>?_) (fun e w3 h3 hm3 o3=>⟨e,w3,hE.symm.trans (aCk hm3),rfl,o3.back.sel [0,1] rfl⟩)
   obtain⟨rfl,hv0,hv1⟩:=hv
   rw[aCj hm3]at hE
   have o4:=o3.back
   simp only[PSt,pick,lcA,lnA,lgS,lgZ]at o4
   clear o3;refine aC2 (by omega) (by omega) ?_;refine rR (aCr cN ?_);refine aI rfl ?_;refine aI rfl ?_;(refine aCl o4 2 rfl bS rfl (by decide) (aI ⟨rfl,rfl⟩ ?_);intro m211 o211);refine rR (aCm o211 2 rfl bS rfl rfl rfl ?_);(refine aCR o211 2 rfl bS rfl (by simp) (aI ⟨rfl,rfl⟩ ?_);intro m213 o213)
   first|refine aCy rfl o213 2 rfl bS rfl rfl ?_|refine aCx rfl o213 2 rfl bS rfl rfl ?_|refine RetVC.cellTT rfl o213 2 rfl bS rfl rfl ?_
   exact⟨some ⟨2,-a,[]⟩,q2,w3,hE.symm,by first|rfl|simp[litV,vlV,vlC],by omega,hR3,Own.sel ‹_› [0,1] rfl⟩
  | false =>
  rw[if_neg (by decide)]at hE
  obtain rfl:=iJ hm;clear hR hle;have hR:=hR2;clear hR2 hm;refine aCX ?_
  refine(cD [64]).call (Own.lend ‹_› [0,1] [2,3] rfl) hR hl (fun b q w250 v h250 hm hv hle hR2 o2=>?_) (fun e w2 h2 hm o2=>absurd hm (cU _ _ e))
  subst hv;have o250:=o2.back
  simp only[PSt,pick,lcA,lnA,lgS,lgZ]at o250
  clear o2
  rw[aCj hm]at hE
  cases b with
  | true =>
   rw[if_pos rfl]at hE
   refine aCW ?_;refine bR.call (Own.lend ‹_› [0,1] [2,3] rfl) hR2 (by omega) (fun a q2 w3 v h3 hm3 hv hle3 hR3 o3=>?_) (fun e w3 h3 hm3 o3=>⟨e,w3,hE.symm.trans (aCk hm3),rfl,o3.back.sel [0,1] rfl⟩)
   obtain⟨rfl,hv0,hv1⟩:=hv
   rw[aCj hm3]at hE
   have o4:=o3.back
   simp only[PSt,pick,lcA,lnA,lgS,lgZ]at o4
   clear o3;refine rR (aCr cN ?_);refine aI rfl ?_;refine aI rfl ?_;(refine aCl o4 2 rfl bS rfl (by decide) (aI ⟨rfl,rfl⟩ ?_);intro m261 o261);refine rR (aCm o261 2 rfl bS rfl rfl rfl ?_);(refine aCR o261 2 rfl bS rfl (by simp) (aI ⟨rfl,rfl⟩ ?_);intro m263 o263)
   first|refine aCy rfl o263 2 rfl bS rfl rfl ?_|refine aCx rfl o263 2 rfl bS rfl rfl ?_|refine RetVC.cellTT rfl o263 2 rfl bS rfl rfl ?_
   exact⟨some ⟨3,a,[]⟩,q2,w3,hE.symm,by first|rfl|simp[litV,vlV,vlC],by omega,hR3,Own.sel ‹_› [0,1] rfl⟩
  | false =>
  rw[if_neg (by decide)]at hE
  obtain rfl:=iJ hm;clear hR hle;have hR:=hR2;clear hR2 hm;refine aCX ?_
  refine(cD [116,114,117,101]).call (Own.lend ‹_› [0,1] [2,3] rfl) hR hl (fun b q w300 v h300 hm hv hle hR2 o2=>?_) (fun e w2 h2 hm o2=>absurd hm (cU _ _ e))
  subst hv;have o300:=o2.back
  simp only[PSt,pick,lcA,lnA,lgS,lgZ]at o300
  clear o2
  rw[aCj hm]at hE
  cases b with
  | true =>
   rw[if_pos rfl]at hE
   refine aCW ?_;refine rR (aCr cN ?_);refine aI rfl ?_;refine aI rfl ?_;(refine aCl o300 2 rfl bS rfl (by decide) (aI ⟨rfl,rfl⟩ ?_);intro m306 o306);refine rR (aCm o306 2 rfl bS rfl rfl rfl ?_);(refine aCl o306 2 rfl bS rfl (by decide) (aI ⟨rfl,rfl⟩ ?_);intro m308 o308)
   first|refine aCy rfl o308 2 rfl bS rfl rfl ?_|refine aCx rfl o308 2 rfl bS rfl rfl ?_|refine RetVC.cellTT rfl o308 2 rfl bS rfl rfl ?_
   exact⟨some ⟨4,1,[]⟩,q,w300,hE.symm,rfl,hle,hR2,Own.sel ‹_› [0,1] rfl⟩
  | false =>
  rw[if_neg (by decide)]at hE
  obtain rfl:=iJ hm;clear hR hle;have hR:=hR2;clear hR2 hm;refine aCX ?_
  refine(cD [102,97,108,115,101]).call (Own.lend ‹_› [0,1] [2,3] rfl) hR hl (fun b q w350 v h350 hm hv hle hR2 o2=>?_) (fun e w2 h2 hm o2=>absurd hm (cU _ _ e))
  subst hv;have o350:=o2.back
  simp only[PSt,pick,lcA,lnA,lgS,lgZ]at o350
  clear o2
  rw[aCj hm]at hE
  cases b with
  | true =>
   rw[if_pos rfl]at hE
   refine aCW ?_;refine rR (aCr cN ?_);refine aI rfl ?_;(refine aCl o350 2 rfl bS rfl (by decide) (aI ⟨rfl,rfl⟩ ?_);intro m356 o356);refine rR (aCm o356 2 rfl bS rfl rfl rfl ?_);(refine aCl o356 2 rfl bS rfl (by decide) (aI ⟨rfl,rfl⟩ ?_);intro m358 o358)
   first|refine aCy rfl o358 2 rfl bS rfl rfl ?_|refine aCx rfl o358 2 rfl bS rfl rfl ?_|refine RetVC.cellTT rfl o358 2 rfl bS rfl rfl ?_
   exact⟨some ⟨4,0,[]⟩,q,w350,hE.symm,rfl,hle,hR2,Own.sel ‹_› [0,1] rfl⟩
  | false =>
  rw[if_neg (by decide)]at hE
  obtain rfl:=iJ hm;clear hR hle;have hR:=hR2;clear hR2 hm;refine aCX ?_
  refine(cD [110,117,108,108]).call (Own.lend ‹_› [0,1] [2,3] rfl) hR hl (fun b q w400 v h400 hm hv hle hR2 o2=>?_) (fun e w2 h2 hm o2=>absurd hm (cU _ _ e))
  subst hv;have o400:=o2.back
  simp only[PSt,pick,lcA,lnA,lgS,lgZ]at o400
  clear o2
  rw[aCj hm]at hE
  cases b with
  | true =>
   rw[if_pos rfl]at hE
   refine aCW ?_;refine rR (aCm o400 2 rfl bS rfl rfl rfl ?_);(refine aCl o400 2 rfl bS rfl (by decide) (aI ⟨rfl,rfl⟩ ?_);intro m406 o406)
   first|refine aCy rfl o406 2 rfl bS rfl rfl ?_|refine aCx rfl o406 2 rfl bS rfl rfl ?_|refine RetVC.cellTT rfl o406 2 rfl bS rfl rfl ?_
   exact⟨some vl0,q,w400,hE.symm,rfl,hle,hR2,Own.sel ‹_› [0,1] rfl⟩
  | false =>
  rw[if_neg (by decide)]at hE
  obtain rfl:=iJ hm;clear hR hle;have hR:=hR2;clear hR2 hm;refine aCX ?_;refine rR (aCm o400 2 rfl bS rfl rfl rfl ?_);(refine aCl o400 2 rfl bS rfl (by decide) (aI ⟨rfl,rfl⟩ ?_);intro m421 o421)
  first|refine aCy rfl o421 2 rfl bS rfl rfl ?_|refine aCx rfl o421 2 rfl bS rfl rfl ?_|refine RetVC.cellTT rfl o421 2 rfl bS rfl rfl ?_
  exact⟨none,t::r,w400,hE.symm,rfl,aDj _,hR,Own.sel ‹_› [0,1] rfl⟩
abbrev sU (L:List Item):List Item:=pick L [2,3,4,5,6,7,8,9]
theorem aB0 {L:List Item}{x:Item}{k:Nat}(hk:L[k]?=some x):∀(js:List Nat),k∈js→x∈pick L js
 | [],h=>absurd h (by simp)
 | j::js,h=>by
  simp only[pick]
  rcases aDo.1 h with rfl|h
  ·rw[hk];simp
  ·split
   ·exact aDX _ (aB0 hk js h)
   ·exact aB0 hk js h
theorem PSpec.callL {α:Type}{g:FuncId}{args:Nat→aVs}{m:Nat→PM α}{V:α→Value→Prop}(sp:PSpec g args m V) {s:aVs}{h:Heap}{K:KK}{Q:QQ}{B:Base}{L:List Item}{bp z:Nat}{tk:Item}{w:Value}{ts:List Tok}
  (o:Own B L h) (e:pick L [0,1]=PSt bp z w tk) (hR:cJ tk w ts) (hl:ts.length≤5000)
  (hret:∀ a r w' v h',m z ts=.ok (a,r)→V a v→r.length≤ts.length→cJ tk w' r→Own B (PSt bp z w' tk++sU L) h'→K v false h')
  (hpan:∀ e w' h',m z ts=.error e→Own B (PSt bp z w' tk) h'→Q (.panic (kQ e)) s h'):CallVC Tryz.prog g (args bp) s h K Q:=by
 have ol:=o.lend [0,1] [2,3,4,5,6,7,8,9] rfl
 rw[e]at ol
 exact sp.call ol hR hl (fun a r w' v h' h1 h2 h3 h4 h5=>hret a r w' v h' h1 h2 h3 h4 h5.back) (fun e w' h' h1 h2=>hpan e w' h' h1 (h2.back.sel [0,1] rfl))
theorem keepIn {B:Base}{L:List Item}{b:Nat}{t:TypeId}{ss:List aBs}(hk:∃ k∈[2,3,4,5,6,7,8,9],L[k]?=some (box b (strs ss) t)):rX ⟨B.h,sU L++B.T⟩ (.slice (some ⟨b,0,none⟩) ss.length ss.length) ss:=by
 intro L' h o
 obtain⟨k,hj,hk⟩:=hk
 have hs:(box b (strs ss) t).sat h:=OwnR.sat o _ (List.mem_append_right _ (aDW _ (aB0 hk _ hj)))
 exact(wJ (sz:=1) (by simp[strs]) (aDj _) h hs).to1
theorem jM {ss:List aBs}{b:Nat}{t:TypeId}{s:aVs}{h:Heap}{K:KK}{Q:QQ}{B:Base}{L:List Item}{bp z:Nat}{tk:Item}{w:Value}{ts:List Tok}
  (o:Own B L h) (e:pick L [0,1]=PSt bp z w tk) (hk:∃ k∈[2,3,4,5,6,7,8,9],L[k]?=some (box b (strs ss) t)) (hR:cJ tk w ts) (hl:ts.length≤5000) (hsl:ss.length≤100)
  (hret:∀ a r w' v h',eE z ss 1 ts=.ok (a,r)→v=.int .i64 a→r.length≤ts.length→cJ tk w' r→Own B (PSt bp z w' tk++sU L) h'→K v false h')
  (hpan:∀ e w' h',eE z ss 1 ts=.error e→Own B (PSt bp z w' tk) h'→Q (.panic (kQ e)) s h'):CallVC Tryz.prog 55 [.pointer (some ⟨bp,0,none⟩),.slice (some ⟨b,0,none⟩) ss.length ss.length] s h K Q:=by
 have ol:=o.lend [0,1] [2,3,4,5,6,7,8,9] rfl
 rw[e]at ol
 exact PEnd.call (zL ss _ _ bp z tk w ts h (keepIn hk) ol hR hl hsl) (fun a r w' v h' h1 h2 h3 h4 h5=>hret a r w' v h' h1 h2 h3 h4 h5.back) (fun e w' h' h1 h2=>hpan e w' h' h1 (h2.back.sel [0,1] rfl))
theorem aU {ss:List aBs}{b:Nat}{t:TypeId}{s:aVs}{h:Heap}{K:KK}{Q:QQ}{B:Base}{L:List Item}{bp z:Nat}{tk:Item}{w:Value}{ts:List Tok}
  (o:Own B L h) (e:pick L [0,1]=PSt bp z w tk) (hk:∃ k∈[2,3,4,5,6,7,8,9],L[k]?=some (box b (strs ss) t)) (hR:cJ tk w ts) (hl:ts.length≤5000) (hsl:ss.length≤100)
  (hret:∀ a r w' v h',aW z ss ts=.ok (a,r)→v=.tuple ⟨[]⟩→r.length≤ts.length→cJ tk w' r→Own B (PSt bp z w' tk++sU L) h'→K v false h')
  (hpan:∀ e w' h',aW z ss ts=.error e→Own B (PSt bp z w' tk) h'→Q (.panic (kQ e)) s h'):CallVC Tryz.prog 67 [.pointer (some ⟨bp,0,none⟩),.slice (some ⟨b,0,none⟩) ss.length ss.length] s h K Q:=by
 have ol:=o.lend [0,1] [2,3,4,5,6,7,8,9] rfl
 rw[e]at ol
 exact PEnd.call (pneed_spec ss _ _ bp z tk w ts h (keepIn hk) ol hR hl hsl) (fun a r w' v h' h1 h2 h3 h4 h5=>hret a r w' v h' h1 h2 h3 h4 h5.back) (fun e w' h' h1 h2=>hpan e w' h' h1 (h2.back.sel [0,1] rfl))
theorem yQ:PSpec 141 (fun bp=>[.pointer (some ⟨bp,0,none⟩)]) (fun z=>nB z) (fun x v=>v=vlV x):=by
 intro B bp z tk w ts h o hR hl;have hE:=congrFun (nB.eq_1 z) ts;refine aC1 Tryz.func141 rfl Tryz.ntmps141 (by kernel_rfl) ?_;(refine aCT o bS ?_;intro b10 m10 o10);refine uL.callL ‹_› rfl hR (by omega) (fun a1 q1 w1 v h1 hm hv hle1 hR1 oq=>?_) (fun e w' h' hm o2=>⟨e,w',hE.trans (aCk hm),rfl,o2⟩)
 rw[aCj hm]at hE
 have o1:=oq
 simp only[PSt,pick,lcA,lnA,lgS,lgZ,lgN]at o1
 clear oq hm;cases a1 with
 | some x =>
  have hv:v=_:=hv;subst hv;(refine aCT o1 bS ?_;intro b20 m20 o20);(refine aCl o20 3 rfl bS rfl (by decide) (aI ⟨rfl,rfl⟩ ?_);intro m21 o21);refine aCX ?_;refine rR (aCm o21 3 rfl bS rfl rfl rfl ?_);(refine aCl o21 2 rfl bS rfl (by decide) (aI ⟨rfl,rfl⟩ ?_);intro m23 o23)
  first|refine aCy rfl o23 2 rfl bS rfl rfl ?_|refine aCx rfl o23 2 rfl bS rfl rfl ?_|refine RetVC.cellTT rfl o23 2 rfl bS rfl rfl ?_
  exact⟨x,q1,w1,hE,rfl,by omega,hR1,Own.sel ‹_› [0,1] rfl⟩
 | none =>
  have hv:v=_:=hv;subst hv;(refine aCT o1 bS ?_;intro b30 m30 o30);(refine aCl o30 3 rfl bS rfl (by decide) (aI ⟨rfl,rfl⟩ ?_);intro m31 o31);refine aCW ?_;refine aC0 (kV 4 bp z _ _ _ (Own.cellB ‹_› 0 rfl 0) (Own.cellB ‹_› 0 rfl 1) (Own.reads ‹_› 1 hR1.1 rfl)) (fun _ _ h=>h.elim) (fun c h4 ⟨hc,ho⟩=>?_)
  exact⟨_,w1,hE,hc,(ho.thenE ‹_›).sel [0,1] rfl⟩
theorem aBa:PSpec 159 (fun bp=>[.pointer (some ⟨bp,0,none⟩)]) (fun z=>oD z) (fun x v=>v=.agg ⟨opdC x⟩):=by
 intro B bp z tk w ts h o hR hl;have hE:=congrFun (oD.eq_1 z) ts;refine aC1 Tryz.func159 rfl Tryz.ntmps159 (by kernel_rfl) ?_;(refine aCT o mK ?_;intro b10 m10 o10);refine uL.callL ‹_› rfl hR (by omega) (fun a1 q1 w1 v h1 hm hv hle1 hR1 oq=>?_) (fun e w' h' hm o2=>⟨e,w',hE.trans (aCk hm),rfl,o2⟩)
 rw[aCj hm]at hE
 have o1:=oq
 simp only[PSt,pick,lcA,lnA,lgS,lgZ,lgN]at o1
 clear oq hm;cases a1 with
 | some x =>
  have hv:v=_:=hv;subst hv;(refine aCT o1 bS ?_;intro b20 m20 o20);(refine aCl o20 3 rfl bS rfl (by decide) (aI ⟨rfl,rfl⟩ ?_);intro m21 o21);refine aCW ?_;refine rR (aCm o21 3 rfl bS rfl rfl rfl ?_);refine rR (aCr fO ?_);refine aI rfl ?_;refine aI rfl ?_;(refine aCl o21 2 rfl mK rfl (by decide) (aI ⟨rfl,rfl⟩ ?_);intro m24 o24)
  first|refine aCy rfl o24 2 rfl mK rfl rfl ?_|refine aCx rfl o24 2 rfl mK rfl rfl ?_|refine RetVC.cellTT rfl o24 2 rfl mK rfl rfl ?_
  exact⟨⟨[],[],true,x⟩,q1,w1,hE,rfl,by omega,hR1,Own.sel ‹_› [0,1] rfl⟩
 | none =>
  have hv:v=_:=hv;subst hv;dsimp only at hE;(refine aCT o1 bS ?_;intro b30 m30 o30);(refine aCl o30 3 rfl bS rfl (by decide) (aI ⟨rfl,rfl⟩ ?_);intro m31 o31);refine aCX ?_;refine cE.callL ‹_› rfl hR1 (by omega) (fun first q2 w2 v h2 hm hv hle2 hR2 oq=>?_) (fun e w' h' hm o2=>⟨e,w',hE.trans (aCk hm),rfl,o2⟩);subst hv
  rw[aCj hm]at hE
  have o2:=oq
  simp only[PSt,pick,lcA,lnA,lgS,lgZ,lgN]at o2
  clear oq hm
  refine(cD [46]).callL ‹_› rfl hR2 (by omega) (fun b q3 w3 v h3 hm hv hle3 hR3 oq=>?_) (fun e w2 h2 hm o2=>absurd hm (cU _ _ e))
  subst hv
  rw[aCj hm]at hE
  have o3:=oq
  simp only[PSt,pick,lcA,lnA,lgS,lgZ,lgN]at o3
  clear oq hm;cases b with
  | true =>
   rw[if_pos rfl]at hE
   refine aCW ?_;refine cE.callL ‹_› rfl hR3 (by omega) (fun at_ q4 w4 v h4 hm hv hle4 hR4 oq=>?_) (fun e w' h' hm o2=>⟨e,w',hE.trans (aCk hm),rfl,o2⟩);subst hv
   rw[aCj hm]at hE
   have o4:=oq
   simp only[PSt,pick,lcA,lnA,lgS,lgZ,lgN]at o4
   clear oq hm;refine rR (aCr fO ?_);refine aI rfl ?_;refine aI rfl ?_;(refine aCl o4 2 rfl mK rfl (by decide) (aI ⟨rfl,rfl⟩ ?_);intro m61 o61)
   first|refine aCy rfl o61 2 rfl mK rfl rfl ?_|refine aCx rfl o61 2 rfl mK rfl rfl ?_|refine RetVC.cellTT rfl o61 2 rfl mK rfl rfl ?_
   exact⟨⟨first,at_,false,vl0⟩,q4,w4,hE,rfl,by omega,hR4,Own.sel ‹_› [0,1] rfl⟩
  | false =>
   rw[if_neg (by decide)]at hE
   refine aCX ?_;refine rR (aCr fO ?_);refine aI rfl ?_;(refine aCl o3 2 rfl mK rfl (by decide) (aI ⟨rfl,rfl⟩ ?_);intro m71 o71)
   first|refine aCy rfl o71 2 rfl mK rfl rfl ?_|refine aCx rfl o71 2 rfl mK rfl rfl ?_|refine RetVC.cellTT rfl o71 2 rfl mK rfl rfl ?_
   exact⟨⟨[],first,false,vl0⟩,q3,w3,hE,rfl,by omega,hR3,Own.sel ‹_› [0,1] rfl⟩
theorem cond_spec:PSpec 144 (fun bp=>[.pointer (some ⟨bp,0,none⟩)]) (fun z=>sV z) (fun x v=>v=.agg ⟨nT x⟩):=by
 intro B bp z tk w ts h o hR hl;have hE:=congrFun (sV.eq_1 z) ts;refine aC1 Tryz.func144 rfl Tryz.ntmps144 (by kernel_rfl) ?_;(refine aCT o eV ?_;intro b10 m10 o10);refine aBa.callL ‹_› rfl hR (by omega) (fun sl q1 w1 v h1 hm hv hle1 hR1 oq=>?_) (fun e w' h' hm o2=>⟨e,w',hE.trans (aCk hm),rfl,o2⟩);subst hv
 rw[aCj hm]at hE
 have o1:=oq
 simp only[PSt,pick,lcA,lnA,lgS,lgZ,lgN]at o1
 clear oq hm;(refine aCS o1 aK aL rfl rfl (by decide) (aI rfl ?_);intro b20 m20 o20);refine jM (ss:=[[61],[33,61],[60],[60,61]]) ‹_› rfl ⟨3,by decide,rfl⟩ hR1 (by omega) (by decide) (fun op q2 w2 v h2 hm hv hle2 hR2 oq=>?_) (fun e w' h' hm o2=>⟨e,w',hE.trans (aCk hm),rfl,o2⟩);subst hv
 rw[aCj hm]at hE
 have o2:=oq
 simp only[PSt,pick,lcA,lnA,lgS,lgZ,lgN]at o2
 clear oq hm;refine aBa.callL ‹_› rfl hR2 (by omega) (fun sr q3 w3 v h3 hm hv hle3 hR3 oq=>?_) (fun e w' h' hm o2=>⟨e,w',hE.trans (aCk hm),rfl,o2⟩);subst hv
 rw[aCj hm]at hE
 have o3:=oq
 simp only[PSt,pick,lcA,lnA,lgS,lgZ,lgN]at o3
 clear oq hm;refine rR (aCr kN ?_);refine aI rfl ?_;refine aI rfl ?_;refine aI rfl ?_;(refine aCT o3 eV ?_;intro b41 m41 o41);(refine aCl o41 4 rfl eV rfl (by decide) (aI ⟨rfl,rfl⟩ ?_);intro m42 o42)
 refine(cD [43]).callL ‹_› rfl hR3 (by omega) (fun b q4 w4 v h4 hm hv hle4 hR4 oq=>?_) (fun e w2 h2 hm o2=>absurd hm (cU _ _ e))
 subst hv
 rw[aCj hm]at hE
 have o4:=oq
 simp only[PSt,pick,lcA,lnA,lgS,lgZ,lgN]at o4
 clear oq hm;cases b with
 | true =>
  rw[if_pos rfl]at hE
  refine aCW ?_;refine bR.callL ‹_› rfl hR4 (by omega) (fun n q5 w5 v h5 hm hv hle5 hR5 oq=>?_) (fun e w' h' hm o2=>⟨e,w',hE.trans (aCk hm),rfl,o2⟩)
  obtain⟨rfl,hv0_5,hv1_5⟩:=hv
  rw[aCj hm]at hE
  have o5:=oq
  simp only[PSt,pick,lcA,lnA,lgS,lgZ,lgN]at o5
  clear oq hm;refine rR (fA kN rfl rfl rfl ?_);(refine aCR o5 4 rfl aS rfl (by simp) (aI ⟨rfl,rfl⟩ ?_);intro m61 o61);refine rR (aCm o61 4 rfl eV rfl rfl rfl ?_);(refine aCl o61 2 rfl eV rfl (by decide) (aI ⟨rfl,rfl⟩ ?_);intro m63 o63)
  first|refine aCy rfl o63 2 rfl eV rfl rfl ?_|refine aCx rfl o63 2 rfl eV rfl rfl ?_|refine RetVC.cellTT rfl o63 2 rfl eV rfl rfl ?_
  exact⟨⟨sl,op,sr,n⟩,q5,w5,hE,rfl,by omega,hR5,Own.sel ‹_› [0,1] rfl⟩
 | false =>
  rw[if_neg (by decide)]at hE
  refine aCX ?_
  refine(cD [45]).callL ‹_› rfl hR4 (by omega) (fun b q6 w6 v h6 hm hv hle6 hR6 oq=>?_) (fun e w2 h2 hm o2=>absurd hm (cU _ _ e))
  subst hv
  rw[aCj hm]at hE
  have o6:=oq
  simp only[PSt,pick,lcA,lnA,lgS,lgZ,lgN]at o6
  clear oq hm;cases b with
  | true =>
   rw[if_pos rfl]at hE
   refine aCW ?_;refine bR.callL ‹_› rfl hR6 (by omega) (fun n q7 w7 v h7 hm hv hle7 hR7 oq=>?_) (fun e w' h' hm o2=>⟨e,w',hE.trans (aCk hm),rfl,o2⟩)
   obtain⟨rfl,hv0_7,hv1_7⟩:=hv
   rw[aCj hm]at hE
   have o7:=oq
   simp only[PSt,pick,lcA,lnA,lgS,lgZ,lgN]at o7
   clear oq hm;refine aC2 (by omega) (by omega) ?_;refine rR (fA kN rfl rfl rfl ?_);(refine aCR o7 4 rfl aS rfl (by simp) (aI ⟨rfl,rfl⟩ ?_);intro m91 o91);refine rR (aCm o91 4 rfl eV rfl rfl rfl ?_);(refine aCl o91 2 rfl eV rfl (by decide) (aI ⟨rfl,rfl⟩ ?_);intro m93 o93)
   first|refine aCy rfl o93 2 rfl eV rfl rfl ?_|refine aCx rfl o93 2 rfl eV rfl rfl ?_|refine RetVC.cellTT rfl o93 2 rfl eV rfl rfl ?_
   exact⟨⟨sl,op,sr,-n⟩,q7,w7,hE,by simp[nT],by omega,hR7,Own.sel ‹_› [0,1] rfl⟩
  | false =>
   rw[if_neg (by decide)]at hE
   refine aCX ?_;refine rR (aCm o6 4 rfl eV rfl rfl rfl ?_);(refine aCl o6 2 rfl eV rfl (by decide) (aI ⟨rfl,rfl⟩ ?_);intro m101 o101)
   first|refine aCy rfl o101 2 rfl eV rfl rfl ?_|refine aCx rfl o101 2 rfl eV rfl rfl ?_|refine RetVC.cellTT rfl o101 2 rfl eV rfl rfl ?_
   exact⟨⟨sl,op,sr,0⟩,q6,w6,hE,rfl,by omega,hR6,Own.sel ‹_› [0,1] rfl⟩
theorem StillVC.aCN {α β γ:Type}(m:PM α)(f:α→PM β)(g:β→PM γ):(m >>= f) >>= g=m >>= fun a=>f a >>= g:=by
 funext ts
 show(match (match m ts with|Except.error e=>Except.error e|Except.ok (a,r)=>f a r) with|Except.error e=>Except.error e|Except.ok (b,q)=>g b q)=(match m ts with|Except.error e=>Except.error e|Except.ok (a,r)=>(match f a r with|Except.error e=>Except.error e|Except.ok (b,q)=>g b q))
 cases m ts<;>rfl
theorem cW.callL {α:Type}{g:FuncId}{args:aVs}{s:aVs}{h:Heap}{K:KK}{Q:QQ}{B:Base}{L:List Item}{bp z:Nat}{tk:Item}{w:Value}{n:Nat}{res:Except (Int×Nat) (α×List Tok)}{V:α→Value→Item→Prop}
  (sp:∀ B':Base,Own B' (PSt bp z w tk) h→Spec Tryz.prog g args h (cW B' bp z tk n res V)) (o:Own B L h) (e:pick L [0,1]=PSt bp z w tk)
  (hret:∀ a r w' v I h',res=.ok (a,r)→V a v I→r.length≤n→cJ tk w' r→Own B ([box bp [w',.int .i64 z] 72,tk,I]++sU L) h'→K v false h')
  (hpan:∀ e w' h',res=.error e→Own B (PSt bp z w' tk) h'→Q (.panic (kQ e)) s h'):CallVC Tryz.prog g args s h K Q:=by
 have ol:=o.lend [0,1] [2,3,4,5,6,7,8,9] rfl
 rw[e]at ol
 exact cW.call (sp _ ol) (fun a r w' v I h' h1 h2 h3 h4 h5=>hret a r w' v I h' h1 h2 h3 h4 h5.back) (fun e w' h' h1 h2=>hpan e w' h' h1 (h2.back.sel [0,1] rfl))
theorem StillVC.aCz {α β:Type}(a:α)(f:α→PM β):(pure a:PM α) >>= f=f a:=rfl
theorem pN (B:Base)(bp z:Nat)(tk:Item)(w:Value)(ts:List Tok)(h:Heap)(o:Own B (PSt bp z w tk) h)(hR:cJ tk w ts)(hl:ts.length≤5000) :
  Spec Tryz.prog 108 [.pointer (some ⟨bp,0,none⟩)] h (cW B bp z tk ts.length (nK z ts) (fun l v I=>l.length≤5001∧I=row v 9 1 l.length (l.flatMap tB))):=by
 have hE:=congrFun (nK.eq_1 z) ts;refine aC1 Tryz.func108 rfl Tryz.ntmps108 (by kernel_rfl) ?_;refine rR (aCD ?_);refine cW.callL (fun B' o'=>listS_spec _ (fun z=>cV z) cE [44] B' bp z tk _ _ _ o' hR (by omega)) ‹_› rfl (fun a q wq v I h' hm hv hle hR' o2=>?_) (fun e w' h' hm o2=>⟨e,w',hE.trans hm,rfl,o2⟩)
 obtain⟨hn,rfl⟩:=hv
 have o9:=o2
 simp only[PSt,pick,lcA,lnA,lgS,lgZ,lgN]at o9
 clear o2;refine aC3 rfl ?_
 exact⟨a,q,wq,_,hE.trans hm,⟨hn,rfl⟩,by omega,hR',Own.sel ‹_› [0,1,2] rfl⟩
theorem aAz (B:Base)(bp z:Nat)(tk:Item)(w:Value)(ts:List Tok)(h:Heap)(o:Own B (PSt bp z w tk) h)(hR:cJ tk w ts)(hl:ts.length≤5000) :
  Spec Tryz.prog 117 [.pointer (some ⟨bp,0,none⟩)] h (cW B bp z tk ts.length (mG z ts) (fun l v I=>l.length≤5001∧I=row v 142 14 l.length (l.flatMap nT))):=by
 have hE:=congrFun (mG.eq_1 z) ts;refine aC1 Tryz.func117 rfl Tryz.ntmps117 (by kernel_rfl) ?_;(refine aCS o aK aL rfl rfl (by decide) (aI rfl ?_);intro b10 m10 o10);refine aU (ss:=[[119,104,101,114,101]]) ‹_› rfl ⟨2,by decide,rfl⟩ hR (by omega) (by decide) (fun _ q1 w1 v h1 hm hv hle1 hR1 oq=>?_) (fun e w' h' hm o2=>⟨e,w',hE.trans (aCk hm),rfl,o2⟩);subst hv
 rw[aCj hm]at hE
 have o1:=oq
 simp only[PSt,pick,lcA,lnA,lgS,lgZ,lgN]at o1
 clear oq hm;refine rR (aCD ?_);refine cW.callL (fun B' o'=>listC_spec _ (fun z=>sV z) cond_spec [97,110,100] B' bp z tk _ _ _ o' hR1 (by omega)) ‹_› rfl (fun a q wq v I h' hm hv hle hR' o2=>?_) (fun e w' h' hm o2=>⟨e,w',hE.trans hm,rfl,o2⟩)
 obtain⟨hn,rfl⟩:=hv
 have o9:=o2
 simp only[PSt,pick,lcA,lnA,lgS,lgZ,lgN]at o9
 clear o2;refine aC3 rfl ?_
 exact⟨a,q,wq,_,hE.trans hm,⟨hn,rfl⟩,by omega,hR',Own.sel ‹_› [0,1,2] rfl⟩
theorem fixed_spec:PSpec 114 (fun bp=>[.pointer (some ⟨bp,0,none⟩)]) (fun z=>mE z) (fun x v=>v=.agg ⟨yC x⟩):=by
 intro B bp z tk w ts h o hR hl;have hE:=congrFun (mE.eq_1 z) ts;refine aC1 Tryz.func114 rfl Tryz.ntmps114 (by kernel_rfl) ?_;(refine aCT o pI ?_;intro b10 m10 o10);refine cE.callL ‹_› rfl hR (by omega) (fun nm q1 w1 v h1 hm hv hle1 hR1 oq=>?_) (fun e w' h' hm o2=>⟨e,w',hE.trans (aCk hm),rfl,o2⟩);subst hv
 rw[aCj hm]at hE
 have o1:=oq
 simp only[PSt,pick,lcA,lnA,lgS,lgZ,lgN]at o1
 clear oq hm;(refine aCS o1 aK aL rfl rfl (by decide) (aI rfl ?_);intro b20 m20 o20);refine aU (ss:=[[61]]) ‹_› rfl ⟨3,by decide,rfl⟩ hR1 (by omega) (by decide) (fun _ q2 w2 v h2 hm hv hle2 hR2 oq=>?_) (fun e w' h' hm o2=>⟨e,w',hE.trans (aCk hm),rfl,o2⟩);subst hv
 rw[aCj hm]at hE
 have o2:=oq
 simp only[PSt,pick,lcA,lnA,lgS,lgZ,lgN]at o2
 clear oq hm;refine yQ.callL ‹_› rfl hR2 (by omega) (fun x q3 w3 v h3 hm hv hle3 hR3 oq=>?_) (fun e w' h' hm o2=>⟨e,w',hE.trans (aCk hm),rfl,o2⟩);subst hv
 rw[aCj hm]at hE
 have o3:=oq
 simp only[PSt,pick,lcA,lnA,lgS,lgZ,lgN]at o3
 clear oq hm;refine rR (aCr aBT ?_);refine aI rfl ?_;refine aI rfl ?_;(refine aCl o3 2 rfl pI rfl (by decide) (aI ⟨rfl,rfl⟩ ?_);intro m41 o41)
 first|refine aCy rfl o41 2 rfl pI rfl rfl ?_|refine aCx rfl o41 2 rfl pI rfl rfl ?_|refine RetVC.cellTT rfl o41 2 rfl pI rfl rfl ?_
 exact⟨⟨nm,x⟩,q3,w3,hE,rfl,by omega,hR3,Own.sel ‹_› [0,1] rfl⟩
theorem aAS:PSpec 116 (fun bp=>[.pointer (some ⟨bp,0,none⟩)]) (fun z=>yP z) (fun x v=>v=.agg ⟨vrC x⟩):=by
 intro B bp z tk w ts h o hR hl;have hE:=congrFun (yP.eq_1 z) ts;refine aC1 Tryz.func116 rfl Tryz.ntmps116 (by kernel_rfl) ?_;(refine aCT o lW ?_;intro b10 m10 o10);refine cE.callL ‹_› rfl hR (by omega) (fun tb q1 w1 v h1 hm hv hle1 hR1 oq=>?_) (fun e w' h' hm o2=>⟨e,w',hE.trans (aCk hm),rfl,o2⟩);subst hv
 rw[aCj hm]at hE
 have o1:=oq
 simp only[PSt,pick,lcA,lnA,lgS,lgZ,lgN]at o1
 clear oq hm;refine cE.callL ‹_› rfl hR1 (by omega) (fun nm q2 w2 v h2 hm hv hle2 hR2 oq=>?_) (fun e w' h' hm o2=>⟨e,w',hE.trans (aCk hm),rfl,o2⟩);subst hv
 rw[aCj hm]at hE
 have o2:=oq
 simp only[PSt,pick,lcA,lnA,lgS,lgZ,lgN]at o2
 clear oq hm;refine rR (aCr st98 ?_);refine aI rfl ?_;refine aI rfl ?_;(refine aCl o2 2 rfl lW rfl (by decide) (aI ⟨rfl,rfl⟩ ?_);intro m31 o31)
 first|refine aCy rfl o31 2 rfl lW rfl rfl ?_|refine aCx rfl o31 2 rfl lW rfl rfl ?_|refine RetVC.cellTT rfl o31 2 rfl lW rfl rfl ?_
 exact⟨⟨nm,tb⟩,q2,w2,hE,rfl,by omega,hR2,Own.sel ‹_› [0,1] rfl⟩
theorem column_spec:PSpec 107 (fun bp=>[.pointer (some ⟨bp,0,none⟩)]) (fun z=>lI z) (fun x v=>v=.agg ⟨uY x⟩):=by
 intro B bp z tk w ts h o hR hl;have hE:=congrFun (lI.eq_1 z) ts;refine aC1 Tryz.func107 rfl Tryz.ntmps107 (by kernel_rfl) ?_;(refine aCT o fB ?_;intro b10 m10 o10);refine cE.callL ‹_› rfl hR (by omega) (fun nm q1 w1 v h1 hm hv hle1 hR1 oq=>?_) (fun e w' h' hm o2=>⟨e,w',hE.trans (aCk hm),rfl,o2⟩);subst hv
 rw[aCj hm]at hE
 have o1:=oq
 simp only[PSt,pick,lcA,lnA,lgS,lgZ,lgN]at o1
 clear oq hm;(refine aCS o1 aK aL rfl rfl (by decide) (aI rfl ?_);intro b20 m20 o20);refine jM (ss:=[[116,101,120,116],[110,117,109,98,101,114],[100,97,121],[102,108,97,103]]) ‹_› rfl ⟨3,by decide,rfl⟩ hR1 (by omega) (by decide) (fun kd q2 w2 v h2 hm hv hle2 hR2 oq=>?_) (fun e w' h' hm o2=>⟨e,w',hE.trans (aCk hm),rfl,o2⟩);subst hv
 rw[aCj hm]at hE
 have o2:=oq
 simp only[PSt,pick,lcA,lnA,lgS,lgZ,lgN]at o2
 clear oq hm;refine rR (aCr kO ?_);refine aI rfl ?_;refine aI rfl ?_;(refine aCT o2 fB ?_;intro b31 m31 o31);(refine aCl o31 4 rfl fB rfl (by decide) (aI ⟨rfl,rfl⟩ ?_);intro m32 o32)
 refine(cD [61]).callL ‹_› rfl hR2 (by omega) (fun b q3 w3 v h3 hm hv hle3 hR3 oq=>?_) (fun e w2 h2 hm o2=>absurd hm (cU _ _ e))
 subst hv
 rw[aCj hm]at hE
 have o3:=oq
 simp only[PSt,pick,lcA,lnA,lgS,lgZ,lgN]at o3
 clear oq hm;cases b with
 | true =>
  rw[if_pos rfl]at hE
  refine aCW ?_;refine yQ.callL ‹_› rfl hR3 (by omega) (fun x q4 w4 v h4 hm hv hle4 hR4 oq=>?_) (fun e w' h' hm o2=>⟨e,w',hE.trans (aCk hm),rfl,o2⟩);subst hv
  rw[aCj hm]at hE
  have o4:=oq
  simp only[PSt,pick,lcA,lnA,lgS,lgZ,lgN]at o4
  clear oq hm;refine rR (fA kO rfl rfl rfl ?_);(refine aCR o4 4 rfl bS rfl (by simp) (aI ⟨rfl,rfl⟩ ?_);intro m51 o51);refine rR (aCm o51 4 rfl fB rfl rfl rfl ?_);(refine aCl o51 2 rfl fB rfl (by decide) (aI ⟨rfl,rfl⟩ ?_);intro m53 o53)
  first|refine aCy rfl o53 2 rfl fB rfl rfl ?_|refine aCx rfl o53 2 rfl fB rfl rfl ?_|refine RetVC.cellTT rfl o53 2 rfl fB rfl rfl ?_
  exact⟨⟨nm,kd,x⟩,q4,w4,hE,rfl,by omega,hR4,Own.sel ‹_› [0,1] rfl⟩
 | false =>
  rw[if_neg (by decide)]at hE
  refine aCX ?_;refine rR (aCm o3 4 rfl fB rfl rfl rfl ?_);(refine aCl o3 2 rfl fB rfl (by decide) (aI ⟨rfl,rfl⟩ ?_);intro m61 o61)
  first|refine aCy rfl o61 2 rfl fB rfl rfl ?_|refine aCx rfl o61 2 rfl fB rfl rfl ?_|refine RetVC.cellTT rfl o61 2 rfl fB rfl rfl ?_
  exact⟨⟨nm,kd,vl0⟩,q3,w3,hE,rfl,by omega,hR3,Own.sel ‹_› [0,1] rfl⟩
theorem pL:PSpec 110 (fun bp=>[.pointer (some ⟨bp,0,none⟩)]) (fun z=>kB z) (fun x v=>v=.tuple ⟨[.string ⟨⟨x.1⟩⟩,.string ⟨⟨x.2⟩⟩]⟩):=by
 intro B bp z tk w ts h o hR hl;have hE:=congrFun (kB.eq_1 z) ts;refine aC1 Tryz.func110 rfl Tryz.ntmps110 (by kernel_rfl) ?_;refine cE.callL ‹_› rfl hR (by omega) (fun tb q1 w1 v h1 hm hv hle1 hR1 oq=>?_) (fun e w' h' hm o2=>⟨e,w',hE.trans (aCk hm),rfl,o2⟩);subst hv
 rw[aCj hm]at hE
 have o1:=oq
 simp only[PSt,pick,lcA,lnA,lgS,lgZ,lgN]at o1
 clear oq hm;(refine aCS o1 aK aL rfl rfl (by decide) (aI rfl ?_);intro b20 m20 o20);refine aU (ss:=[[46]]) ‹_› rfl ⟨2,by decide,rfl⟩ hR1 (by omega) (by decide) (fun _ q2 w2 v h2 hm hv hle2 hR2 oq=>?_) (fun e w' h' hm o2=>⟨e,w',hE.trans (aCk hm),rfl,o2⟩);subst hv
 rw[aCj hm]at hE
 have o2:=oq
 simp only[PSt,pick,lcA,lnA,lgS,lgZ,lgN]at o2
 clear oq hm;refine cE.callL ‹_› rfl hR2 (by omega) (fun at_ q3 w3 v h3 hm hv hle3 hR3 oq=>?_) (fun e w' h' hm o2=>⟨e,w',hE.trans (aCk hm),rfl,o2⟩);subst hv
 rw[aCj hm]at hE
 have o3:=oq
 simp only[PSt,pick,lcA,lnA,lgS,lgZ,lgN]at o3
 clear oq hm;refine RetVC.two rfl ?_
 exact⟨(tb,at_),q3,w3,hE,rfl,by omega,hR3,Own.sel ‹_› [0,1] rfl⟩
theorem term_spec:PSpec 112 (fun bp=>[.pointer (some ⟨bp,0,none⟩)]) (fun z=>mL z) (fun x v=>v=.agg ⟨xW x⟩):=by
 intro B bp z tk w ts h o hR hl;have hE:=congrFun (mL.eq_1 z) ts;refine aC1 Tryz.func112 rfl Tryz.ntmps112 (by kernel_rfl) ?_;(refine aCT o cL ?_;intro b10 m10 o10);refine cE.callL ‹_› rfl hR (by omega) (fun nm q1 w1 v h1 hm hv hle1 hR1 oq=>?_) (fun e w' h' hm o2=>⟨e,w',hE.trans (aCk hm),rfl,o2⟩);subst hv
 rw[aCj hm]at hE
 have o1:=oq
 simp only[PSt,pick,lcA,lnA,lgS,lgZ,lgN]at o1
 clear oq hm;(refine aCS o1 aK aL rfl rfl (by decide) (aI rfl ?_);intro b20 m20 o20);refine jM (ss:=[[101,113,117,97,108],[101,100,105,116],[106,97,99,99,97,114,100],[106,97,114,111],[110,101,97,114]]) ‹_› rfl ⟨3,by decide,rfl⟩ hR1 (by omega) (by decide) (fun ms q2 w2 v h2 hm hv hle2 hR2 oq=>?_) (fun e w' h' hm o2=>⟨e,w',hE.trans (aCk hm),rfl,o2⟩);subst hv
 rw[aCj hm]at hE
 have o2:=oq
 simp only[PSt,pick,lcA,lnA,lgS,lgZ,lgN]at o2
 clear oq hm;by_cases h5:ms=5
 ·rw[jK (by simp[h5])]at hE
  refine rR (aCr bQ ?_);refine aI rfl ?_;refine aI rfl ?_;(refine aCT o2 cL ?_;intro b31 m31 o31);(refine aCl o31 4 rfl cL rfl (by decide) (aI ⟨rfl,rfl⟩ ?_);intro m32 o32);refine rR (fA bQ rfl rfl rfl ?_);refine rR (aCi o32 4 rfl aS rfl rfl ?_);refine aCV (fun c35=>?_) (fun hc=>absurd (by omega) hc);refine bR.callL ‹_› rfl hR2 (by omega) (fun tol_ q3 w3 v h3 hm hv hle3 hR3 oq=>?_) (fun e w' h' hm o2=>⟨e,w',hE.trans (aCk hm),rfl,o2⟩)
  obtain⟨rfl,hv0_3,hv1_3⟩:=hv
  rw[aCj hm]at hE
  have o3:=oq
  simp only[PSt,pick,lcA,lnA,lgS,lgZ,lgN]at o3
  clear oq hm;refine rR (fA bQ rfl rfl rfl ?_);(refine aCR o3 4 rfl aS rfl (by simp) (aI ⟨rfl,rfl⟩ ?_);intro m41 o41);(refine aCS o41 aK aL rfl rfl (by decide) (aI rfl ?_);intro b42 m42 o42);refine aU (ss:=[[108,101,97,115,116]]) ‹_› rfl ⟨5,by decide,rfl⟩ hR3 (by omega) (by decide) (fun _ q4 w4 v h4 hm hv hle4 hR4 oq=>?_) (fun e w' h' hm o2=>⟨e,w',hE.trans (aCk hm),rfl,o2⟩);subst hv
  rw[aCj hm]at hE
  have o4:=oq
  simp only[PSt,pick,lcA,lnA,lgS,lgZ,lgN]at o4
  clear oq hm;refine bR.callL ‹_› rfl hR4 (by omega) (fun num_ q5 w5 v h5 hm hv hle5 hR5 oq=>?_) (fun e w' h' hm o2=>⟨e,w',hE.trans (aCk hm),rfl,o2⟩)
  obtain⟨rfl,hv0_5,hv1_5⟩:=hv
  rw[aCj hm]at hE
  have o5:=oq
  simp only[PSt,pick,lcA,lnA,lgS,lgZ,lgN]at o5
  clear oq hm;refine rR (aCr jS ?_);refine aI rfl ?_;refine aI rfl ?_;refine rR (fA bQ rfl rfl rfl ?_);(refine aCR o5 4 rfl ty134 rfl (by simp) (aI ⟨rfl,rfl⟩ ?_);intro m62 o62)
  rw[aCN]at hE
  refine(cD [47]).callL ‹_› rfl hR5 (by omega) (fun b q6 w6 v h6 hm hv hle6 hR6 oq=>?_) (fun e w2 h2 hm o2=>absurd hm (cU _ _ e))
  subst hv
  rw[aCj hm]at hE
  have o6:=oq
  simp only[PSt,pick,lcA,lnA,lgS,lgZ,lgN]at o6
  clear oq hm;cases b with
  | true =>
   rw[if_pos rfl]at hE
   refine aCW ?_;refine bR.callL ‹_› rfl hR6 (by omega) (fun den_ q7 w7 v h7 hm hv hle7 hR7 oq=>?_) (fun e w' h' hm o2=>⟨e,w',hE.trans (aCk hm),rfl,o2⟩)
   obtain⟨rfl,hv0_7,hv1_7⟩:=hv
   rw[aCj hm]at hE
   have o7:=oq
   simp only[PSt,pick,lcA,lnA,lgS,lgZ,lgN]at o7
   clear oq hm;refine rR (fA bQ rfl rfl rfl ?_);refine rR (fA jS rfl rfl rfl ?_);(refine aCR o7 4 rfl aS rfl (by simp) (aI ⟨rfl,rfl⟩ ?_);intro m82 o82);(refine aCS o82 aK aL rfl rfl (by decide) (aI rfl ?_);intro b83 m83 o83);refine aU (ss:=[[103,105,118,101,115]]) ‹_› rfl ⟨6,by decide,rfl⟩ hR7 (by omega) (by decide) (fun _ q8 w8 v h8 hm hv hle8 hR8 oq=>?_) (fun e w' h' hm o2=>⟨e,w',hE.trans (aCk hm),rfl,o2⟩);subst hv
   rw[aCj hm]at hE
   have o8:=oq
   simp only[PSt,pick,lcA,lnA,lgS,lgZ,lgN]at o8
   clear oq hm;refine bR.callL ‹_› rfl hR8 (by omega) (fun gv q9 w9 v h9 hm hv hle9 hR9 oq=>?_) (fun e w' h' hm o2=>⟨e,w',hE.trans (aCk hm),rfl,o2⟩)
   obtain⟨rfl,hv0_9,hv1_9⟩:=hv
   rw[aCj hm]at hE
   have o9:=oq
   simp only[PSt,pick,lcA,lnA,lgS,lgZ,lgN]at o9
   clear oq hm;refine rR (fA bQ rfl rfl rfl ?_);(refine aCR o9 4 rfl aS rfl (by simp) (aI ⟨rfl,rfl⟩ ?_);intro m101 o101)
   rw[aCN]at hE
   refine(cD [116,97,107,101,115]).callL ‹_› rfl hR9 (by omega) (fun b q10 w10 v h10 hm hv hle10 hR10 oq=>?_) (fun e w2 h2 hm o2=>absurd hm (cU _ _ e))
   subst hv
   rw[aCj hm]at hE
   have o10:=oq
   simp only[PSt,pick,lcA,lnA,lgS,lgZ,lgN]at o10
   clear oq hm;cases b with
   | true =>
    rw[if_pos rfl]at hE
    refine aCW ?_;refine bR.callL ‹_› rfl hR10 (by omega) (fun tk_ q11 w11 v h11 hm hv hle11 hR11 oq=>?_) (fun e w' h' hm o2=>⟨e,w',hE.trans (aCk hm),rfl,o2⟩)
    obtain⟨rfl,hv0_11,hv1_11⟩:=hv
    rw[aCj hm]at hE
    have o11:=oq
    simp only[PSt,pick,lcA,lnA,lgS,lgZ,lgN]at o11
    clear oq hm;refine rR (fA bQ rfl rfl rfl ?_);(refine aCR o11 4 rfl aS rfl (by simp) (aI ⟨rfl,rfl⟩ ?_);intro m121 o121);(refine aCS o121 aK aL rfl rfl (by decide) (aI rfl ?_);intro b122 m122 o122);refine aU (ss:=[[59]]) ‹_› rfl ⟨7,by decide,rfl⟩ hR11 (by omega) (by decide) (fun _ q12 w12 v h12 hm hv hle12 hR12 oq=>?_) (fun e w' h' hm o2=>⟨e,w',hE.trans (aCk hm),rfl,o2⟩);subst hv
    rw[aCj hm]at hE
    have o12:=oq
    simp only[PSt,pick,lcA,lnA,lgS,lgZ,lgN]at o12
    clear oq hm;refine rR (aCm o12 4 rfl cL rfl rfl rfl ?_);(refine aCl o12 2 rfl cL rfl (by decide) (aI ⟨rfl,rfl⟩ ?_);intro m131 o131)
    first|refine aCy rfl o131 2 rfl cL rfl rfl ?_|refine aCx rfl o131 2 rfl cL rfl rfl ?_|refine RetVC.cellTT rfl o131 2 rfl cL rfl rfl ?_
    exact⟨⟨nm,ms,tol_,num_,den_,gv,tk_⟩,q12,w12,hE,rfl,by omega,hR12,Own.sel ‹_› [0,1] rfl⟩
   | false =>
    rw[if_neg (by decide)]at hE
    refine aCX ?_;(refine aCS o10 aK aL rfl rfl (by decide) (aI rfl ?_);intro b140 m140 o140)
    rw[aCz]at hE
    refine aU (ss:=[[59]]) ‹_› rfl ⟨7,by decide,rfl⟩ hR10 (by omega) (by decide) (fun _ q13 w13 v h13 hm hv hle13 hR13 oq=>?_) (fun e w' h' hm o2=>⟨e,w',hE.trans (aCk hm),rfl,o2⟩);subst hv
    rw[aCj hm]at hE
    have o13:=oq
    simp only[PSt,pick,lcA,lnA,lgS,lgZ,lgN]at o13
    clear oq hm;refine rR (aCm o13 4 rfl cL rfl rfl rfl ?_);(refine aCl o13 2 rfl cL rfl (by decide) (aI ⟨rfl,rfl⟩ ?_);intro m151 o151)
    first|refine aCy rfl o151 2 rfl cL rfl rfl ?_|refine aCx rfl o151 2 rfl cL rfl rfl ?_|refine RetVC.cellTT rfl o151 2 rfl cL rfl rfl ?_
    exact⟨⟨nm,ms,tol_,num_,den_,gv,0⟩,q13,w13,hE,rfl,by omega,hR13,Own.sel ‹_› [0,1] rfl⟩
  | false =>
   rw[if_neg (by decide)]at hE
   refine aCX ?_;(refine aCS o6 aK aL rfl rfl (by decide) (aI rfl ?_);intro b160 m160 o160)
   rw[aCz]at hE
   refine aU (ss:=[[103,105,118,101,115]]) ‹_› rfl ⟨6,by decide,rfl⟩ hR6 (by omega) (by decide) (fun _ q14 w14 v h14 hm hv hle14 hR14 oq=>?_) (fun e w' h' hm o2=>⟨e,w',hE.trans (aCk hm),rfl,o2⟩);subst hv
   rw[aCj hm]at hE
   have o14:=oq
   simp only[PSt,pick,lcA,lnA,lgS,lgZ,lgN]at o14
   clear oq hm;refine bR.callL ‹_› rfl hR14 (by omega) (fun gv q15 w15 v h15 hm hv hle15 hR15 oq=>?_) (fun e w' h' hm o2=>⟨e,w',hE.trans (aCk hm),rfl,o2⟩)
   obtain⟨rfl,hv0_15,hv1_15⟩:=hv
   rw[aCj hm]at hE
   have o15:=oq
   simp only[PSt,pick,lcA,lnA,lgS,lgZ,lgN]at o15
   clear oq hm;refine rR (fA bQ rfl rfl rfl ?_);(refine aCR o15 4 rfl aS rfl (by simp) (aI ⟨rfl,rfl⟩ ?_);intro m181 o181)
   rw[aCN]at hE
   refine(cD [116,97,107,101,115]).callL ‹_› rfl hR15 (by omega) (fun b q16 w16 v h16 hm hv hle16 hR16 oq=>?_) (fun e w2 h2 hm o2=>absurd hm (cU _ _ e))
   subst hv
   rw[aCj hm]at hE
   have o16:=oq
   simp only[PSt,pick,lcA,lnA,lgS,lgZ,lgN]at o16
   clear oq hm;cases b with
   | true =>
    rw[if_pos rfl]at hE
    refine aCW ?_;refine bR.callL ‹_› rfl hR16 (by omega) (fun tk_ q17 w17 v h17 hm hv hle17 hR17 oq=>?_) (fun e w' h' hm o2=>⟨e,w',hE.trans (aCk hm),rfl,o2⟩)
    obtain⟨rfl,hv0_17,hv1_17⟩:=hv
    rw[aCj hm]at hE
    have o17:=oq
    simp only[PSt,pick,lcA,lnA,lgS,lgZ,lgN]at o17
    clear oq hm;refine rR (fA bQ rfl rfl rfl ?_);(refine aCR o17 4 rfl aS rfl (by simp) (aI ⟨rfl,rfl⟩ ?_);intro m201 o201);(refine aCS o201 aK aL rfl rfl (by decide) (aI rfl ?_);intro b202 m202 o202);refine aU (ss:=[[59]]) ‹_› rfl ⟨7,by decide,rfl⟩ hR17 (by omega) (by decide) (fun _ q18 w18 v h18 hm hv hle18 hR18 oq=>?_) (fun e w' h' hm o2=>⟨e,w',hE.trans (aCk hm),rfl,o2⟩);subst hv
    rw[aCj hm]at hE
    have o18:=oq
    simp only[PSt,pick,lcA,lnA,lgS,lgZ,lgN]at o18
    clear oq hm;refine rR (aCm o18 4 rfl cL rfl rfl rfl ?_);(refine aCl o18 2 rfl cL rfl (by decide) (aI ⟨rfl,rfl⟩ ?_);intro m211 o211)
    first|refine aCy rfl o211 2 rfl cL rfl rfl ?_|refine aCx rfl o211 2 rfl cL rfl rfl ?_|refine RetVC.cellTT rfl o211 2 rfl cL rfl rfl ?_
    exact⟨⟨nm,ms,tol_,num_,1,gv,tk_⟩,q18,w18,hE,rfl,by omega,hR18,Own.sel ‹_› [0,1] rfl⟩
   | false =>
    rw[if_neg (by decide)]at hE
    refine aCX ?_;(refine aCS o16 aK aL rfl rfl (by decide) (aI rfl ?_);intro b220 m220 o220)
    rw[aCz]at hE
    refine aU (ss:=[[59]]) ‹_› rfl ⟨7,by decide,rfl⟩ hR16 (by omega) (by decide) (fun _ q19 w19 v h19 hm hv hle19 hR19 oq=>?_) (fun e w' h' hm o2=>⟨e,w',hE.trans (aCk hm),rfl,o2⟩);subst hv
    rw[aCj hm]at hE
    have o19:=oq
    simp only[PSt,pick,lcA,lnA,lgS,lgZ,lgN]at o19
    clear oq hm;refine rR (aCm o19 4 rfl cL rfl rfl rfl ?_);(refine aCl o19 2 rfl cL rfl (by decide) (aI ⟨rfl,rfl⟩ ?_);intro m231 o231)
    first|refine aCy rfl o231 2 rfl cL rfl rfl ?_|refine aCx rfl o231 2 rfl cL rfl rfl ?_|refine RetVC.cellTT rfl o231 2 rfl cL rfl rfl ?_
    exact⟨⟨nm,ms,tol_,num_,1,gv,0⟩,q19,w19,hE,rfl,by omega,hR19,Own.sel ‹_› [0,1] rfl⟩
 ·rw[mD (by simp[h5]),aCz]at hE
  refine rR (aCr bQ ?_);refine aI rfl ?_;refine aI rfl ?_;(refine aCT o2 cL ?_;intro b241 m241 o241);(refine aCl o241 4 rfl cL rfl (by decide) (aI ⟨rfl,rfl⟩ ?_);intro m242 o242);refine rR (fA bQ rfl rfl rfl ?_);refine rR (aCi o242 4 rfl aS rfl rfl ?_);refine aCV (fun hc=>absurd hc (by omega)) (fun c245=>?_);(refine aCS o242 aK aL rfl rfl (by decide) (aI rfl ?_);intro b246 m246 o246);refine aU (ss:=[[108,101,97,115,116]]) ‹_› rfl ⟨5,by decide,rfl⟩ hR2 (by omega) (by decide) (fun _ q20 w20 v h20 hm hv hle20 hR20 oq=>?_) (fun e w' h' hm o2=>⟨e,w',hE.trans (aCk hm),rfl,o2⟩);subst hv
  rw[aCj hm]at hE
  have o20:=oq
  simp only[PSt,pick,lcA,lnA,lgS,lgZ,lgN]at o20
  clear oq hm;refine bR.callL ‹_› rfl hR20 (by omega) (fun num_ q21 w21 v h21 hm hv hle21 hR21 oq=>?_) (fun e w' h' hm o2=>⟨e,w',hE.trans (aCk hm),rfl,o2⟩)
  obtain⟨rfl,hv0_21,hv1_21⟩:=hv
  rw[aCj hm]at hE
  have o21:=oq
  simp only[PSt,pick,lcA,lnA,lgS,lgZ,lgN]at o21
  clear oq hm;refine rR (aCr jS ?_);refine aI rfl ?_;refine aI rfl ?_;refine rR (fA bQ rfl rfl rfl ?_);(refine aCR o21 4 rfl ty134 rfl (by simp) (aI ⟨rfl,rfl⟩ ?_);intro m262 o262)
  rw[aCN]at hE
  refine(cD [47]).callL ‹_› rfl hR21 (by omega) (fun b q22 w22 v h22 hm hv hle22 hR22 oq=>?_) (fun e w2 h2 hm o2=>absurd hm (cU _ _ e))
  subst hv
  rw[aCj hm]at hE
  have o22:=oq
  simp only[PSt,pick,lcA,lnA,lgS,lgZ,lgN]at o22
  clear oq hm;cases b with
  | true =>
   rw[if_pos rfl]at hE
   refine aCW ?_;refine bR.callL ‹_› rfl hR22 (by omega) (fun den_ q23 w23 v h23 hm hv hle23 hR23 oq=>?_) (fun e w' h' hm o2=>⟨e,w',hE.trans (aCk hm),rfl,o2⟩)
   obtain⟨rfl,hv0_23,hv1_23⟩:=hv
   rw[aCj hm]at hE
   have o23:=oq
   simp only[PSt,pick,lcA,lnA,lgS,lgZ,lgN]at o23
   clear oq hm;refine rR (fA bQ rfl rfl rfl ?_);refine rR (fA jS rfl rfl rfl ?_);(refine aCR o23 4 rfl aS rfl (by simp) (aI ⟨rfl,rfl⟩ ?_);intro m282 o282);(refine aCS o282 aK aL rfl rfl (by decide) (aI rfl ?_);intro b283 m283 o283);refine aU (ss:=[[103,105,118,101,115]]) ‹_› rfl ⟨6,by decide,rfl⟩ hR23 (by omega) (by decide) (fun _ q24 w24 v h24 hm hv hle24 hR24 oq=>?_) (fun e w' h' hm o2=>⟨e,w',hE.trans (aCk hm),rfl,o2⟩);subst hv
   rw[aCj hm]at hE
   have o24:=oq
   simp only[PSt,pick,lcA,lnA,lgS,lgZ,lgN]at o24
   clear oq hm;refine bR.callL ‹_› rfl hR24 (by omega) (fun gv q25 w25 v h25 hm hv hle25 hR25 oq=>?_) (fun e w' h' hm o2=>⟨e,w',hE.trans (aCk hm),rfl,o2⟩)
   obtain⟨rfl,hv0_25,hv1_25⟩:=hv
   rw[aCj hm]at hE
   have o25:=oq
   simp only[PSt,pick,lcA,lnA,lgS,lgZ,lgN]at o25
   clear oq hm;refine rR (fA bQ rfl rfl rfl ?_);(refine aCR o25 4 rfl aS rfl (by simp) (aI ⟨rfl,rfl⟩ ?_);intro m301 o301)
   rw[aCN]at hE
   refine(cD [116,97,107,101,115]).callL ‹_› rfl hR25 (by omega) (fun b q26 w26 v h26 hm hv hle26 hR26 oq=>?_) (fun e w2 h2 hm o2=>absurd hm (cU _ _ e))
   subst hv
   rw[aCj hm]at hE
   have o26:=oq
   simp only[PSt,pick,lcA,lnA,lgS,lgZ,lgN]at o26
   clear oq hm;cases b with
   | true =>
    rw[if_pos rfl]at hE
    refine aCW ?_;refine bR.callL ‹_› rfl hR26 (by omega) (fun tk_ q27 w27 v h27 hm hv hle27 hR27 oq=>?_) (fun e w' h' hm o2=>⟨e,w',hE.trans (aCk hm),rfl,o2⟩)
    obtain⟨rfl,hv0_27,hv1_27⟩:=hv
    rw[aCj hm]at hE
    have o27:=oq
    simp only[PSt,pick,lcA,lnA,lgS,lgZ,lgN]at o27
    clear oq hm;refine rR (fA bQ rfl rfl rfl ?_);(refine aCR o27 4 rfl aS rfl (by simp) (aI ⟨rfl,rfl⟩ ?_);intro m321 o321);(refine aCS o321 aK aL rfl rfl (by decide) (aI rfl ?_);intro b322 m322 o322);refine aU (ss:=[[59]]) ‹_› rfl ⟨7,by decide,rfl⟩ hR27 (by omega) (by decide) (fun _ q28 w28 v h28 hm hv hle28 hR28 oq=>?_) (fun e w' h' hm o2=>⟨e,w',hE.trans (aCk hm),rfl,o2⟩);subst hv
    rw[aCj hm]at hE
    have o28:=oq
    simp only[PSt,pick,lcA,lnA,lgS,lgZ,lgN]at o28
    clear oq hm;refine rR (aCm o28 4 rfl cL rfl rfl rfl ?_);(refine aCl o28 2 rfl cL rfl (by decide) (aI ⟨rfl,rfl⟩ ?_);intro m331 o331)
    first|refine aCy rfl o331 2 rfl cL rfl rfl ?_|refine aCx rfl o331 2 rfl cL rfl rfl ?_|refine RetVC.cellTT rfl o331 2 rfl cL rfl rfl ?_
    exact⟨⟨nm,ms,0,num_,den_,gv,tk_⟩,q28,w28,hE,rfl,by omega,hR28,Own.sel ‹_› [0,1] rfl⟩
   | false =>
    rw[if_neg (by decide)]at hE
    refine aCX ?_;(refine aCS o26 aK aL rfl rfl (by decide) (aI rfl ?_);intro b340 m340 o340)
    rw[aCz]at hE
    refine aU (ss:=[[59]]) ‹_› rfl ⟨7,by decide,rfl⟩ hR26 (by omega) (by decide) (fun _ q29 w29 v h29 hm hv hle29 hR29 oq=>?_) (fun e w' h' hm o2=>⟨e,w',hE.trans (aCk hm),rfl,o2⟩);subst hv
    rw[aCj hm]at hE
    have o29:=oq
    simp only[PSt,pick,lcA,lnA,lgS,lgZ,lgN]at o29
    clear oq hm;refine rR (aCm o29 4 rfl cL rfl rfl rfl ?_);(refine aCl o29 2 rfl cL rfl (by decide) (aI ⟨rfl,rfl⟩ ?_);intro m351 o351)
    first|refine aCy rfl o351 2 rfl cL rfl rfl ?_|refine aCx rfl o351 2 rfl cL rfl rfl ?_|refine RetVC.cellTT rfl o351 2 rfl cL rfl rfl ?_
    exact⟨⟨nm,ms,0,num_,den_,gv,0⟩,q29,w29,hE,rfl,by omega,hR29,Own.sel ‹_› [0,1] rfl⟩
  | false =>
   rw[if_neg (by decide)]at hE
   refine aCX ?_;(refine aCS o22 aK aL rfl rfl (by decide) (aI rfl ?_);intro b360 m360 o360)
   rw[aCz]at hE
   refine aU (ss:=[[103,105,118,101,115]]) ‹_› rfl ⟨6,by decide,rfl⟩ hR22 (by omega) (by decide) (fun _ q30 w30 v h30 hm hv hle30 hR30 oq=>?_) (fun e w' h' hm o2=>⟨e,w',hE.trans (aCk hm),rfl,o2⟩);subst hv
   rw[aCj hm]at hE
   have o30:=oq
   simp only[PSt,pick,lcA,lnA,lgS,lgZ,lgN]at o30
   clear oq hm;refine bR.callL ‹_› rfl hR30 (by omega) (fun gv q31 w31 v h31 hm hv hle31 hR31 oq=>?_) (fun e w' h' hm o2=>⟨e,w',hE.trans (aCk hm),rfl,o2⟩)
   obtain⟨rfl,hv0_31,hv1_31⟩:=hv
   rw[aCj hm]at hE
   have o31:=oq
   simp only[PSt,pick,lcA,lnA,lgS,lgZ,lgN]at o31
   clear oq hm;refine rR (fA bQ rfl rfl rfl ?_);(refine aCR o31 4 rfl aS rfl (by simp) (aI ⟨rfl,rfl⟩ ?_);intro m381 o381)
   rw[aCN]at hE
   refine(cD [116,97,107,101,115]).callL ‹_› rfl hR31 (by omega) (fun b q32 w32 v h32 hm hv hle32 hR32 oq=>?_) (fun e w2 h2 hm o2=>absurd hm (cU _ _ e))
   subst hv
   rw[aCj hm]at hE
   have o32:=oq
   simp only[PSt,pick,lcA,lnA,lgS,lgZ,lgN]at o32
   clear oq hm;cases b with
   | true =>
    rw[if_pos rfl]at hE
    refine aCW ?_;refine bR.callL ‹_› rfl hR32 (by omega) (fun tk_ q33 w33 v h33 hm hv hle33 hR33 oq=>?_) (fun e w' h' hm o2=>⟨e,w',hE.trans (aCk hm),rfl,o2⟩)
    obtain⟨rfl,hv0_33,hv1_33⟩:=hv
    rw[aCj hm]at hE
    have o33:=oq
    simp only[PSt,pick,lcA,lnA,lgS,lgZ,lgN]at o33
    clear oq hm;refine rR (fA bQ rfl rfl rfl ?_);(refine aCR o33 4 rfl aS rfl (by simp) (aI ⟨rfl,rfl⟩ ?_);intro m401 o401);(refine aCS o401 aK aL rfl rfl (by decide) (aI rfl ?_);intro b402 m402 o402);refine aU (ss:=[[59]]) ‹_› rfl ⟨7,by decide,rfl⟩ hR33 (by omega) (by decide) (fun _ q34 w34 v h34 hm hv hle34 hR34 oq=>?_) (fun e w' h' hm o2=>⟨e,w',hE.trans (aCk hm),rfl,o2⟩);subst hv
    rw[aCj hm]at hE
    have o34:=oq
    simp only[PSt,pick,lcA,lnA,lgS,lgZ,lgN]at o34
    clear oq hm;refine rR (aCm o34 4 rfl cL rfl rfl rfl ?_);(refine aCl o34 2 rfl cL rfl (by decide) (aI ⟨rfl,rfl⟩ ?_);intro m411 o411)
    first|refine aCy rfl o411 2 rfl cL rfl rfl ?_|refine aCx rfl o411 2 rfl cL rfl rfl ?_|refine RetVC.cellTT rfl o411 2 rfl cL rfl rfl ?_
    exact⟨⟨nm,ms,0,num_,1,gv,tk_⟩,q34,w34,hE,rfl,by omega,hR34,Own.sel ‹_› [0,1] rfl⟩
   | false =>
    rw[if_neg (by decide)]at hE
    refine aCX ?_;(refine aCS o32 aK aL rfl rfl (by decide) (aI rfl ?_);intro b420 m420 o420)
    rw[aCz]at hE
    refine aU (ss:=[[59]]) ‹_› rfl ⟨7,by decide,rfl⟩ hR32 (by omega) (by decide) (fun _ q35 w35 v h35 hm hv hle35 hR35 oq=>?_) (fun e w' h' hm o2=>⟨e,w',hE.trans (aCk hm),rfl,o2⟩);subst hv
    rw[aCj hm]at hE
    have o35:=oq
    simp only[PSt,pick,lcA,lnA,lgS,lgZ,lgN]at o35
    clear oq hm;refine rR (aCm o35 4 rfl cL rfl rfl rfl ?_);(refine aCl o35 2 rfl cL rfl (by decide) (aI ⟨rfl,rfl⟩ ?_);intro m431 o431)
    first|refine aCy rfl o431 2 rfl cL rfl rfl ?_|refine aCx rfl o431 2 rfl cL rfl rfl ?_|refine RetVC.cellTT rfl o431 2 rfl cL rfl rfl ?_
    exact⟨⟨nm,ms,0,num_,1,gv,0⟩,q35,w35,hE,rfl,by omega,hR35,Own.sel ‹_› [0,1] rfl⟩
abbrev aN:Value:=.slice none 0 0
def xR (kind:Int)(table:aBs)(vk vc vn:Value)(attr as_:aBs)(agg:Int)(off:Nat):aVs :=
 [.int .i64 kind,.string ⟨⟨table⟩⟩,vk,vc,vn,.string ⟨⟨attr⟩⟩,.string ⟨⟨as_⟩⟩,.int .i64 agg,.int .i64 off]
abbrev cX:={c:aVs // c.length=9}
mutual
def mF (I:Item)(c:aVs):Ex→Prop
 | .mk kind table kids conds names attr as_ agg off=>∃ vk vc vn,c=xR kind table vk vc vn attr as_ agg off ∧
   Reads I 14 vc conds.length (conds.flatMap nT)∧Reads I 1 vn names.length (names.flatMap tB)∧∃ xs:List cX,Reads I 9 vk kids.length (xs.flatMap Subtype.val)∧rN I xs kids
def rN (I:Item):List cX→List Ex→Prop
 | [],[]=>True
 | c::cs,x::xs=>mF I c.1 x∧rN I cs xs
 | _,_=>False
end
theorem Reads.mono {I J:Item}{sz n:Nat}{v:Value}{xs:aVs}(r:Reads I sz v n xs)(hm:∀ h,J.sat h→I.sat h):Reads J sz v n xs:=fun h s=>r h (hm h s)
mutual
theorem mF.mono {I J:Item}(hm:∀ h,J.sat h→I.sat h):∀(x:Ex)(c:aVs),mF I c x→mF J c x
 | .mk kind table kids conds names attr as_ agg off,c,h=>by
  rw[mF]at h ⊢
  obtain⟨vk,vc,vn,h1,h2,h3,xs,h4,h5⟩:=h
  exact⟨vk,vc,vn,h1,h2.mono hm,h3.mono hm,xs,h4.mono hm,rN.mono hm kids xs h5⟩
theorem rN.mono {I J:Item}(hm:∀ h,J.sat h→I.sat h):∀(xs:List Ex)(cs:List cX),rN I cs xs→rN J cs xs
 | [],[],_=>trivial
 | x::xs,c::cs,h=>by
  rw[rN]at h ⊢
  exact⟨mF.mono hm x c.1 h.1,rN.mono hm xs cs h.2⟩
 | [],_::_,h=>(by rw[rN]at h;exact h.elim;all_goals simp)
 | _::_,[],h=>(by rw[rN]at h;exact h.elim;all_goals simp)
end
theorem iR (I:Item):mF I (xR 0 [] aN aN aN [] [] 0 0) ex0:=by
 unfold ex0
 rw[mF]
 exact⟨_,_,_,rfl,aP,aP,[],aP,trivial⟩
def itC (x:It)(vc vn vt vf vv vd:Value)(e0 e1 e2 e3 e4 e5 e6 e7 e8:Value):aVs :=
 [.int .i64 x.kind,.string ⟨⟨x.name⟩⟩,.int .i64 x.off,.string ⟨⟨x.table⟩⟩,.string ⟨⟨x.attr⟩⟩,vc,vn,.int .i64 x.by_,.int .i64 x.n,.int .i64 x.m,vt,.string ⟨⟨x.other⟩⟩,.string ⟨⟨x.oattr⟩⟩,vf,vv,vd,e0,e1,e2,e3,e4,e5,e6,e7,e8]
def itR (I:Item)(c:aVs)(x:It):Prop:=∃ vc vn vt vf vv vd e0 e1 e2 e3 e4 e5 e6 e7 e8,c=itC x vc vn vt vf vv vd e0 e1 e2 e3 e4 e5 e6 e7 e8 ∧
 Reads I 5 vc x.cols.length (x.cols.flatMap uY)∧Reads I 1 vn x.names.length (x.names.flatMap tB)∧Reads I 7 vt x.terms.length (x.terms.flatMap xW) ∧
 Reads I 4 vf x.fixed.length (x.fixed.flatMap yC)∧Reads I 2 vv x.vars.length (x.vars.flatMap vrC)∧Reads I 14 vd x.conds.length (x.conds.flatMap nT)∧mF I [e0,e1,e2,e3,e4,e5,e6,e7,e8] x.expr
def x0 (kd:Int)(nm:aBs)(off:Nat):It:={ it0 with kind:=kd,name:=nm,off:=off }
abbrev mT (kd:Int)(nm:aBs)(off:Nat):aVs :=
 [.int .i64 kd,.string ⟨⟨nm⟩⟩,.int .i64 off,.string ⟨⟨[]⟩⟩,.string ⟨⟨[]⟩⟩,aN,aN,.int .i64 0,.int .i64 0,.int .i64 0,aN,.string ⟨⟨[]⟩⟩,.string ⟨⟨[]⟩⟩,aN,aN,aN,.int .i64 0,.string ⟨⟨[]⟩⟩,aN,aN,aN,.string ⟨⟨[]⟩⟩,.string ⟨⟨[]⟩⟩,.int .i64 0,.int .i64 0]
def iE (B:Base)(bp z:Nat)(tk:Item)(bx:Nat)(n:Nat)(res:Except (Int×Nat) (It×List Tok)):Ending→Heap→Prop :=
 Ends (fun v h'=>∃ x r w c I,res=.ok (x,r)∧v=.tuple ⟨[]⟩∧itR I c x∧r.length≤n∧cJ tk w r∧Own B [box bp [w,.int .i64 z] 72,tk,box bx c 44,I] h')
  (fun c h'=>∃ e w,res=.error e∧c=kQ e∧Own B (PSt bp z w tk) h')
theorem Own.empty3 {B:Base}{x y z:Item}{h:Heap}(o:Own B [x,y,z] h):Own B [x,y,z,gL] h:=o.emptyI'.sel [1,2,3,0] rfl
theorem source_part (kd:Int)(nm:aBs)(off:Nat)(B:Base)(bp z:Nat)(tk:Item)(bx:Nat)(w:Value)(ts:List Tok)(h:Heap)(o:Own B [box bp [w,.int .i64 z] 72,tk,box bx (mT kd nm off) 44] h)(hR:cJ tk w ts)(hl:ts.length≤5000) :
  Spec Tryz.prog 58 [.pointer (some ⟨bp,0,none⟩),.pointer (some ⟨bx,0,none⟩)] h (iE B bp z tk bx ts.length (tQ z (x0 kd nm off) ts)):=by
 have hE:=congrFun (tQ.eq_1 z (x0 kd nm off)) ts;unfold mT at o;refine aC1 Tryz.func58 rfl Tryz.ntmps58 (by kernel_rfl) ?_;(refine aCS o aK aL rfl rfl (by decide) (aI rfl ?_);intro b10 m10 o10);refine aU (ss:=[[116,114,117,115,116]]) ‹_› rfl ⟨3,by decide,rfl⟩ hR (by omega) (by decide) (fun _ q1 w1 v h1 hm hv hle1 hR1 oq=>?_) (fun e w' h' hm o2=>⟨e,w',hE.trans (aCk hm),rfl,o2⟩);subst hv
 rw[aCj hm]at hE
 have o1:=oq
 simp only[PSt,pick,lcA,lnA,lgS,lgZ,lgN]at o1
 clear oq hm;refine bR.callL ‹_› rfl hR1 (by omega) (fun n_ q2 w2 v h2 hm hv hle2 hR2 oq=>?_) (fun e w' h' hm o2=>⟨e,w',hE.trans (aCk hm),rfl,o2⟩)
 obtain⟨rfl,hv0_2,hv1_2⟩:=hv
 rw[aCj hm]at hE
 have o2:=oq
 simp only[PSt,pick,lcA,lnA,lgS,lgZ,lgN]at o2
 clear oq hm;refine rR (nC rfl ?_);refine rR (fA aC rfl rfl rfl ?_);(refine aCR o2 2 rfl aS rfl (by simp) (aI ⟨rfl,rfl⟩ ?_);intro m32 o32);refine aC4 rfl ?_
 exact⟨_,q2,w2,_,gL,hE,rfl,⟨_,_,_,_,_,_,_,_,_,_,_,_,_,_,_,rfl,aP,aP,aP,aP,aP,aP,iR _⟩,by omega,hR2,(Own.sel ‹_› [0,1,2] rfl).empty3⟩
theorem keep_part (kd:Int)(nm:aBs)(off:Nat)(B:Base)(bp z:Nat)(tk:Item)(bx:Nat)(w:Value)(ts:List Tok)(h:Heap)(o:Own B [box bp [w,.int .i64 z] 72,tk,box bx (mT kd nm off) 44] h)(hR:cJ tk w ts)(hl:ts.length≤5000) :
  Spec Tryz.prog 61 [.pointer (some ⟨bp,0,none⟩),.pointer (some ⟨bx,0,none⟩)] h (iE B bp z tk bx ts.length (keepP z (x0 kd nm off) ts)):=by
 have hE:=congrFun (keepP.eq_1 z (x0 kd nm off)) ts;unfold mT at o;refine aC1 Tryz.func61 rfl Tryz.ntmps61 (by kernel_rfl) ?_;refine pL.callL ‹_› rfl hR (by omega) (fun pl q1 w1 v h1 hm hv hle1 hR1 oq=>?_) (fun e w' h' hm o2=>⟨e,w',hE.trans (aCk hm),rfl,o2⟩);subst hv
 rw[aCj hm]at hE
 have o1:=oq
 simp only[PSt,pick,lcA,lnA,lgS,lgZ,lgN]at o1
 clear oq hm;refine rR (nC rfl ?_);refine rR (fA aC rfl rfl rfl ?_);(refine aCR o1 2 rfl aL rfl (by simp) (aI ⟨rfl,rfl⟩ ?_);intro m22 o22);refine rR (nC rfl ?_);refine rR (fA aC rfl rfl rfl ?_);(refine aCR o22 2 rfl aL rfl (by simp) (aI ⟨rfl,rfl⟩ ?_);intro m25 o25);(refine aCS o25 aK aL rfl rfl (by decide) (aI rfl ?_);intro b26 m26 o26);refine aU (ss:=[[98,121]]) ‹_› rfl ⟨3,by decide,rfl⟩ hR1 (by omega) (by decide) (fun _ q2 w2 v h2 hm hv hle2 hR2 oq=>?_) (fun e w' h' hm o2=>⟨e,w',hE.trans (aCk hm),rfl,o2⟩);subst hv
 rw[aCj hm]at hE
 have o2:=oq
 simp only[PSt,pick,lcA,lnA,lgS,lgZ,lgN]at o2
 clear oq hm;(refine aCS o2 aK aL rfl rfl (by decide) (aI rfl ?_);intro b30 m30 o30);refine jM (ss:=[[108,97,116,101,115,116],[109,111,115,116],[116,114,117,115,116,101,100],[108,111,110,103,101,115,116],[108,101,97,115,116],[103,114,101,97,116,101,115,116]]) ‹_› rfl ⟨4,by decide,rfl⟩ hR2 (by omega) (by decide) (fun b_ q3 w3 v h3 hm hv hle3 hR3 oq=>?_) (fun e w' h' hm o2=>⟨e,w',hE.trans (aCk hm),rfl,o2⟩);subst hv
 rw[aCj hm]at hE
 have o3:=oq
 simp only[PSt,pick,lcA,lnA,lgS,lgZ,lgN]at o3
 clear oq hm;refine rR (nC rfl ?_);refine rR (fA aC rfl rfl rfl ?_);(refine aCR o3 2 rfl aS rfl (by simp) (aI ⟨rfl,rfl⟩ ?_);intro m42 o42);refine aC4 rfl ?_
 exact⟨_,q3,w3,_,gL,hE,rfl,⟨_,_,_,_,_,_,_,_,_,_,_,_,_,_,_,rfl,aP,aP,aP,aP,aP,aP,iR _⟩,by omega,hR3,(Own.sel ‹_› [0,1,2] rfl).empty3⟩
theorem aB7 (kd:Int)(nm:aBs)(off:Nat)(B:Base)(bp z:Nat)(tk:Item)(bx:Nat)(w:Value)(ts:List Tok)(h:Heap)(o:Own B [box bp [w,.int .i64 z] 72,tk,box bx (mT kd nm off) 44] h)(hR:cJ tk w ts)(hl:ts.length≤5000) :
  Spec Tryz.prog 64 [.pointer (some ⟨bp,0,none⟩),.pointer (some ⟨bx,0,none⟩)] h (iE B bp z tk bx ts.length (rK z (x0 kd nm off) ts)):=by
 have hE:=congrFun (rK.eq_1 z (x0 kd nm off)) ts;unfold mT at o;refine aC1 Tryz.func64 rfl Tryz.ntmps64 (by kernel_rfl) ?_;refine pL.callL ‹_› rfl hR (by omega) (fun pl q1 w1 v h1 hm hv hle1 hR1 oq=>?_) (fun e w' h' hm o2=>⟨e,w',hE.trans (aCk hm),rfl,o2⟩);subst hv
 rw[aCj hm]at hE
 have o1:=oq
 simp only[PSt,pick,lcA,lnA,lgS,lgZ,lgN]at o1
 clear oq hm;refine rR (nC rfl ?_);refine rR (fA aC rfl rfl rfl ?_);(refine aCR o1 2 rfl aL rfl (by simp) (aI ⟨rfl,rfl⟩ ?_);intro m22 o22);refine rR (nC rfl ?_);refine rR (fA aC rfl rfl rfl ?_);(refine aCR o22 2 rfl aL rfl (by simp) (aI ⟨rfl,rfl⟩ ?_);intro m25 o25);(refine aCS o25 aK aL rfl rfl (by decide) (aI rfl ?_);intro b26 m26 o26);refine aU (ss:=[[105,110]]) ‹_› rfl ⟨3,by decide,rfl⟩ hR1 (by omega) (by decide) (fun _ q2 w2 v h2 hm hv hle2 hR2 oq=>?_) (fun e w' h' hm o2=>⟨e,w',hE.trans (aCk hm),rfl,o2⟩);subst hv
 rw[aCj hm]at hE
 have o2:=oq
 simp only[PSt,pick,lcA,lnA,lgS,lgZ,lgN]at o2
 clear oq hm;refine pL.callL ‹_› rfl hR2 (by omega) (fun po q3 w3 v h3 hm hv hle3 hR3 oq=>?_) (fun e w' h' hm o2=>⟨e,w',hE.trans (aCk hm),rfl,o2⟩);subst hv
 rw[aCj hm]at hE
 have o3:=oq
 simp only[PSt,pick,lcA,lnA,lgS,lgZ,lgN]at o3
 clear oq hm;refine rR (nC rfl ?_);refine rR (fA aC rfl rfl rfl ?_);(refine aCR o3 2 rfl aL rfl (by simp) (aI ⟨rfl,rfl⟩ ?_);intro m42 o42);refine rR (nC rfl ?_);refine rR (fA aC rfl rfl rfl ?_);(refine aCR o42 2 rfl aL rfl (by simp) (aI ⟨rfl,rfl⟩ ?_);intro m45 o45);refine aC4 rfl ?_
 exact⟨_,q3,w3,_,gL,hE,rfl,⟨_,_,_,_,_,_,_,_,_,_,_,_,_,_,_,rfl,aP,aP,aP,aP,aP,aP,iR _⟩,by omega,hR3,(Own.sel ‹_› [0,1,2] rfl).empty3⟩
theorem block_part (kd:Int)(nm:aBs)(off:Nat)(B:Base)(bp z:Nat)(tk:Item)(bx:Nat)(w:Value)(ts:List Tok)(h:Heap)(o:Own B [box bp [w,.int .i64 z] 72,tk,box bx (mT kd nm off) 44] h)(hR:cJ tk w ts)(hl:ts.length≤5000) :
  Spec Tryz.prog 59 [.pointer (some ⟨bp,0,none⟩),.pointer (some ⟨bx,0,none⟩)] h (iE B bp z tk bx ts.length (aAI z (x0 kd nm off) ts)):=by
 have hE:=congrFun (aAI.eq_1 z (x0 kd nm off)) ts;unfold mT at o;refine aC1 Tryz.func59 rfl Tryz.ntmps59 (by kernel_rfl) ?_;(refine aCS o aK aL rfl rfl (by decide) (aI rfl ?_);intro b10 m10 o10);refine aU (ss:=[[111,110]]) ‹_› rfl ⟨3,by decide,rfl⟩ hR (by omega) (by decide) (fun _ q1 w1 v h1 hm hv hle1 hR1 oq=>?_) (fun e w' h' hm o2=>⟨e,w',hE.trans (aCk hm),rfl,o2⟩);subst hv
 rw[aCj hm]at hE
 have o1:=oq
 simp only[PSt,pick,lcA,lnA,lgS,lgZ,lgN]at o1
 clear oq hm;refine pL.callL ‹_› rfl hR1 (by omega) (fun pl q2 w2 v h2 hm hv hle2 hR2 oq=>?_) (fun e w' h' hm o2=>⟨e,w',hE.trans (aCk hm),rfl,o2⟩);subst hv
 rw[aCj hm]at hE
 have o2:=oq
 simp only[PSt,pick,lcA,lnA,lgS,lgZ,lgN]at o2
 clear oq hm;refine rR (nC rfl ?_);refine rR (fA aC rfl rfl rfl ?_);(refine aCR o2 2 rfl aL rfl (by simp) (aI ⟨rfl,rfl⟩ ?_);intro m32 o32);refine rR (nC rfl ?_);refine rR (fA aC rfl rfl rfl ?_);(refine aCR o32 2 rfl aL rfl (by simp) (aI ⟨rfl,rfl⟩ ?_);intro m35 o35);(refine aCS o35 aK aL rfl rfl (by decide) (aI rfl ?_);intro b36 m36 o36);refine aU (ss:=[[98,121]]) ‹_› rfl ⟨4,by decide,rfl⟩ hR2 (by omega) (by decide) (fun _ q3 w3 v h3 hm hv hle3 hR3 oq=>?_) (fun e w' h' hm o2=>⟨e,w',hE.trans (aCk hm),rfl,o2⟩);subst hv
 rw[aCj hm]at hE
 have o3:=oq
 simp only[PSt,pick,lcA,lnA,lgS,lgZ,lgN]at o3
 clear oq hm;(refine aCS o3 aK aL rfl rfl (by decide) (aI rfl ?_);intro b40 m40 o40);refine jM (ss:=[[101,120,97,99,116],[116,111,107,101,110],[112,114,101,102,105,120],[115,107,101,116,99,104]]) ‹_› rfl ⟨5,by decide,rfl⟩ hR3 (by omega) (by decide) (fun b_ q4 w4 v h4 hm hv hle4 hR4 oq=>?_) (fun e w' h' hm o2=>⟨e,w',hE.trans (aCk hm),rfl,o2⟩);subst hv
 rw[aCj hm]at hE
 have o4:=oq
 simp only[PSt,pick,lcA,lnA,lgS,lgZ,lgN]at o4
 clear oq hm;by_cases h3:b_=3
 ·rw[if_pos h3]at hE
  refine rR (nC rfl ?_);refine rR (fA aC rfl rfl rfl ?_);(refine aCR o4 2 rfl aS rfl (by simp) (aI ⟨rfl,rfl⟩ ?_);intro m52 o52);refine rR (nC rfl ?_);refine rR (fA aC rfl rfl rfl ?_);refine rR (aCi o52 2 rfl aS rfl rfl ?_);refine aCV (fun c56=>?_) (fun hc=>absurd (by omega) hc);refine bR.callL ‹_› rfl hR4 (by omega) (fun n_ q5 w5 v h5 hm hv hle5 hR5 oq=>?_) (fun e w' h' hm o2=>⟨e,w',hE.trans (aCk hm),rfl,o2⟩)
  obtain⟨rfl,hv0_5,hv1_5⟩:=hv
  rw[aCj hm]at hE
  have o5:=oq
  simp only[PSt,pick,lcA,lnA,lgS,lgZ,lgN]at o5
  clear oq hm;refine rR (nC rfl ?_);refine rR (fA aC rfl rfl rfl ?_);(refine aCR o5 2 rfl aS rfl (by simp) (aI ⟨rfl,rfl⟩ ?_);intro m62 o62);refine aC4 rfl ?_
  exact⟨_,q5,w5,_,gL,hE,rfl,⟨_,_,_,_,_,_,_,_,_,_,_,_,_,_,_,rfl,aP,aP,aP,aP,aP,aP,iR _⟩,by omega,hR5,(Own.sel ‹_› [0,1,2] rfl).empty3⟩
 rw[if_neg h3]at hE
 by_cases h4:b_=4
 ·rw[if_pos h4]at hE
  refine rR (nC rfl ?_);refine rR (fA aC rfl rfl rfl ?_);(refine aCR o4 2 rfl aS rfl (by simp) (aI ⟨rfl,rfl⟩ ?_);intro m72 o72);refine rR (nC rfl ?_);refine rR (fA aC rfl rfl rfl ?_);refine rR (aCi o72 2 rfl aS rfl rfl ?_);refine aCV (fun hc=>absurd hc (by omega)) (fun c76=>?_);refine aCV (fun c77=>?_) (fun hc=>absurd (by omega) hc);refine bR.callL ‹_› rfl hR4 (by omega) (fun n_ q6 w6 v h6 hm hv hle6 hR6 oq=>?_) (fun e w' h' hm o2=>⟨e,w',hE.trans (aCk hm),rfl,o2⟩)
  obtain⟨rfl,hv0_6,hv1_6⟩:=hv
  rw[aCj hm]at hE
  have o6:=oq
  simp only[PSt,pick,lcA,lnA,lgS,lgZ,lgN]at o6
  clear oq hm;refine rR (nC rfl ?_);refine rR (fA aC rfl rfl rfl ?_);(refine aCR o6 2 rfl aS rfl (by simp) (aI ⟨rfl,rfl⟩ ?_);intro m82 o82);refine bR.callL ‹_› rfl hR6 (by omega) (fun m_ q7 w7 v h7 hm hv hle7 hR7 oq=>?_) (fun e w' h' hm o2=>⟨e,w',hE.trans (aCk hm),rfl,o2⟩)
  obtain⟨rfl,hv0_7,hv1_7⟩:=hv
  rw[aCj hm]at hE
  have o7:=oq
  simp only[PSt,pick,lcA,lnA,lgS,lgZ,lgN]at o7
  clear oq hm;refine rR (nC rfl ?_);refine rR (fA aC rfl rfl rfl ?_);(refine aCR o7 2 rfl aS rfl (by simp) (aI ⟨rfl,rfl⟩ ?_);intro m92 o92);refine aC4 rfl ?_
  exact⟨_,q7,w7,_,gL,hE,rfl,⟨_,_,_,_,_,_,_,_,_,_,_,_,_,_,_,rfl,aP,aP,aP,aP,aP,aP,iR _⟩,by omega,hR7,(Own.sel ‹_› [0,1,2] rfl).empty3⟩
 rw[if_neg h4]at hE
 refine rR (nC rfl ?_);refine rR (fA aC rfl rfl rfl ?_);(refine aCR o4 2 rfl aS rfl (by simp) (aI ⟨rfl,rfl⟩ ?_);intro m102 o102);refine rR (nC rfl ?_);refine rR (fA aC rfl rfl rfl ?_);refine rR (aCi o102 2 rfl aS rfl rfl ?_);refine aCV (fun hc=>absurd hc (by omega)) (fun c106=>?_);refine aCV (fun hc=>absurd hc (by omega)) (fun c107=>?_);refine aC4 rfl ?_
 exact⟨_,q4,w4,_,gL,hE,rfl,⟨_,_,_,_,_,_,_,_,_,_,_,_,_,_,_,rfl,aP,aP,aP,aP,aP,aP,iR _⟩,by omega,hR4,(Own.sel ‹_› [0,1,2] rfl).empty3⟩
theorem wS (kd:Int)(nm:aBs)(off:Nat)(B:Base)(bp z:Nat)(tk:Item)(bx:Nat)(w:Value)(ts:List Tok)(h:Heap)(o:Own B [box bp [w,.int .i64 z] 72,tk,box bx (mT kd nm off) 44] h)(hR:cJ tk w ts)(hl:ts.length≤5000) :
  Spec Tryz.prog 62 [.pointer (some ⟨bp,0,none⟩),.pointer (some ⟨bx,0,none⟩)] h (iE B bp z tk bx ts.length (jI z (x0 kd nm off) ts)):=by
 have hE:=congrFun (jI.eq_1 z (x0 kd nm off)) ts;unfold mT at o;refine aC1 Tryz.func62 rfl Tryz.ntmps62 (by kernel_rfl) ?_;(refine aCS o aK aL rfl rfl (by decide) (aI rfl ?_);intro b10 m10 o10);refine aU (ss:=[[111,110]]) ‹_› rfl ⟨3,by decide,rfl⟩ hR (by omega) (by decide) (fun _ q1 w1 v h1 hm hv hle1 hR1 oq=>?_) (fun e w' h' hm o2=>⟨e,w',hE.trans (aCk hm),rfl,o2⟩);subst hv
 rw[aCj hm]at hE
 have o1:=oq
 simp only[PSt,pick,lcA,lnA,lgS,lgZ,lgN]at o1
 clear oq hm;refine cE.callL ‹_› rfl hR1 (by omega) (fun tb q2 w2 v h2 hm hv hle2 hR2 oq=>?_) (fun e w' h' hm o2=>⟨e,w',hE.trans (aCk hm),rfl,o2⟩);subst hv
 rw[aCj hm]at hE
 have o2:=oq
 simp only[PSt,pick,lcA,lnA,lgS,lgZ,lgN]at o2
 clear oq hm;refine rR (nC rfl ?_);refine rR (fA aC rfl rfl rfl ?_);(refine aCR o2 2 rfl aL rfl (by simp) (aI ⟨rfl,rfl⟩ ?_);intro m32 o32);(refine aCS o32 aK aL rfl rfl (by decide) (aI rfl ?_);intro b33 m33 o33);refine aU (ss:=[[40]]) ‹_› rfl ⟨4,by decide,rfl⟩ hR2 (by omega) (by decide) (fun _ q3 w3 v h3 hm hv hle3 hR3 oq=>?_) (fun e w' h' hm o2=>⟨e,w',hE.trans (aCk hm),rfl,o2⟩);subst hv
 rw[aCj hm]at hE
 have o3:=oq
 simp only[PSt,pick,lcA,lnA,lgS,lgZ,lgN]at o3
 clear oq hm;refine cW.callL (fun B' o'=>pN B' bp z tk _ _ _ o' hR3 (by omega)) ‹_› rfl (fun l4 q4 w4 v4 I h4 hm hv hle4 hR4 oq=>?_) (fun e w' h' hm o2=>⟨e,w',hE.trans (aCk hm),rfl,o2⟩)
 obtain⟨hn4,rfl⟩:=hv
 rw[aCj hm]at hE
 have o4:=oq
 simp only[PSt,pick,lcA,lnA,lgS,lgZ,lgN]at o4
 clear oq hm
 obtain⟨va4,vb4,rfl⟩:=o4.rowIs 2 rfl
 refine rR (nC rfl ?_);refine rR (fA aC rfl rfl rfl ?_);(refine aCR o4 3 rfl eX rfl (by simp) (aI ⟨rfl,rfl⟩ ?_);intro m52 o52);(refine aCS o52 aK aL rfl rfl (by decide) (aI rfl ?_);intro b53 m53 o53);refine aU (ss:=[[41]]) ‹_› rfl ⟨6,by decide,rfl⟩ hR4 (by omega) (by decide) (fun _ q5 w5 v h5 hm hv hle5 hR5 oq=>?_) (fun e w' h' hm o2=>⟨e,w',hE.trans (aCk hm),rfl,o2⟩);subst hv
 rw[aCj hm]at hE
 have o5:=oq
 simp only[PSt,pick,lcA,lnA,lgS,lgZ,lgN]at o5
 clear oq hm;refine aC4 rfl ?_
 exact⟨_,q5,w5,_,_,hE,rfl,⟨_,_,_,_,_,_,_,_,_,_,_,_,_,_,_,rfl,aP,dK,aP,aP,aP,aP,iR _⟩,by omega,hR5,Own.sel ‹_› [0,1,3,2] rfl⟩
theorem deny_part (kd:Int)(nm:aBs)(off:Nat)(B:Base)(bp z:Nat)(tk:Item)(bx:Nat)(w:Value)(ts:List Tok)(h:Heap)(o:Own B [box bp [w,.int .i64 z] 72,tk,box bx (mT kd nm off) 44] h)(hR:cJ tk w ts)(hl:ts.length≤5000) :
  Spec Tryz.prog 65 [.pointer (some ⟨bp,0,none⟩),.pointer (some ⟨bx,0,none⟩)] h (iE B bp z tk bx ts.length (denyP z (x0 kd nm off) ts)):=by
 have hE:=congrFun (denyP.eq_1 z (x0 kd nm off)) ts;unfold mT at o;refine aC1 Tryz.func65 rfl Tryz.ntmps65 (by kernel_rfl) ?_;refine rR (aCD ?_);refine cW.callL (fun B' o'=>listV_spec _ (fun z=>yP z) aAS [44] B' bp z tk _ _ _ o' hR (by omega)) ‹_› rfl (fun l1 q1 w1 v1 I h1 hm hv hle1 hR1 oq=>?_) (fun e w' h' hm o2=>⟨e,w',hE.trans (aCk hm),rfl,o2⟩)
 obtain⟨hn1,rfl⟩:=hv
 rw[aCj hm]at hE
 have o1:=oq
 simp only[PSt,pick,lcA,lnA,lgS,lgZ,lgN]at o1
 clear oq hm
 obtain⟨va1,vb1,rfl⟩:=o1.rowIs 2 rfl
 refine rR (nC rfl ?_);refine rR (fA aC rfl rfl rfl ?_);(refine aCR o1 3 rfl pJ rfl (by simp) (aI ⟨rfl,rfl⟩ ?_);intro m22 o22);refine cW.callL (fun B' o'=>aAz B' bp z tk _ _ _ o' hR1 (by omega)) ‹_› rfl (fun l2 q2 w2 v2 I h2 hm hv hle2 hR2 oq=>?_) (fun e w' h' hm o2=>⟨e,w',hE.trans (aCk hm),rfl,o2⟩)
 obtain⟨hn2,rfl⟩:=hv
 rw[aCj hm]at hE
 have o2:=oq
 simp only[PSt,pick,lcA,lnA,lgS,lgZ,lgN]at o2
 clear oq hm
 obtain⟨va2,vb2,rfl⟩:=o2.rowIs 2 rfl
 refine rR (nC rfl ?_);refine rR (fA aC rfl rfl rfl ?_);(refine aCR o2 4 rfl mO rfl (by simp) (aI ⟨rfl,rfl⟩ ?_);intro m32 o32);refine aC4 rfl ?_
 exact⟨_,q2,w2,_,_,hE,rfl,⟨_,_,_,_,_,_,_,_,_,_,_,_,_,_,_,rfl,aP,aP,aP,aP,dK.inr,dK.inl,iR _⟩,by omega,hR2,((Own.sel ‹_› [2,3,0,1,4] rfl).join).sel [1,2,3,0] rfl⟩
theorem table_part (kd:Int)(nm:aBs)(off:Nat)(B:Base)(bp z:Nat)(tk:Item)(bx:Nat)(w:Value)(ts:List Tok)(h:Heap)(o:Own B [box bp [w,.int .i64 z] 72,tk,box bx (mT kd nm off) 44] h)(hR:cJ tk w ts)(hl:ts.length≤5000) :
  Spec Tryz.prog 57 [.pointer (some ⟨bp,0,none⟩),.pointer (some ⟨bx,0,none⟩)] h (iE B bp z tk bx ts.length (yV z (x0 kd nm off) ts)):=by
 have hE:=congrFun (yV.eq_1 z (x0 kd nm off)) ts;unfold mT at o;refine aC1 Tryz.func57 rfl Tryz.ntmps57 (by kernel_rfl) ?_;(refine aCS o aK aL rfl rfl (by decide) (aI rfl ?_);intro b10 m10 o10);refine aU (ss:=[[40]]) ‹_› rfl ⟨3,by decide,rfl⟩ hR (by omega) (by decide) (fun _ q1 w1 v h1 hm hv hle1 hR1 oq=>?_) (fun e w' h' hm o2=>⟨e,w',hE.trans (aCk hm),rfl,o2⟩);subst hv
 rw[aCj hm]at hE
 have o1:=oq
 simp only[PSt,pick,lcA,lnA,lgS,lgZ,lgN]at o1
 clear oq hm;refine rR (aCD ?_);refine cW.callL (fun B' o'=>listK_spec _ (fun z=>lI z) column_spec [44] B' bp z tk _ _ _ o' hR1 (by omega)) ‹_› rfl (fun l2 q2 w2 v2 I h2 hm hv hle2 hR2 oq=>?_) (fun e w' h' hm o2=>⟨e,w',hE.trans (aCk hm),rfl,o2⟩)
 obtain⟨hn2,rfl⟩:=hv
 rw[aCj hm]at hE
 have o2:=oq
 simp only[PSt,pick,lcA,lnA,lgS,lgZ,lgN]at o2
 clear oq hm
 obtain⟨va2,vb2,rfl⟩:=o2.rowIs 2 rfl
 refine rR (nC rfl ?_);refine rR (fA aC rfl rfl rfl ?_);(refine aCR o2 3 rfl lY rfl (by simp) (aI ⟨rfl,rfl⟩ ?_);intro m32 o32);(refine aCS o32 aK aL rfl rfl (by decide) (aI rfl ?_);intro b33 m33 o33);refine aU (ss:=[[41],[107,101,121]]) ‹_› rfl ⟨5,by decide,rfl⟩ hR2 (by omega) (by decide) (fun _ q3 w3 v h3 hm hv hle3 hR3 oq=>?_) (fun e w' h' hm o2=>⟨e,w',hE.trans (aCk hm),rfl,o2⟩);subst hv
 rw[aCj hm]at hE
 have o3:=oq
 simp only[PSt,pick,lcA,lnA,lgS,lgZ,lgN]at o3
 clear oq hm;refine cW.callL (fun B' o'=>pN B' bp z tk _ _ _ o' hR3 (by omega)) ‹_› rfl (fun l4 q4 w4 v4 I h4 hm hv hle4 hR4 oq=>?_) (fun e w' h' hm o2=>⟨e,w',hE.trans (aCk hm),rfl,o2⟩)
 obtain⟨hn4,rfl⟩:=hv
 rw[aCj hm]at hE
 have o4:=oq
 simp only[PSt,pick,lcA,lnA,lgS,lgZ,lgN]at o4
 clear oq hm
 obtain⟨va4,vb4,rfl⟩:=o4.rowIs 2 rfl
 refine rR (nC rfl ?_);refine rR (fA aC rfl rfl rfl ?_);(refine aCR o4 4 rfl eX rfl (by simp) (aI ⟨rfl,rfl⟩ ?_);intro m52 o52);refine aC4 rfl ?_
 exact⟨_,q4,w4,_,_,hE,rfl,⟨_,_,_,_,_,_,_,_,_,_,_,_,_,_,_,rfl,dK.inr,dK.inl,aP,aP,aP,aP,iR _⟩,by omega,hR4,((Own.sel ‹_› [2,3,0,1,4] rfl).join).sel [1,2,3,0] rfl⟩
def Dec {α:Type}(m:PM α):Prop:=∀ ts a r,m ts=.ok (a,r)→r.length≤ts.length
theorem Dec.pure {α:Type}(a:α):Dec (Pure.pure a:PM α):=by
 intro ts x r h;cases h;exact aDj _
theorem Dec.bind {α β:Type}{m:PM α}{f:α→PM β}(hm:Dec m)(hf:∀ a,Dec (f a)):Dec (m >>= f):=by
 intro ts b r h;cases hq:m ts with
 | error e=>rw[aCk hq]at h;cases h
 | ok p =>
  obtain⟨a,q⟩:=p
  rw[aCj hq]at h
  exact aDn (hf a _ _ _ h) (hm _ _ _ hq)
theorem Dec.take (s:aBs):Dec (cM s):=by
 intro ts b r h;unfold cM at h;split at h
 ·cases h;simp
 ·cases h;exact aDj _
theorem Dec.fail {α:Type}(z:Nat)(e:Int):Dec (qD z e:PM α):=by
 intro ts b r h;cases h
theorem kindP_lt {z:Nat}{k:Int}{ts:List Tok}{t:Tok}{r:List Tok}(h:fP z k ts=.ok (t,r)):r.length+1=ts.length:=by
 cases ts with
 | nil=>cases h
 | cons x q =>
  unfold fP at h;dsimp only at h;split at h
  ·cases h;rfl
  ·cases h
theorem nameP_lt {z:Nat}{ts:List Tok}{a:aBs}{r:List Tok}(h:cV z ts=.ok (a,r)):r.length+1=ts.length:=by
 unfold cV at h;cases hq:fP z 1 ts with
 | error e=>rw[aCk hq]at h;cases h
 | ok p =>
  obtain⟨t,q⟩:=p
  rw[aCj hq]at h
  cases h
  exact kindP_lt hq
theorem Dec.kind (z:Nat)(k:Int):Dec (fP z k):=fun _ _ _ h=>by have:=kindP_lt h;omega
theorem Dec.name (z:Nat):Dec (cV z):=Dec.bind (Dec.kind z 1) fun _=>Dec.pure _
theorem Dec.num (z:Nat):Dec (lZ z):=Dec.bind (Dec.kind z 2) fun _=>Dec.pure _
theorem Dec.need:∀(z:Nat)(ss:List aBs),Dec (aW z ss)
 | _,[]=>Dec.pure _
 | z,s::ss=>Dec.bind (Dec.bind (Dec.take s) fun b=>by cases b<;>first|exact Dec.fail _ _|exact Dec.pure _) fun _=>Dec.need z ss
theorem Dec.word:∀(z:Nat)(ss:List aBs)(i:Int),Dec (eE z ss i)
 | z,[],_=>Dec.fail z 4
 | z,s::ss,i=>Dec.bind (Dec.take s) fun b=>by cases b<;>first|exact Dec.word z ss (i+1)|exact Dec.pure _
theorem Dec.ifP {α:Type}{c:Bool}{m:PM α}{d:α}(h:Dec m):Dec (ifP c m d):=by
 unfold Go.Proofs.YtohlogbnpfofpaaGreatDoor.ifP;split
 ·exact h
 ·exact Dec.pure _
theorem Dec.opt {α:Type}{s:aBs}{m n:PM α}(h1:Dec m)(h2:Dec n):Dec (cM s >>= fun b=>if b=true then m else n):=Dec.bind (Dec.take s) fun b=>by cases b<;>assumption
theorem yU {z:Nat}{ts:List Tok}{a:Trm}{r:List Tok}(h:mL z ts=.ok (a,r)):r.length+1≤ts.length:=by
 unfold mL at h;cases hq:cV z ts with
 | error e=>rw[aCk hq]at h;cases h
 | ok p =>
  obtain⟨n,q⟩:=p
  rw[aCj hq]at h
  have h1:=nameP_lt hq;have h2:=(Dec.bind (Dec.word _ _ _) fun _=>Dec.bind (Dec.ifP (Dec.num z)) fun _=>Dec.bind (Dec.need _ _) fun _=>Dec.bind (Dec.num z) fun _=>Dec.bind (Dec.opt (Dec.num z) (Dec.pure _)) fun _=>Dec.bind (Dec.need _ _) fun _=>Dec.bind (Dec.num z) fun _ =>
   Dec.bind (Dec.opt (Dec.num z) (Dec.pure _)) fun _=>Dec.bind (Dec.need _ _) fun _=>Dec.pure _) _ _ _ h
  omega
def termsM (bx:Nat)(h:Heap):Nat:=match aY h ⟨bx,10,none⟩ with
 | some (.slice _ n _)=>6000 - n
 | _=>0
theorem aA2 {B:Base}{L:List Item}{h:Heap}{bx n:Nat}{cs:aVs}{t:TypeId}{a:Option Addr}{c:Nat}(o:Own B L h)(k:Nat)(hk:L[k]?=some (box bx cs t))(hc:cs[10]?=some (.slice a n c)):termsM bx h=6000 - n:=by
 unfold termsM
 rw[(o.cellB k hk 10).trans hc]
theorem kT {z f:Nat}{acc:List Trm}{ts:List Tok}(h:bC [[125]] ts=true):termsA z (f+1) acc ts=.ok (acc,ts):=by
 have e:=congrFun (termsA.eq_2 z acc f) ts
 simp only[h,if_true]at e
 exact e
theorem mW {z f:Nat}{acc:List Trm}{ts:List Tok}(h:bC [[125]] ts=false):termsA z (f+1) acc ts=(mL z >>= fun a=>termsA z f (acc++[a])) ts:=by
 have e:=congrFun (termsA.eq_2 z acc f) ts
 simp only[h,aDh,if_false]at e
 exact e
theorem depend_part (kd:Int)(nm:aBs)(off:Nat)(B:Base)(bp z:Nat)(tk:Item)(bx:Nat)(w:Value)(ts:List Tok)(h:Heap)(o:Own B [box bp [w,.int .i64 z] 72,tk,box bx (mT kd nm off) 44] h)(hR:cJ tk w ts)(hl:ts.length≤5000) :
  Spec Tryz.prog 63 [.pointer (some ⟨bp,0,none⟩),.pointer (some ⟨bx,0,none⟩)] h (iE B bp z tk bx ts.length (uT z (x0 kd nm off) ts)):=by
 have hE:=congrFun (uT.eq_1 z (x0 kd nm off)) ts;unfold mT at o;refine aC1 Tryz.func63 rfl Tryz.ntmps63 (by kernel_rfl) ?_;refine aC0 (wS kd nm off B bp z tk bx w ts h o hR hl) (fun v h' ⟨x,q,wu,c,I,hm,hv,hI,hle,hRu,ou⟩=>?_) (fun c h' ⟨e,w',hm,hc,o'⟩=>⟨e,w',hE.trans (aCk hm),hc,o'⟩);subst hv
 rw[aCj hm]at hE
 obtain⟨vc,vn,vt,vf,vv,vd,e0,e1,e2,e3,e4,e5,e6,e7,e8,rfl,r1,r2,r3,r4,r5,r6,rx⟩:=hI
 unfold itC at ou;clear hm;(refine aCS ou aK aL rfl rfl (by decide) (aI rfl ?_);intro b20 m20 o20);refine aU (ss:=[[116,111]]) ‹_› rfl ⟨4,by decide,rfl⟩ hRu (by omega) (by decide) (fun _ q1 w1 v h1 hm hv hle1 hR1 oq=>?_) (fun e w' h' hm o2=>⟨e,w',hE.trans (aCk hm),rfl,o2⟩);subst hv
 rw[aCj hm]at hE
 have o1:=oq
 simp only[PSt,pick,lcA,lnA,lgS,lgZ,lgN]at o1
 clear oq hm;refine cE.callL ‹_› rfl hR1 (by omega) (fun at_ q2 w2 v h2 hm hv hle2 hR2 oq=>?_) (fun e w' h' hm o2=>⟨e,w',hE.trans (aCk hm),rfl,o2⟩);subst hv
 rw[aCj hm]at hE
 have o2:=oq
 simp only[PSt,pick,lcA,lnA,lgS,lgZ,lgN]at o2
 clear oq hm;refine rR (nC rfl ?_);refine rR (fA aC rfl rfl rfl ?_);(refine aCR o2 2 rfl aL rfl (by simp) (aI ⟨rfl,rfl⟩ ?_);intro m42 o42)
 refine(cD [119,104,101,114,101]).callL ‹_› rfl hR2 (by omega) (fun b q3 w3 v h3 hm hv hle3 hR3 oq=>?_) (fun e w2 h2 hm o2=>absurd hm (cU _ _ e))
 subst hv
 rw[aCj hm]at hE
 have o3:=oq
 simp only[PSt,pick,lcA,lnA,lgS,lgZ,lgN]at o3
 clear oq hm;cases b with
 | true =>
  rw[if_pos rfl]at hE
  refine aCW ?_;refine rR (aCD ?_);refine cW.callL (fun B' o'=>listN_spec _ (fun z=>mE z) fixed_spec [44] B' bp z tk _ _ _ o' hR3 (by omega)) ‹_› rfl (fun l4 q4 w4 v4 I h4 hm hv hle4 hR4 oq=>?_) (fun e w' h' hm o2=>⟨e,w',hE.trans (aCk hm),rfl,o2⟩)
  obtain⟨hn4,rfl⟩:=hv
  rw[aCj hm]at hE
  have o4:=oq
  simp only[PSt,pick,lcA,lnA,lgS,lgZ,lgN]at o4
  clear oq hm
  obtain⟨va4,vb4,rfl⟩:=o4.rowIs 2 rfl
  refine rR (nC rfl ?_);refine rR (fA aC rfl rfl rfl ?_);(refine aCR o4 3 rfl oJ rfl (by simp) (aI ⟨rfl,rfl⟩ ?_);intro m62 o62);refine aC4 rfl ?_
  exact⟨_,q4,w4,_,_,hE,rfl,⟨_,_,_,_,_,_,_,_,_,_,_,_,_,_,_,rfl,r1.inr,r2.inr,r3.inr,dK.inl,r5.inr,r6.inr,mF.mono (fun _ (s:(dW _ _).sat _)=>s.2) _ _ rx⟩,by omega,hR4,((Own.sel ‹_› [2,4,0,1,3] rfl).join).sel [1,2,3,0] rfl⟩
 | false =>
  rw[if_neg (by decide)]at hE
  refine aCX ?_;refine aC4 rfl ?_
  exact⟨_,q3,w3,_,_,hE,rfl,⟨_,_,_,_,_,_,_,_,_,_,_,_,_,_,_,rfl,r1,r2,r3,r4,r5,r6,rx⟩,by omega,hR3,Own.sel ‹_› [0,1,2,3] rfl⟩
theorem match_part (kd:Int)(nm:aBs)(off:Nat)(B:Base)(bp z:Nat)(tk:Item)(bx:Nat)(w:Value)(ts:List Tok)(h:Heap)(o:Own B [box bp [w,.int .i64 z] 72,tk,box bx (mT kd nm off) 44] h)(hR:cJ tk w ts)(hl:ts.length≤5000) :
  Spec Tryz.prog 60 [.pointer (some ⟨bp,0,none⟩),.pointer (some ⟨bx,0,none⟩)] h (iE B bp z tk bx ts.length (zX z (x0 kd nm off) ts)):=by
 have hE:=congrFun (zX.eq_1 z (x0 kd nm off)) ts;unfold mT at o;refine aC1 Tryz.func60 rfl Tryz.ntmps60 (by kernel_rfl) ?_;(refine aCS o aK aL rfl rfl (by decide) (aI rfl ?_);intro b10 m10 o10);refine aU (ss:=[[111,110]]) ‹_› rfl ⟨3,by decide,rfl⟩ hR (by omega) (by decide) (fun _ q1 w1 v h1 hm hv hle1 hR1 oq=>?_) (fun e w' h' hm o2=>⟨e,w',hE.trans (aCk hm),rfl,o2⟩);subst hv
 rw[aCj hm]at hE
 have o1:=oq
 simp only[PSt,pick,lcA,lnA,lgS,lgZ,lgN]at o1
 clear oq hm;refine cE.callL ‹_› rfl hR1 (by omega) (fun tb q2 w2 v h2 hm hv hle2 hR2 oq=>?_) (fun e w' h' hm o2=>⟨e,w',hE.trans (aCk hm),rfl,o2⟩);subst hv
 rw[aCj hm]at hE
 have o2:=oq
 simp only[PSt,pick,lcA,lnA,lgS,lgZ,lgN]at o2
 clear oq hm;refine rR (nC rfl ?_);refine rR (fA aC rfl rfl rfl ?_);(refine aCR o2 2 rfl aL rfl (by simp) (aI ⟨rfl,rfl⟩ ?_);intro m32 o32);(refine aCS o32 aK aL rfl rfl (by decide) (aI rfl ?_);intro b33 m33 o33);refine aU (ss:=[[97,116]]) ‹_› rfl ⟨4,by decide,rfl⟩ hR2 (by omega) (by decide) (fun _ q3 w3 v h3 hm hv hle3 hR3 oq=>?_) (fun e w' h' hm o2=>⟨e,w',hE.trans (aCk hm),rfl,o2⟩);subst hv
 rw[aCj hm]at hE
 have o3:=oq
 simp only[PSt,pick,lcA,lnA,lgS,lgZ,lgN]at o3
 clear oq hm;refine bR.callL ‹_› rfl hR3 (by omega) (fun n_ q4 w4 v h4 hm hv hle4 hR4 oq=>?_) (fun e w' h' hm o2=>⟨e,w',hE.trans (aCk hm),rfl,o2⟩)
 obtain⟨rfl,hv0_4,hv1_4⟩:=hv
 rw[aCj hm]at hE
 have o4:=oq
 simp only[PSt,pick,lcA,lnA,lgS,lgZ,lgN]at o4
 clear oq hm;refine rR (nC rfl ?_);refine rR (fA aC rfl rfl rfl ?_);(refine aCR o4 2 rfl aS rfl (by simp) (aI ⟨rfl,rfl⟩ ?_);intro m52 o52);(refine aCS o52 aK aL rfl rfl (by decide) (aI rfl ?_);intro b53 m53 o53);refine aU (ss:=[[123]]) ‹_› rfl ⟨5,by decide,rfl⟩ hR4 (by omega) (by decide) (fun _ q5 w5 v h5 hm hv hle5 hR5 oq=>?_) (fun e w' h' hm o2=>⟨e,w',hE.trans (aCk hm),rfl,o2⟩);subst hv
 rw[aCj hm]at hE
 have o5:=oq
 simp only[PSt,pick,lcA,lnA,lgS,lgZ,lgN]at o5
 clear oq hm;have on:=Own.nilRow ‹_› 136 7;have on:=Own.sel on [0,1,2,6] rfl;refine aC5 [23,24,25,26,27,28,29,30,31,32,33,34,35,36,37] [] (fun _ hh=>∃(f:Nat) (acc:List Trm) (q:List Tok) (w':Value) (va:Option Addr) (vc:Nat),termsA z f acc q=termsA z (q5.length+1) [] q5∧q.length<f∧q.length≤ts.length∧acc.length+q.length≤ts.length∧cJ tk w' q∧Own B [box bp [w',.int .i64 z] 72,tk,box bx [.int .i64 kd,.string ⟨⟨nm⟩⟩,.int .i64 off,.string ⟨⟨tb⟩⟩,.string ⟨⟨[]⟩⟩,aN,aN,.int .i64 0,.int .i64 n_,.int .i64 0,.slice va acc.length vc,.string ⟨⟨[]⟩⟩,.string ⟨⟨[]⟩⟩,aN,aN,aN,.int .i64 0,.string ⟨⟨[]⟩⟩,aN,aN,aN,.string ⟨⟨[]⟩⟩,.string ⟨⟨[]⟩⟩,.int .i64 0,.int .i64 0] 44,row (.slice va acc.length vc) 136 7 acc.length (acc.flatMap xW)] hh) (fun _ hh=>termsM bx hh) ?_ ?_
 ·exact⟨q5.length+1,[],q5,w5,none,0,rfl,by omega,by omega,by simp;omega,hR5,on⟩
 ·rintro vs junk hh ⟨f,acc,q,w',va,vc,hT,hf,hq,hac,hR',oh⟩
  obtain⟨f,rfl⟩:∃ f',f=f'+1:=⟨f - 1,by omega⟩
  have hm0:=aA2 oh 2 rfl rfl;(refine aCS oh aK aL rfl rfl (by decide) (aI rfl ?_);intro b70 m70 o70);refine aCZ (bL [[125]] _ bp w' q _ (Own.cellB ‹_› 0 rfl 0) (Own.reads ‹_› 1 hR'.1 rfl) (Own.boxArr ‹_› 4 rfl rfl (by decide)) (by omega)) ?_;rintro _ h2 ⟨rfl,oc⟩;have op:=oc.thenE ‹_›;clear oc;cases hb:bC [[125]] q with
  | true =>
   rw[kT hb]at hT
   have hE:=hE.trans (aCj (m:=fun ts=>termsA z (ts.length+1) [] ts) hT.symm);refine aCX ?_;refine aC4 rfl ?_
   exact⟨_,q,w',_,_,hE,rfl,⟨_,_,_,_,_,_,_,_,_,_,_,_,_,_,_,rfl,aP,aP,dK,aP,aP,aP,iR _⟩,by omega,hR',Own.sel ‹_› [0,1,2,3] rfl⟩
  | false =>
   rw[mW hb]at hT
   refine aCW ?_;refine DrawVC.introB bx [0,1,2,3,5,9,10] [4] [8,11] [0,1,2,3,4,5,6,7,8,9,10,11] mixed (by kernel_rfl) rfl (fun _ _ _ _ h=>h) ?_;refine nC rfl ?_;refine fA aC rfl rfl rfl ?_;refine StillVCA.load1 nU rfl rfl ((op.cellB 2 rfl _).trans rfl) ?_;refine term_spec.callL ‹_› rfl hR' (by omega) (fun a q2 w2 v h3 hm hv hle hR2 oq=>?_) (fun e w2 h3 hm o2=>⟨e,w2,hE.trans (aCk (m:=fun ts=>termsA z (ts.length+1) [] ts) (hT.symm.trans (aCk hm))),rfl,o2⟩);subst hv
   rw[aCj hm]at hT
   have o9:=oq
   simp only[PSt,pick,lcA,lnA,lgS,lgZ,lgN]at o9
   clear oq
   refine⟨(Own.satK o9 2 rfl).trans (Own.satK op 2 rfl).symm,?_⟩
   (refine aCF o9 nW cL rfl rfl (by decide) ?_);refine aI rfl ?_;intro b111 m111 o111;refine aI ((o111.boxBlk 2 rfl).trans (o9.boxBlk 2 rfl).symm) ?_;refine aCU ‹_› 3 rfl nW cL (by decide) (Own.boxArrN ‹_› 5 rfl (n:=1) rfl (by omega)) (by simp[Value.oneCell']) (by simp only[maxLen];omega) (by omega) ?_;intro v915 m915 o915
   obtain⟨ua,uc,rfl⟩:=o915.rowIs 3 rfl
   refine nC rfl ?_;refine fA aC rfl rfl rfl ?_;(refine aCR o915 2 rfl nU rfl (by simp) (aI ⟨rfl,rfl⟩ ?_);intro m922 o922)
   refine⟨rfl,?_⟩
   have e1:(acc++[a]).flatMap xW=acc.flatMap xW++xW a:=by rw[aDD,aDm,aDY,aDf]
   have e2:(acc++[a]).length=acc.length+1:=by simp
   have hlt:=yU hm
   refine⟨⟨f,acc++[a],q2,w2,ua,uc,hT,by omega,by omega,by omega,hR2,?_⟩,?_⟩
   ·rw[e1,e2]
    exact Own.sel ‹_› [0,1,2,3] rfl
   ·have hm1:=aA2 (bx:=bx) ‹_› 2 rfl rfl
    rw[hm0,hm1]
    omega
end Go.Proofs.YtohlogbnpfofpaaGreatDoor
