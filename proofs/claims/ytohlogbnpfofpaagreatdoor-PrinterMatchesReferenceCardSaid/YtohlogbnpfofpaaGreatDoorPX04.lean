/- Part 4 of the proof of matches_lifted: FnLexB, FnLexN, FnLexNum, FnLexS, FnLexQ, FnLexD, FnLex, FnPm, FnPa, FnPb, FnPc, FnPl, FnPd. -/
import Derived.Lib.AtoiErrMem
import Derived.Test.YtohlogbnpfofpaaGreatDoorPX03
set_option linter.all false
set_option maxHeartbeats 100000000
set_option maxRecDepth 100000
namespace Go.Proofs.YtohlogbnpfofpaaGreatDoor
open Go StillVC
def eZ (c:UInt8):Bool:=decide (97<=c.toNat/\c.toNat<=122∨65<=c.toNat/\c.toNat<=90)
def dH (c:UInt8):Bool:=decide (48<=c.toNat/\c.toNat<=57)
def eA (c:UInt8):Bool:=eZ c||dH c||decide (c.toNat=95)
theorem lowered:∀ n:Fin 256,(97<=bits .or .u8 (n.val:Int) 32/\bits .or .u8 (n.val:Int) 32<=122)↔(97<=n.val/\n.val<=122∨65<=n.val/\n.val<=90):=by decide +kernel
theorem letterB_iff (c:UInt8):eZ c=true↔(97<=bits .or .u8 (c.toNat:Int) 32/\bits .or .u8 (c.toNat:Int) 32<=122):=by
 rw[lowered ⟨c.toNat,c.toNat_lt⟩]
 simp[eZ]
theorem aBe (c:UInt8)(h:Heap):bG Tryz.prog 97 [.int .u8 c.toNat] h λr h'=>r=.bool (dH c)/\Own h [] h':=by
 refine eN Tryz.func97 Tryz.ntmps97 ?_;have o0:=Own.refl h;refine aDJ (λc10=>?_) (λc10=>?_);refine rO ?_
 rotate_left
 refine rO ?_
 ·exact⟨congrArg Value.bool (decide_eq_false zO).symm,o0⟩
 ·exact⟨congrArg Value.bool (decide_eq_decide.2 zO),o0⟩
theorem yX (c:UInt8)(h:Heap):bG Tryz.prog 94 [.int .u8 c.toNat] h λr h'=>r=.bool (eZ c)/\Own h [] h':=by
 have hl:=letterB_iff c;refine eN Tryz.func94 Tryz.ntmps94 ?_;have o0:=Own.refl h;refine rR (bit rfl rfl rfl ?_);refine aDJ (λc11=>?_) (λc11=>?_);refine rR (bit rfl rfl rfl ?_);refine rO ?_
 rotate_left
 refine rO ?_
 ·refine⟨congrArg Value.bool ?_,o0⟩
  cases hb:eZ c with
  | false=>rfl
  | true=>exact absurd (hl.1 hb).1 zA
 ·refine⟨congrArg Value.bool ?_,o0⟩
  rw[aEe,hl,decide_eq_true_iff]
  exact⟨λe=>⟨by assumption,e⟩,λe=>e.2⟩
theorem aA3 (c:UInt8)(h:Heap):bG Tryz.prog 96 [.int .u8 c.toNat] h λr h'=>r=.bool (eA c)/\Own h [] h':=by
 unfold eA;refine eN Tryz.func96 Tryz.ntmps96 ?_;have o0:=Own.refl h;refine aDN (yX c _) ?_;rintro _ h1 ⟨rfl,oa⟩;have o1:=o0.ext' oa;cases hb:eZ c with
 | true =>
  refine aDK (rO ?_)
  exact⟨rfl,o1⟩
 | false =>
  refine aDL (aDN (aBe c _) ?_);rintro _ h2 ⟨rfl,ob⟩;have o2:=o1.ext' ob;cases hd:dH c with
  | true =>
   refine aDK (rO ?_)
   exact⟨rfl,o2⟩
  | false =>
   refine aDL (rO ?_)
   refine⟨congrArg Value.bool ?_,o2⟩
   simp only[Bool.or_self,Bool.false_or]
   exact decide_eq_decide.2 zO
def kL (c:UInt8):Bool:=decide (c.toNat≠10)
theorem skip1_spec (c:UInt8)(h:Heap):bG Tryz.prog 101 [.int .u8 c.toNat] h λr h'=>r=.bool (kL c)/\Own h [] h':=by
 refine eN Tryz.func101 Tryz.ntmps101 ?_;have o0:=Own.refl h;refine rO ?_
 refine⟨congrArg Value.bool ?_,o0⟩
 unfold kL
 rw[← decide_not]
 exact decide_eq_decide.2 zO
def cP (p:UInt8->Bool)(l:aBs):Nat:=(l.takeWhile p).length
theorem qA (p:UInt8->Bool)(l:aBs):cP p l<=l.length:=by
 unfold cP
 exact(List.takeWhile_sublist p).length_le
theorem wV {p:UInt8->Bool}:∀ {l:aBs}{n:Nat},(∀ c∈l.take n,p c=true)->n<=l.length->(∀ c,l[n]?=some c->p c=false)->cP p l=n
 | [],n,_,hn,_=>by simp at hn;subst hn;rfl
 | c::l,0,_,_,h=>by
  have:=h c rfl
  unfold cP
  rw[aEG,this]
  rfl
 | c::l,n+1,ha,hn,h=>by
  have hc:=ha c zS;have ih:=wV (p:=p) (l:=l) (n:=n) (λd hd=>ha d (by simp[hd])) (by simpa using hn) (λd hd=>h d (by simpa using hd));unfold cP at ih ⊢
  rw[aEG,hc,if_pos rfl,aD1,ih]
theorem vN (p:UInt8->Bool)(g:Nat)(cap:aVs)(b:Nat)(t:aBs)(i:Nat)(h:Heap)(hi:i<=t.length)(hl:t.length<=1000000)
  (h0:bI h ⟨b,0,none⟩=some (sv t)) (h1:bI h ⟨b,1,none⟩=some (iv i))
  (hp:∀(c:UInt8) (h':Heap),Ext h h'->bG Tryz.prog g (.int .u8 c.toNat::cap) h' λr h''=>r=.bool (p c)/\Own h' [] h'') :
  bG Tryz.prog 95 [pv b 0,.func (.func g) ⟨[]⟩ ⟨cap⟩] h λr h'=>r=iv (cP p (t.drop i))/\Own h [] h':=by
 refine eN Tryz.func95 Tryz.ntmps95 ?_;have o0:=Own.refl h;refine aDT [5,6,7,8,9,10,11,12,13,14,15,16,17,18,19,20,21,22,23,24,25,26,27,28,29,30,31,32,33,34] [5] (λvs hh=>∃(n:Nat),i+n<=t.length/\vs=[.int .i64 n]/\(∀ c∈(t.drop i).take n,p c=true)/\Own h [] hh) (λvs _=>match vs with|[.int _ n]=>t.length - n.toNat|_=>0) ?_ ?_
 ·exact⟨0,by omega,rfl,by simp,o0⟩
 ·rintro vs junk hh ⟨n,hn,rfl,ha,oh⟩
  by_cases hlt:i+n<t.length
  ·obtain⟨c,hc⟩:=getx hlt
   have hc':(t.drop i)[n]?=some c:=by rw[aEM];exact hc
   refine d1_ [0,1,2,4,5,6,7,8,10,11,12,13,14,15,16,18,19,20,22,23,24,26] [3,9,17,21] [25] [0,1,2,3,4,5,6,7,8,9,10,11,12,13,14,15,16,17,18,19,20,21,22,23,24,25,26] ?_;refine nC rfl ?_;refine fC dY ?_;refine load1 aK rfl (oh.old h1) ?_;refine aR (nC rfl ?_);refine fC dY ?_;refine load1 aC rfl (oh.old h0) ?_;refine aDn rfl cE ?_;refine bB λc27=>nC rfl ?_;refine fC dY ?_;refine load1 aC rfl (oh.old h0) ?_;refine nC rfl ?_;refine fC dY ?_;refine load1 aK rfl (oh.old h1) ?_;refine aR (aDk rfl rfl cE zO zA ?_);refine aDN (hp c _ (Own.ext zA)) ?_;rintro _ h2 ⟨rfl,ob⟩;have o2:=oh.ext' ob;cases hb:p c with
   | true =>
    refine aDK (aR ?_)
    refine⟨rfl,?_⟩
    refine⟨⟨n+1,by omega,rfl,λd hd=>?_,o2⟩,by simp;omega⟩
    rw[aEr,hc']at hd
    rcases aEH.1 hd with hd|hd
    ·exact ha d hd
    ·simp at hd;subst hd;exact hb
   | false =>
    have:cP p (t.drop i)=n:=wV ha v_ (λd hd=>by rw[hc']at hd;cases hd;exact hb)
    rw[this]
    refine aDL (rO ?_)
    exact⟨rfl,o2⟩
  ·have:cP p (t.drop i)=n:=wV ha v_ (λd hd=>by
    obtain⟨hd',_⟩:=aDZ.1 hd
    simp at hd'
    omega)
   rw[this]
   refine d1_ [0,1,2,4,5,6,7,8,10,11,12,13,14,15,16,18,19,20,22,23,24,26] [3,9,17,21] [25] [0,1,2,3,4,5,6,7,8,9,10,11,12,13,14,15,16,17,18,19,20,21,22,23,24,25,26] ?_;refine nC rfl ?_;refine fC dY ?_;refine load1 aK rfl (oh.old h1) ?_;refine aR (nC rfl ?_);refine fC dY ?_;refine load1 aC rfl (oh.old h0) ?_;refine aDn rfl cE ?_;refine bA λc87=>aDL ?_;refine rO ?_
   exact⟨rfl,oh⟩
def Ends (Post:Value->Heap->Prop)(Pan:List PanicEntry->Heap->Prop):Ending->Heap->Prop
 | .returned v,h=>Post v h
 | .panicked c,h=>Pan c h
 | .outgrown,_=>False
theorem StillVC.aDO {P:Program}{g:FuncId}{args s:aVs}{h:Heap}{K:KK}{Q:QQ}{Post:Value->Heap->Prop}{Pan:List PanicEntry->Heap->Prop}
  (sp:Spec P g args h (Ends Post Pan)) (hk:∀ v h',Post v h'->K v false h') (hq:∀ c h',Pan c h'->Q (.panic c) s h'):CallVC P g args s h K Q where
 spec:=⟨_,.inl sp,hk,hq,λ_ h=>h.elim⟩
def faultC (e:Int)(i:Nat):List PanicEntry:=[{ v:=.iface 102 (.agg ⟨[iv e,iv i]⟩),recovered:=false }]
inductive Rd where
 | tok (kind:Int) (text:aBs) (num:Int) (len:Nat)
 | none
 | err (e:Int)
def tokV (k:Int)(x:aBs)(n a:Int):Value:=.agg ⟨[iv k,sv x,iv n,iv a]⟩
def RdE (h:Heap)(i:Nat)(r:Rd):Ending->Heap->Prop :=
 Ends (λv h'=>(match r with
   | .tok k x n l=>v=.tuple ⟨[tokV k x n 0,.int .i64 l]⟩
   | .none=>∃ k x n a,v=.tuple ⟨[tokV k x n a,.int .i64 0]⟩
   | .err _=>False)/\Own h [] h')
  (λc h'=>(match r with
   | .err e=>c=faultC e i
   | _=>False)/\Own h [] h')
theorem jD (e:Int)(b:Nat)(t:aBs)(i:Nat)(h:Heap)(h1:bI h ⟨b,1,none⟩=some (iv i)) :
  Spec Tryz.prog 54 [pv b 0,iv e] h (Ends (λ_ _=>False) λc h'=>c=faultC e i/\Own h [] h'):=by
 refine eN Tryz.func54 Tryz.ntmps54 ?_;have o0:=Own.refl h;refine cB ?_;refine fB dY ?_;refine rR (load1 aK rfl zA ?_);refine rR (aDd st102 ?_);refine aI rfl ?_;refine aI rfl ?_;refine rR (aDE con102 rfl ?_);refine RunVC.panicI rfl ?_
 exact⟨rfl,o0⟩
def yT (l:aBs):Rd :=
 match l with
 | []=>.none
 | c::_=>if eZ c=true then(if 24<cP eA l then .err 3 else .tok 1 (l.take (cP eA l)) 0 (cP eA l)) else .none
theorem nameR_at {t:aBs}{i:Nat}{c:UInt8}(hc:t[i]?=some c):yT (t.drop i)=if eZ c=true then(if 24<cP eA (t.drop i) then .err 3 else .tok 1 ((t.drop i).take (cP eA (t.drop i))) 0 (cP eA (t.drop i))) else .none:=by
 obtain⟨hi,rfl⟩:=aDZ.1 hc
 rw[aD8 hi]
 rfl
theorem name_spec (b:Nat)(t:aBs)(i:Nat)(h:Heap)(hi:i<t.length)(hl:t.length<=1000000)
  (h0:bI h ⟨b,0,none⟩=some (sv t)) (h1:bI h ⟨b,1,none⟩=some (iv i)) :
  Spec Tryz.prog 49 [pv b 0] h (RdE h i (yT (t.drop i))):=by
 obtain⟨c,hc⟩:=getx hi
 rw[nameR_at hc]
 have hsl:=qA eA (t.drop i);have hdl:(t.drop i).length=t.length - i:=by simp
 refine eN Tryz.func49 Tryz.ntmps49 ?_;have o0:=Own.refl h;refine aDH o0 bR λb10 m10 o10=>?_;refine d1_ [0,1,2,4,5,6,8,10] [3,7] [9] [0,1,2,3,4,5,6,7,8,9,10] ?_;refine nC rfl ?_;refine fC dY ?_;refine load1 aC rfl (o10.old h0) ?_;refine nC rfl ?_;refine fC dY ?_;refine load1 aK rfl (o10.old h1) ?_;refine aDk rfl rfl cE zO zA ?_;refine aDN (yX c _) ?_;rintro _ h2 ⟨rfl,oa⟩;have o2:=oa.thenE zA;cases hb:eZ c with
 | false =>
  rw[if_neg zD]
  refine aDK (rR (aDd fU ?_));(refine sA o2 0 bR ?_;intro m21 o21)
  first|refine r1_ o21 0 bR ?_|refine r2_ o21 0 bR ?_
  exact⟨⟨0,[],0,0,rfl⟩,o_ []⟩
 | true =>
  rw[if_pos rfl]
  refine aDL (aDN (vN eA 96 [] b t i _ zO hl (o2.old h0) (o2.old h1) (λd h' e=>aA3 d h')) ?_);rintro _ h3 ⟨rfl,ob⟩;have o3:=ob.thenE zA;by_cases hn:24<cP eA (t.drop i)
  ·rw[if_pos hn]
   refine bB λc60=>?_;exact aDO (jD 3 b t i _ (o3.old h1)) (λ_ _ h=>h.elim) (λc h' ⟨hc,ho⟩=>⟨hc,(ho.thenE o3).sel [] rfl⟩)
  ·rw[if_neg hn]
   refine bA λc80=>d1_ [0,1,2,4,5,6,8,9,10,12,13,14,15,16,18] [3,7,11] [17] [0,1,2,3,4,5,6,7,8,9,10,11,12,13,14,15,16,17,18] ?_;refine nC rfl ?_;refine fC dY ?_;refine load1 aC rfl (o3.old h0) ?_;refine nC rfl ?_;refine fC dY ?_;refine load1 aK rfl (o3.old h1) ?_;refine nC rfl ?_;refine fC dY ?_;refine load1 aK rfl (o3.old h1) ?_;refine aR (aDx cE rfl ⟨_,rfl⟩ ⟨_,rfl⟩ zO zO zO ?_);refine aDd fU ?_;refine aI rfl ?_;refine aI rfl ?_;(refine sA o3 0 bR ?_;intro m92 o92)
   first|refine r1_ o92 0 bR ?_|refine r2_ o92 0 bR ?_
   refine⟨?_,o_ []⟩
   have e:List.drop (i:Int).toNat (List.take ((i:Int)+(cP eA (t.drop i):Nat)).toNat t)=(t.drop i).take (cP eA (t.drop i)):=by
    rw[show((i:Int)+(cP eA (t.drop i):Nat)).toNat=i+cP eA (t.drop i) by omega,Int.toNat_natCast,List.drop_take]
    congr 1
    omega
   show Value.tuple _=Value.tuple _
   rw[← e]
   rfl
theorem digitVal_of {c:UInt8}(h:48<=c.toNat/\c.toNat<=57):Lib.digitVal c=some (c.toNat - 48):=if_pos h
theorem tN:∀(l:aBs)(acc:Nat),(∀ c∈l,48<=c.toNat/\c.toNat<=57)->Lib.decFrom acc l=some (l.foldl (λn c=>n*10+(c.toNat - 48)) acc)
 | [],acc,_=>rfl
 | c::l,acc,h=>by
  rw[Lib.decFrom,digitVal_of (h c zS)]
  exact tN l _ (λd hd=>h d (by simp[hd]))
theorem atoi_digits {l:aBs}(hl:l≠[])(h:∀ c∈l,48<=c.toNat/\c.toNat<=57):Lib.atoi l=some ((undec l:Nat):Int):=by
 cases l with
 | nil=>exact absurd rfl hl
 | cons b r =>
  have hb:=h b zS;have h45:(b == 45)=false:=by
   rw[beq_eq_false_iff_ne]
   rintro rfl
   simp at hb
  have h43:(b == 43)=false:=by
   rw[beq_eq_false_iff_ne]
   rintro rfl
   simp at hb
  rw[Lib.atoi,h45,h43]
  simp only[aD9,if_false,Lib.decNat,List.isEmpty_cons]
  rw[tN _ _ h]
  rfl
theorem atoi_spec (l:aBs)(h:Heap)(hl:l.length<=18)(hne:l≠[])(hd:∀ c∈l,48<=c.toNat/\c.toNat<=57) :
  bG Tryz.prog 98 [sv l] h λr h'=>r=.tuple ⟨[iv (undec l),.nilIface]⟩/\Own h [] h':=by
 refine⟨⟨_,Tryz.func98,rfl,by kernel_rfl⟩,λw hw=>?_⟩
 subst hw
 refine(Tryz.strconv_Atoi ⟨⟨l⟩⟩ (undec l) hl (atoi_digits hne hd) w).mono ?_
 rintro e w' ⟨rfl,t,rfl⟩;have hb:=Lib.bytesWorld_below w 5 t
 exact⟨⟨hb.os,hb.tape,hb.output,hb.size⟩,rfl,Own.of_ext ⟨hb.size,hb.block⟩⟩
theorem tG (l:aBs)(c:UInt8)(h:Heap) :
  bG Tryz.prog 99 [sv l,.int .u8 c.toNat] h λr h'=>r=iv (Lib.indexByte l c)/\Own h [] h':=by
 refine⟨⟨_,Tryz.func99,rfl,by kernel_rfl⟩,λw hw=>?_⟩
 subst hw
 refine(Tryz.strings_IndexByte ⟨⟨l⟩⟩ c.toNat w).mono ?_
 rintro e w' ⟨rfl,rfl⟩
 refine⟨.refl _,?_,Own.refl _⟩
 have:((c.toNat:Int).toNat).toUInt8=c:=by simp
 rw[this]
theorem tI (l p:aBs)(h:Heap) :
  bG Tryz.prog 100 [sv l,sv p] h λr h'=>r=.bool (Lib.hasPrefix l p)/\Own h [] h':=by
 refine⟨⟨_,Tryz.func100,rfl,by kernel_rfl⟩,λw hw=>?_⟩
 subst hw
 refine(Tryz.strings_HasPrefix ⟨⟨l⟩⟩ ⟨⟨p⟩⟩ w).mono ?_
 rintro e w' ⟨rfl,rfl⟩
 exact⟨.refl _,rfl,Own.refl _⟩
def rA (l:aBs):Rd :=
 if cP dH l=0 then .none
 else if 10<cP dH l∨cP dH l<cP eA l then .err 6
 else .tok 2 (l.take (cP dH l)) (undec (l.take (cP dH l))) (cP dH l)
theorem wU (p:UInt8->Bool):∀(l:aBs),∀ c∈l.take (cP p l),p c=true
 | [],c,hc=>by simp at hc
 | a::l,c,hc=>by
  unfold cP at hc
  rw[aEG]at hc
  cases ha:p a with
  | false=>rw[ha]at hc;simp at hc
  | true =>
   rw[ha]at hc
   simp only[if_true,aD1,aEp,aEd]at hc
   rcases hc with rfl|hc
   ·exact ha
   ·exact wU p l c hc
theorem aBf {c:UInt8}(h:dH c=true):48<=c.toNat/\c.toNat<=57:=of_decide_eq_true h
theorem number_spec (b:Nat)(t:aBs)(i:Nat)(h:Heap)(hi:i<t.length)(hl:t.length<=1000000)
  (h0:bI h ⟨b,0,none⟩=some (sv t)) (h1:bI h ⟨b,1,none⟩=some (iv i)) :
  Spec Tryz.prog 50 [pv b 0] h (RdE h i (rA (t.drop i))):=by
 have hsl:=qA dH (t.drop i);have hsi:=qA eA (t.drop i);have hdl:(t.drop i).length=t.length - i:=by simp
 have hst:=wU dH (t.drop i);unfold rA;refine eN Tryz.func50 Tryz.ntmps50 ?_;have o0:=Own.refl h;refine aDH o0 bR λb10 m10 o10=>?_;refine aDN (vN dH 97 [] b t i _ zO hl (Own.old zA h0) (Own.old zA h1) (λd h' e=>aBe d h')) ?_;rintro _ h2 ⟨rfl,oa⟩;have o2:=oa.thenE zA;by_cases hz:cP dH (t.drop i)=0
 ·rw[if_pos hz]
  refine bB λc20=>rR (aDd fU ?_);(refine sA o2 0 bR ?_;intro m22 o22)
  first|refine r1_ o22 0 bR ?_|refine r2_ o22 0 bR ?_
  exact⟨⟨0,[],0,0,rfl⟩,o_ []⟩
 ·rw[if_neg hz]
  by_cases hbig:10<cP dH (t.drop i)
  ·rw[if_pos (.inl hbig)]
   refine bA λc30=>bB λc31=>?_;refine aDK ?_;exact aDO (jD 6 b t i _ (o2.old h1)) (λ_ _ h=>h.elim) (λc h' ⟨hc,ho⟩=>⟨hc,(ho.thenE o2).sel [] rfl⟩)
  ·refine bA λc40=>?_
   refine bA λc41=>aDN (vN eA 96 [] b t i _ zO hl (o2.old h0) (o2.old h1) (λd h' e=>aA3 d h')) ?_;rintro _ h3 ⟨rfl,ob⟩;have o3:=ob.thenE zA;by_cases hin:cP dH (t.drop i)<cP eA (t.drop i)
   ·rw[if_pos (.inr hin)]
    refine bB λc50=>?_;exact aDO (jD 6 b t i _ (o3.old h1)) (λ_ _ h=>h.elim) (λc h' ⟨hc,ho⟩=>⟨hc,(ho.thenE o3).sel [] rfl⟩)
   ·rw[if_neg zO]
    have e:List.drop (i:Int).toNat (List.take ((i:Int)+(cP dH (t.drop i):Nat)).toNat t)=(t.drop i).take (cP dH (t.drop i)):=by
     rw[show((i:Int)+(cP dH (t.drop i):Nat)).toNat=i+cP dH (t.drop i) by omega,Int.toNat_natCast,List.drop_take]
     congr 1
     omega
    refine bA λc60=>d1_ [0,1,2,4,5,6,8,9,10,12,13,14,15] [3,7,11] [] [0,1,2,3,4,5,6,7,8,9,10,11,12,13,14,15] ?_;refine nC rfl ?_;refine fC dY ?_;refine load1 aC rfl (o3.old h0) ?_;refine nC rfl ?_;refine fC dY ?_;refine load1 aK rfl (o3.old h1) ?_;refine nC rfl ?_;refine fC dY ?_;refine load1 aK rfl (o3.old h1) ?_;refine aR (aDx cE rfl ⟨_,rfl⟩ ⟨_,rfl⟩ zO zO zO ?_)
    rw[e]
    refine aDN (atoi_spec ((t.drop i).take (cP dH (t.drop i))) _ v_ (λhh=>by have:=congrArg List.length hh;simp at this;omega) (λc hc=>aBf (hst c hc))) ?_;rintro _ h4 ⟨rfl,oc⟩;have o4:=oc.thenE zA;refine rR (aDd fU ?_);refine aI rfl ?_;refine aI rfl ?_;refine aI rfl ?_;(refine sA o4 0 bR ?_;intro m81 o81)
    first|refine r1_ o81 0 bR ?_|refine r2_ o81 0 bR ?_
    refine⟨?_,o_ []⟩
    rfl
def symB:aBs:=[59,58,44,46,40,41,123,125,61,60,43,45,47,64]
def wR (l:aBs):Nat:=if Lib.hasPrefix l [33,61]=true∨Lib.hasPrefix l [60,61]=true then 2 else match l with
 | []=>0
 | c::_=>if c∈symB then 1 else 0
def vI (l:aBs):Rd:=if wR l=0 then .none else .tok 4 (l.take (wR l)) 0 (wR l)
theorem jZ:∀(l:aBs)(c:UInt8),-1<=Lib.indexByte l c/\(0<=Lib.indexByte l c↔c∈l)
 | [],c=>by simp[Lib.indexByte]
 | b::l,c=>by
  obtain⟨h1,h2⟩:=jZ l c
  rw[Lib.indexByte]
  by_cases hb:b=c
  ·subst hb
   simp
  ·have hbe:(b == c)=false:=beq_eq_false_iff_ne.2 hb
   rw[hbe]
   simp only[aD9,if_false]
   by_cases hm:Lib.indexByte l c=-1
   ·have hbm:(Lib.indexByte l c == -1)=true:=by rw[hm];rfl
    rw[hbm]
    have:c∉l:=λhc=>by have:=h2.2 hc;omega
    simp[this,Ne.symm hb]
   ·have hbm:(Lib.indexByte l c == -1)=false:=beq_eq_false_iff_ne.2 hm
    rw[hbm]
    simp only[aD9,if_false]
    refine⟨by omega,?_⟩
    have:0<=Lib.indexByte l c:=by omega
    simp[h2.1 this,Ne.symm hb]
    omega
theorem symN_at {t:aBs}{i:Nat}{c:UInt8}(hc:t[i]?=some c):wR (t.drop i)=if Lib.hasPrefix (t.drop i) [33,61]=true∨Lib.hasPrefix (t.drop i) [60,61]=true then 2 else if c∈symB then 1 else 0:=by
 obtain⟨hi,rfl⟩:=aDZ.1 hc
 rw[aD8 hi]
 rfl
theorem mR {l p:aBs}(h:Lib.hasPrefix l p=true):p.length<=l.length:=by
 unfold Lib.hasPrefix at h
 exact(List.isPrefixOf_iff_prefix.1 h).length_le
theorem symbol_spec (b:Nat)(t:aBs)(i:Nat)(h:Heap)(hi:i<t.length)(hl:t.length<=1000000)
  (h0:bI h ⟨b,0,none⟩=some (sv t)) (h1:bI h ⟨b,1,none⟩=some (iv i)) :
  Spec Tryz.prog 52 [pv b 0] h (RdE h i (vI (t.drop i))):=by
 obtain⟨c,hc⟩:=getx hi
 have hs:=symN_at hc;have hdl:(t.drop i).length=t.length - i:=by simp
 have hc0:(t.drop i)[0]?=some c:=by rw[aEM];exact hc
 unfold vI;refine eN Tryz.func52 Tryz.ntmps52 ?_;have o0:=Own.refl h;have er:List.drop (i:Int).toNat (List.take (Int.toNat (t.length:Nat)) t)=t.drop i:=by simp
 refine aDH o0 bR λb10 m10 o10=>?_;refine d1_ [0,1,2,4,5,6,8,9] [3,7] [] [0,1,2,3,4,5,6,7,8,9] ?_;refine nC rfl ?_;refine fC dY ?_;refine load1 aC rfl (o10.old h0) ?_;refine nC rfl ?_;refine fC dY ?_;refine load1 aK rfl (o10.old h1) ?_;refine aDx cE rfl ⟨_,rfl⟩ rfl zO zO zO ?_
 rw[er]
 refine aDN (tI (t.drop i) [33,61] _) ?_;rintro _ h2 ⟨rfl,oa⟩;have o2:=oa.thenE zA;cases hp1:Lib.hasPrefix (t.drop i) [33,61] with
 | true =>
  have:2<=(t.drop i).length:=mR hp1
  have hn:wR (t.drop i)=2:=by rw[hs,if_pos (.inl hp1)]
  rw[hn]
  refine aDK (aDK ?_);refine rR (aDx cE rfl rfl ⟨_,rfl⟩ zO zO zO ?_);refine rR (aDd fU ?_);refine aI rfl ?_;refine aI rfl ?_;(refine sA o2 0 bR ?_;intro m22 o22)
  first|refine r1_ o22 0 bR ?_|refine r2_ o22 0 bR ?_
  exact⟨rfl,o_ []⟩
 | false =>
  refine aDL (aDN (tI (t.drop i) [60,61] _) ?_);rintro _ h3 ⟨rfl,ob⟩;have o3:=ob.thenE zA;cases hp2:Lib.hasPrefix (t.drop i) [60,61] with
  | true =>
   have:2<=(t.drop i).length:=mR hp2
   have hn:wR (t.drop i)=2:=by rw[hs,if_pos (.inr hp2)]
   rw[hn]
   refine aDK (rR (aDx cE rfl rfl ⟨_,rfl⟩ zO zO zO ?_));refine rR (aDd fU ?_);refine aI rfl ?_;refine aI rfl ?_;(refine sA o3 0 bR ?_;intro m62 o62)
   first|refine r1_ o62 0 bR ?_|refine r2_ o62 0 bR ?_
   exact⟨rfl,o_ []⟩
  | false =>
   rw[if_neg (by rw[hp1,hp2];simp)]at hs
   have hib:=jZ symB c;refine aDL (rR (aDk rfl rfl cE zO zA ?_));refine aDN (tG symB c _) ?_;rintro _ h4 ⟨rfl,od⟩;have o4:=od.thenE zA;generalize Lib.indexByte symB c=q at *;by_cases hm:c∈symB
   ·have hn:wR (t.drop i)=1:=by rw[hs,if_pos hm]
    rw[hn]
    have hq:=hib.2.2 hm;refine bB λc90=>rR (aDx cE rfl rfl ⟨_,rfl⟩ zO zO zO ?_);refine rR (aDd fU ?_);refine aI rfl ?_;refine aI rfl ?_;(refine sA o4 0 bR ?_;intro m93 o93)
    first|refine r1_ o93 0 bR ?_|refine r2_ o93 0 bR ?_
    exact⟨rfl,o_ []⟩
   ·have hn:wR (t.drop i)=0:=by rw[hs,if_neg hm]
    rw[hn]
    have hq:¬ 0<=q:=λe=>hm (hib.2.1 e);refine bA λc110=>rR (aDx cE rfl rfl ⟨_,rfl⟩ zO zO zO ?_);refine rR (aDd fU ?_);refine aI rfl ?_;refine aI rfl ?_;(refine sA o4 0 bR ?_;intro m113 o113)
    first|refine r1_ o113 0 bR ?_|refine r2_ o113 0 bR ?_
    exact⟨⟨4,[],0,0,rfl⟩,o_ []⟩
def gO (comment:Bool):aBs->Nat
 | []=>0
 | c::r=>if c.toNat=10 then 1+gO false r else if c.toNat=35 then 1+gO true r else if comment=false/\c.toNat≠32/\c.toNat≠9 then 0 else 1+gO comment r
theorem uA:∀(k:Bool)(l:aBs),gO k l<=l.length
 | _,[]=>aD6 _
 | k,c::r=>by
  have h1:=uA false r;have h2:=uA true r;have h3:=uA k r;unfold gO;split
  ·simp;omega
  ·split
   ·simp;omega
   ·split
    ·simp
    ·simp;omega
theorem wD:∀(l:aBs),gO true l=cP kL l+gO false (l.drop (cP kL l))
 | []=>rfl
 | c::r=>by
  have ih:=wD r;by_cases hc:c.toNat=10
  ·have hn:kL c=false:=by simp[kL,hc]
   have hs:cP kL (c::r)=0:=by unfold cP;rw[aEG,hn];rfl
   rw[hs]
   simp[gO,hc]
  ·have hn:kL c=true:=by simp[kL,hc]
   have hs:cP kL (c::r)=cP kL r+1:=by unfold cP;rw[aEG,hn];rfl
   rw[hs,List.drop_succ_cons]
   have:gO true (c::r)=1+gO true r:=by
    rw[gO,if_neg hc]
    by_cases h35:c.toNat=35
    ·rw[if_pos h35]
    ·rw[if_neg h35,if_neg zS]
   rw[this,ih]
   omega
theorem gapF_hash {c:UInt8}{r:aBs}(hc:c.toNat=35):gO false (c::r)=cP kL (c::r)+gO false ((c::r).drop (cP kL (c::r))):=by
 rw[← wD]
 simp[gO,hc]
theorem gapF_at {t:aBs}{j:Nat}{c:UInt8}(hc:t[j]?=some c) :
  gO false (t.drop j)=if c.toNat=10 then 1+gO false (t.drop (j+1)) else if c.toNat=35 then 1+gO true (t.drop (j+1)) else if c.toNat≠32/\c.toNat≠9 then 0 else 1+gO false (t.drop (j+1)):=by
 obtain⟨hj,rfl⟩:=aDZ.1 hc
 rw[aD8 hj,gO]
 simp only[true_and]
theorem aCV {t:aBs}{j:Nat}{c:UInt8}(hc:t[j]?=some c)(h35:c.toNat=35) :
  gO false (t.drop j)=cP kL (t.drop j)+gO false (t.drop (j+cP kL (t.drop j)))/\0<cP kL (t.drop j):=by
 obtain⟨hj,rfl⟩:=aDZ.1 hc
 constructor
 ·have:=gapF_hash (r:=t.drop (j+1)) h35
  rw[← aD8 hj,aEP]at this
  exact this
 ·have hn:kL t[j]=true:=by simp[kL,h35]
  rw[aD8 hj]
  unfold cP
  rw[aEG,hn]
  simp
def leftM (b:Nat)(t:aBs)(hh:Heap):Nat :=
 match bI hh ⟨b,1,none⟩ with
 | some (.int _ n)=>t.length - n.toNat
 | _=>0
theorem tF {B:Base}{b j:Nat}{t:aBs}{h:Heap}{ty:TypeId}(o:Own B [box b [sv t,iv j] ty] h):leftM b t h=t.length - j:=by
 unfold leftM
 rw[o.cellB 0 rfl 1]
 simp
theorem aBX (B:Base)(b:Nat)(t:aBs)(i:Nat)(h:Heap)(hi:i<=t.length)(hl:t.length<=1000000)
  (o0:Own B [box b [sv t,iv i] 106] h) :
  bG Tryz.prog 53 [pv b 0] h λr h'=>r=.tuple #[]/\Own B [box b [sv t,iv (i+gO false (t.drop i):Nat)] 106] h':=by
 refine eN Tryz.func53 Tryz.ntmps53 ?_;refine aDT [2,3,4,5,6,7,8,9,10,11,12,13,14,15,16,17,18,19,20,21,22,23,24,25,26,27,28,29,30,31,32,33,34,35,36,37,38,39,40,41,42] [] (λvs hh=>vs=[]/\∃(j:Nat),j<=t.length/\j+gO false (t.drop j)=i+gO false (t.drop i)/\Own B [box b [sv t,iv j] 106] hh) (λ_ hh=>leftM b t hh) ?_ ?_
 ·exact⟨rfl,i,hi,rfl,o0⟩
 ·rintro vs junk hh ⟨rfl,j,hj,hg,oh⟩
  have hm:=tF oh;by_cases hlt:j<t.length
  ·obtain⟨c,hc⟩:=getx hlt
   have ha:=gapF_at hc;have h1:=uA false (t.drop (j+1));have h35':=λh=>aCV hc h;by_cases h10:c.toNat=32∨c.toNat=9∨c.toNat=10
   ·have hstep:gO false (t.drop j)=1+gO false (t.drop (j+1)):=by
     rw[ha]
     by_cases h1:c.toNat=10
     ·rw[if_pos h1]
     ·rw[if_neg h1,if_neg zO,if_neg zO]
    refine d1_ [0,1,2,4,5,6,8,9] [3,7] [] [0,1,2,3,4,5,6,7,8,9] ?_;refine nC rfl ?_;refine fC dY ?_;refine oC oh 0 aK ?_;refine nC rfl ?_;refine fC dY ?_;refine oC oh 0 aC ?_;refine aDn rfl cE ?_;refine bB λc27=>d1_ [0,1,2,4,5,6,8] [3,7] [] [0,1,2,3,4,5,6,7,8] ?_;refine nC rfl ?_;refine fC dY ?_;refine oC oh 0 aC ?_;refine nC rfl ?_;refine fC dY ?_;refine oC oh 0 aK ?_;refine aDk rfl rfl cE zO zA ?_;refine aDJ (λc35=>?_) (λc35=>?_);refine bB λc36=>cB ?_;refine fB dY ?_;refine oB oh 0 aK ?_;refine aR (cB ?_);refine fB dY ?_;(refine sB oh 0 aK ?_;intro m42 o42)
    refine⟨rfl,?_⟩
    rotate_left
    refine aDJ (λc43=>?_) (λc43=>?_);refine bB λc44=>cB ?_;refine fB dY ?_;refine oB oh 0 aK ?_;refine aR (cB ?_);refine fB dY ?_;(refine sB oh 0 aK ?_;intro m50 o50)
    refine⟨rfl,?_⟩
    rotate_left
    refine bB λc51=>cB ?_;refine fB dY ?_;refine oB oh 0 aK ?_;refine aR (cB ?_);refine fB dY ?_;(refine sB oh 0 aK ?_;intro m57 o57)
    refine⟨rfl,?_⟩
    all_goals
     refine⟨⟨rfl,j+1,by omega,by omega,by assumption⟩,?_⟩
     rw[hm,tF (j:=j+1) (ty:=106) zA]
     omega
   ·by_cases h35:c.toNat=35
    ·obtain⟨hs1,hs2⟩:=h35' h35
     have hsl:=qA kL (t.drop j);have hdl:(t.drop j).length=t.length - j:=by simp
     refine d1_ [0,1,2,4,5,6,8,9] [3,7] [] [0,1,2,3,4,5,6,7,8,9] ?_;refine nC rfl ?_;refine fC dY ?_;refine oC oh 0 aK ?_;refine nC rfl ?_;refine fC dY ?_;refine oC oh 0 aC ?_;refine aDn rfl cE ?_;refine bB λc47=>d1_ [0,1,2,4,5,6,8] [3,7] [] [0,1,2,3,4,5,6,7,8] ?_;refine nC rfl ?_;refine fC dY ?_;refine oC oh 0 aC ?_;refine nC rfl ?_;refine fC dY ?_;refine oC oh 0 aK ?_;refine aDk rfl rfl cE zO zA ?_;refine bA λc55=>bA λc56=>?_;refine bA λc57=>bB λc58=>?_;refine d1_ [0,1,2,4,6,7,8] [3] [9] [0,1,2,3,4,5,6,7,8,9] ?_;refine nC rfl ?_;refine fC dY ?_;refine oC oh 0 aK ?_;refine aDN (vN kL 101 [] b t j _ hj hl (oh.cellB 0 rfl 0) (oh.cellB 0 rfl 1) (λd h' e=>skip1_spec d h')) ?_;rintro _ h2 ⟨rfl,ob⟩;have o2:=ob.thenE zA;generalize cP kL (t.drop j)=n at *;refine aI ob.ext ?_;refine aR (nC rfl ?_);refine fC dY ?_;(refine sB o2 0 aK ?_;intro m73 o73)
     refine⟨rfl,?_⟩
     all_goals
      refine⟨⟨rfl,j+n,by omega,by omega,by assumption⟩,?_⟩
      rw[hm,tF (j:=j+n) (ty:=106) zA]
      omega
    ·have hz:gO false (t.drop j)=0:=by rw[ha,if_neg zO,if_neg h35,if_pos zO]
     rw[← hg,hz,Nat.add_zero]
     refine d1_ [0,1,2,4,5,6,8,9] [3,7] [] [0,1,2,3,4,5,6,7,8,9] ?_;refine nC rfl ?_;refine fC dY ?_;refine oC oh 0 aK ?_;refine nC rfl ?_;refine fC dY ?_;refine oC oh 0 aC ?_;refine aDn rfl cE ?_;refine bB λc87=>d1_ [0,1,2,4,5,6,8] [3,7] [] [0,1,2,3,4,5,6,7,8] ?_;refine nC rfl ?_;refine fC dY ?_;refine oC oh 0 aC ?_;refine nC rfl ?_;refine fC dY ?_;refine oC oh 0 aK ?_;refine aDk rfl rfl cE zO zA ?_;refine bA λc95=>bA λc96=>?_;refine bA λc97=>bA λc98=>?_;refine aDS rfl ?_
     exact⟨rfl,oh⟩
  ·have hz:gO false (t.drop j)=0:=by rw[aEt zO];rfl
   rw[← hg,hz,Nat.add_zero]
   refine d1_ [0,1,2,4,5,6,8,9] [3,7] [] [0,1,2,3,4,5,6,7,8,9] ?_;refine nC rfl ?_;refine fC dY ?_;refine oC oh 0 aK ?_;refine nC rfl ?_;refine fC dY ?_;refine oC oh 0 aC ?_;refine aDn rfl cE ?_;refine bA λc97=>aDS rfl ?_
   exact⟨rfl,oh⟩
def escB (d:UInt8):Option UInt8:=if d.toNat=34 then some 34 else if d.toNat=92 then some 92 else if d.toNat=110 then some 10 else none
def jK:aBs->aBs->Nat->Rd
 | [],_,_=>.err 7
 | [c],acc,k=>if c.toNat=34 then(if 200<acc.length then .err 3 else .tok 3 acc 0 (k+2)) else if c.toNat=10 then .err 5 else .err 7
 | c::d::r,acc,k =>
  if c.toNat=34 then(if 200<acc.length then .err 3 else .tok 3 acc 0 (k+2))
  else if c.toNat=10 then .err 5
  else if c.toNat=92 then(match escB d with
   | none=>.err 5
   | some x=>jK r (acc++[x]) (k+2))
  else jK (d::r) (acc++[c]) (k+1)
def tW (l:aBs):Rd :=
 match l with
 | []=>.none
 | c::r=>if c.toNat=34 then jK r [] 0 else .none
theorem quotedR_at {t:aBs}{i:Nat}{c:UInt8}(hc:t[i]?=some c):tW (t.drop i)=if c.toNat=34 then jK (t.drop (i+1)) [] 0 else .none:=by
 obtain⟨hi,rfl⟩:=aDZ.1 hc
 rw[aD8 hi]
 rfl
theorem quoF_quote {l acc:aBs}{j:Nat}{x:UInt8}(hx:l[j]?=some x)(h:x.toNat=34):jK (l.drop j) acc j=if 200<acc.length then .err 3 else .tok 3 acc 0 (j+2):=by
 obtain⟨hj,rfl⟩:=aDZ.1 hx
 rw[aD8 hj]
 generalize l[j]=x at *
 cases l.drop (j+1) with
 | nil=>rw[jK,if_pos h]
 | cons d r=>rw[jK,if_pos h]
theorem quoF_nl {l acc:aBs}{j:Nat}{x:UInt8}(hx:l[j]?=some x)(h:x.toNat=10):jK (l.drop j) acc j=.err 5:=by
 obtain⟨hj,rfl⟩:=aDZ.1 hx
 rw[aD8 hj]
 generalize l[j]=x at *
 cases l.drop (j+1) with
 | nil=>rw[jK,if_neg zO,if_pos h]
 | cons d r=>rw[jK,if_neg zO,if_pos h]
theorem quoF_other {l acc:aBs}{j:Nat}{x:UInt8}(hx:l[j]?=some x)(h1:x.toNat≠34)(h2:x.toNat≠10)(h3:x.toNat≠92):jK (l.drop j) acc j=jK (l.drop (j+1)) (acc++[x]) (j+1):=by
 obtain⟨hj,rfl⟩:=aDZ.1 hx
 rw[aD8 hj]
 generalize l[j]=x at *
 cases l.drop (j+1) with
 | nil=>simp only[jK,if_neg h1,if_neg h2]
 | cons d r=>rw[jK,if_neg h1,if_neg h2,if_neg h3]
theorem quoF_esc {l acc:aBs}{j:Nat}{x d:UInt8}(hx:l[j]?=some x)(h:x.toNat=92)(hd:l[j+1]?=some d):jK (l.drop j) acc j=match escB d with
  | none=>.err 5
  | some y=>jK (l.drop (j+2)) (acc++[y]) (j+2):=by
 obtain⟨hj,rfl⟩:=aDZ.1 hx
 obtain⟨hj1,rfl⟩:=aDZ.1 hd
 rw[aD8 hj,aD8 hj1,jK,if_neg zO,if_neg zO,if_pos h]
theorem quoF_end {l acc:aBs}{j:Nat}{x:UInt8}(hx:l[j]?=some x)(h:x.toNat=92)(hd:l.length=j+1):jK (l.drop j) acc j=.err 7:=by
 obtain⟨hj,rfl⟩:=aDZ.1 hx
 rw[aD8 hj,aEt zO,jK,if_neg zO,if_neg zO]
theorem quoted_spec (b:Nat)(t:aBs)(i:Nat)(h:Heap)(hi:i<t.length)(hl:t.length<=1000000)
  (h0:bI h ⟨b,0,none⟩=some (sv t)) (h1:bI h ⟨b,1,none⟩=some (iv i)) :
  Spec Tryz.prog 51 [pv b 0] h (RdE h i (tW (t.drop i))):=by
 obtain⟨c,hc⟩:=getx hi
 rw[quotedR_at hc]
 refine eN Tryz.func51 Tryz.ntmps51 ?_;have o0:=Own.refl h;by_cases hq:c.toNat=34
 ·rw[if_pos hq]
  refine aDH o0 bR λb10 m10 o10=>?_;refine d1_ [0,1,2,4,5,6,8,9] [3,7] [] [0,1,2,3,4,5,6,7,8,9] ?_;refine nC rfl ?_;refine fC dY ?_;refine load1 aC rfl (o10.old h0) ?_;refine nC rfl ?_;refine fC dY ?_;refine load1 aK rfl (o10.old h1) ?_;refine aDk rfl rfl cE zO zA ?_;refine bC λc18=>d1_ [0,1,2,4,5,6,8,9,10] [3,7] [] [0,1,2,3,4,5,6,7,8,9,10] ?_;refine nC rfl ?_;refine fC dY ?_;refine load1 aC rfl (o10.old h0) ?_;refine nC rfl ?_;refine fC dY ?_;refine load1 aK rfl (o10.old h1) ?_;refine aR (aDx cE rfl ⟨_,rfl⟩ rfl zO zO zO ?_);have er:List.drop ((i:Int)+1).toNat (List.take (Int.toNat (t.length:Nat)) t)=t.drop (i+1):=by
   rw[show((i:Int)+1).toNat=i+1 by omega]
   simp
  rw[er]
  have hrl:(t.drop (i+1)).length<=1000000:=by simp;omega
  generalize t.drop (i+1)=rest at *
  generalize hR:jK rest [] 0=R
  have on:=o10.nilRow 5 1;refine aDT [3,4,6,7,8,30,31,32,33,34,35,36,37,38,39,40,41,42,43,44,45,46,47,48,49,50,51,52,53,54,55,56,57,58,59,60,61,62,63,64,65,66,67,68,69,70,71,72,73,74,75,76,77,78,79,80,81,82,83,84,85,86] [4,6] (λvs hh=>∃(j:Nat) (acc:aBs) (v:Value),j<=rest.length/\acc.length<=j/\vs=[v,.int .i64 j]/\jK (rest.drop j) acc j=R/\Own h [box b10 [.int .i64 0,.string ⟨⟨[]⟩⟩,.int .i64 0,.int .i64 0] 112,row v 5 1 acc.length (bytes acc)] hh) (λvs _=>match vs with|[_,.int _ j]=>rest.length - j.toNat|_=>0) ?_ ?_
  ·exact⟨0,[],_,by omega,by simp,rfl,hR,on⟩
  ·rintro vs junk hh ⟨j,acc,v,hj,hal,rfl,hQ,oh⟩
   by_cases hlt:j<rest.length
   ·obtain⟨x,hx⟩:=getx hlt
    by_cases hx34:x.toNat=34
    ·rw[quoF_quote hx hx34]at hQ
     by_cases hbig:200<acc.length
     ·rw[if_pos hbig]at hQ
      subst hQ;refine rR (aDn rfl cE ?_);refine bB λc41=>rR (aDk rfl rfl cE zO zA ?_);refine bB λc43=>rR (aDw (oh.rowArrN 1 rfl) iH ?_);refine bB λc45=>?_;exact aDO (jD 3 b t i _ (oh.old h1)) (λ_ _ h=>h.elim) (λc h' ⟨hc,ho⟩=>⟨hc,(ho.thenE oh).sel [] rfl⟩)
     ·rw[if_neg hbig]at hQ
      subst hQ;refine rR (aDn rfl cE ?_);refine bB λc61=>rR (aDk rfl rfl cE zO zA ?_);refine bB λc63=>rR (aDw (oh.rowArrN 1 rfl) iH ?_);refine bA λc65=>bB λc66=>?_;refine rR (aDC (oh.rowArr 1 rfl) iH int5 cE ?_);refine rR (aDd fU ?_);refine aI rfl ?_;refine aI rfl ?_;refine aR ?_;(refine sA oh 0 bR ?_;intro m69 o69)
      first|refine r1_ o69 0 bR ?_|refine r2_ o69 0 bR ?_
      exact⟨by first|rfl|(simp;omega),o_ []⟩
    ·by_cases hx10:x.toNat=10
     ·rw[quoF_nl hx hx10]at hQ
      subst hQ;refine rR (aDn rfl cE ?_);refine bB λc81=>rR (aDk rfl rfl cE zO zA ?_);refine bA λc83=>aDL ?_;refine bA λc84=>bB λc85=>?_;exact aDO (jD 5 b t i _ (oh.old h1)) (λ_ _ h=>h.elim) (λc h' ⟨hc,ho⟩=>⟨hc,(ho.thenE oh).sel [] rfl⟩)
     ·by_cases hx92:x.toNat=92
      ·by_cases hlast:rest.length=j+1
       ·rw[quoF_end hx hx92 hlast]at hQ
        subst hQ;refine rR (aDn rfl cE ?_);refine bB λc101=>rR (aDk rfl rfl cE zO zA ?_);refine bA λc103=>aDL ?_;refine bA λc104=>bA λc105=>?_;refine bB λc106=>aR ?_;refine rR (aDn rfl cE ?_);refine bB λc108=>?_;exact aDO (jD 7 b t i _ (oh.old h1)) (λ_ _ h=>h.elim) (λc h' ⟨hc,ho⟩=>⟨hc,(ho.thenE oh).sel [] rfl⟩)
       ·obtain⟨d,hd⟩:=getx (show j+1<rest.length by omega)
        have hE:=quoF_esc (acc:=acc) hx hx92 hd;have hd':rest[((j:Int)+1).toNat]?=some d:=by rw[show((j:Int)+1).toNat=j+1 by omega];exact hd
        refine rR (aDn rfl cE ?_);refine bB λc121=>rR (aDk rfl rfl cE zO zA ?_);refine bA λc123=>aDL ?_;refine bA λc124=>bA λc125=>?_;refine bB λc126=>aR ?_;refine rR (aDn rfl cE ?_);refine bA λc128=>rR (aDk rfl rfl cE zO zA ?_);refine aDN (tG [34,92,110] d _) ?_;rintro _ h5 ⟨rfl,oi⟩;have o5:=oh.ext' oi;by_cases hd34:d=34
        ·have hk:Lib.indexByte [34,92,110] d=0:=by rw[hd34];decide
         rw[hE,hd34]at hQ
         rw[hk]
         rw[show escB 34=some 34 by decide]at hQ
         simp only at hQ;have hy:([34,92,10]:aBs)[((0:Int)).toNat]?=some 34:=rfl;refine aDL (rR (aDk rfl rfl cE zO zA ?_));refine lA o5 iH ty5 λb131 m131 o131=>?_;(refine aDI o131 1 rfl iH ty5 zD (o131.boxArr 2 rfl zS zS).toN c_ (by simp only[maxLen];first|omega|(simp;omega)) w_ ?_;intro v132 m132 o132);refine aR ?_
         refine⟨rfl,?_⟩
         refine⟨⟨j+2,acc++[34],_,by omega,by simp;omega,rfl,hQ,?_⟩,by simp;omega⟩
         have q:=o132.sel [0,1] rfl
         simpa[pick] using q
        ·by_cases hd92:d=92
         ·have hk:Lib.indexByte [34,92,110] d=1:=by rw[hd92];decide
          rw[hE,hd92]at hQ
          rw[hk]
          rw[show escB 92=some 92 by decide]at hQ
          simp only at hQ;have hy:([34,92,10]:aBs)[((1:Int)).toNat]?=some 92:=rfl;refine aDL (rR (aDk rfl rfl cE zO zA ?_));refine lA o5 iH ty5 λb141 m141 o141=>?_;(refine aDI o141 1 rfl iH ty5 zD (o141.boxArr 2 rfl zS zS).toN c_ (by simp only[maxLen];first|omega|(simp;omega)) w_ ?_;intro v142 m142 o142);refine aR ?_
          refine⟨rfl,?_⟩
          refine⟨⟨j+2,acc++[92],_,by omega,by simp;omega,rfl,hQ,?_⟩,by simp;omega⟩
          have q:=o142.sel [0,1] rfl
          simpa[pick] using q
         ·by_cases hd110:d=110
          ·have hk:Lib.indexByte [34,92,110] d=2:=by rw[hd110];decide
           rw[hE,hd110]at hQ
           rw[hk]
           rw[show escB 110=some 10 by decide]at hQ
           simp only at hQ;have hy:([34,92,10]:aBs)[((2:Int)).toNat]?=some 10:=rfl;refine aDL (rR (aDk rfl rfl cE zO zA ?_));refine lA o5 iH ty5 λb151 m151 o151=>?_;(refine aDI o151 1 rfl iH ty5 zD (o151.boxArr 2 rfl zS zS).toN c_ (by simp only[maxLen];first|omega|(simp;omega)) w_ ?_;intro v152 m152 o152);refine aR ?_
           refine⟨rfl,?_⟩
           refine⟨⟨j+2,acc++[10],_,by omega,by simp;omega,rfl,hQ,?_⟩,by simp;omega⟩
           have q:=o152.sel [0,1] rfl
           simpa[pick] using q
          ·have hk:¬ 0<=Lib.indexByte [34,92,110] d:=λe=>by
            have:=(jZ [34,92,110] d).2.1 e
            simp[hd34,hd92,hd110]at this
           have hk2:=(jZ [34,92,110] d).1;have hn:escB d=none:=by
            have e1:d.toNat≠34:=λe=>hd34 (UInt8.toNat_inj.1 e);have e2:d.toNat≠92:=λe=>hd92 (UInt8.toNat_inj.1 e);have e3:d.toNat≠110:=λe=>hd110 (UInt8.toNat_inj.1 e)
            simp[escB,e1,e2,e3]
           rw[hE,hn]at hQ
           simp only at hQ;subst hQ;generalize Lib.indexByte [34,92,110] d=q at *;refine bB λc155=>?_;exact aDO (jD 5 b t i _ (o5.old h1)) (λ_ _ h=>h.elim) (λc h' ⟨hc,ho⟩=>⟨hc,(ho.thenE o5).sel [] rfl⟩)
      ·rw[quoF_other hx hx34 hx10 hx92]at hQ
       refine rR (aDn rfl cE ?_);refine bB λc161=>rR (aDk rfl rfl cE zO zA ?_);refine bA λc163=>aDL ?_;refine bA λc164=>bA λc165=>?_;refine bA λc166=>lA oh iH ty5 λb167 m167 o167=>?_;(refine aDI o167 1 rfl iH ty5 zD (o167.boxArr 2 rfl zS zS).toN c_ (by simp only[maxLen];first|omega|(simp;omega)) w_ ?_;intro v168 m168 o168);refine aR ?_
       refine⟨rfl,?_⟩
       refine⟨⟨j+1,acc++[x],_,by omega,by simp;omega,rfl,hQ,?_⟩,by simp;omega⟩
       have q:=o168.sel [0,1] rfl
       simpa[pick] using q
   ·have:rest.drop j=[]:=aEt zO
    rw[this]at hQ
    subst hQ;refine rR (aDn rfl cE ?_);refine bA λc191=>?_;exact aDO (jD 7 b t i _ (oh.old h1)) (λ_ _ h=>h.elim) (λc h' ⟨hc,ho⟩=>⟨hc,(ho.thenE oh).sel [] rfl⟩)
 ·rw[if_neg hq]
  refine aDH o0 bR λb200 m200 o200=>?_;refine d1_ [0,1,2,4,5,6,8,9] [3,7] [] [0,1,2,3,4,5,6,7,8,9] ?_;refine nC rfl ?_;refine fC dY ?_;refine load1 aC rfl (o200.old h0) ?_;refine nC rfl ?_;refine fC dY ?_;refine load1 aK rfl (o200.old h1) ?_;refine aDk rfl rfl cE zO zA ?_;refine bD λc208=>rR (aDd fU ?_);(refine sA o200 0 bR ?_;intro m210 o210)
  first|refine r1_ o210 0 bR ?_|refine r2_ o210 0 bR ?_
  exact⟨⟨0,[],0,0,rfl⟩,o_ []⟩
def aAD (p q r v:Value):aVs:=[p,q,r,v,undef,undef,v,undef,undef,undef,undef,undef,undef,undef,undef,undef,undef,undef,undef,undef,undef]
theorem wC (p q r:Value):Recovers Tryz.prog (match Tryz.f48.body with|some (.seq (.region _ ops _) _)=>ops|_=>#[]) ([p,q,r]++List.replicate (21 - [p,q,r].length) undef) (aAD p q r):=by
 intro cs w Q hQ;unfold wpOpsS
 simp[Tryz.f48,List.range,List.range.loop,wpOpsS,Region.wanted,yielded,execOp,resolve,invoke,builtin,act,Act.put]
 cases hrec:recoverD cs with
 | none=>exact hQ _ _ (.inr ⟨hrec,rfl,rfl⟩)
 | some x=>exact hQ _ _ (.inl hrec)
theorem leave_ok (s:aVs)(h:Heap)(R:Ending->Heap->Prop)(p q r:Value)
  (hr:RetVC Tryz.prog Tryz.f25 s h λv h=>R (.returned v) h) :
  LeaveVC Tryz.prog Tryz.f25 ⟨.fn (.func 48) ⟨[p,q,r]⟩,#[]⟩ .returning s h R:=by
 refine LeaveVC.recovers (f:=aAD p q r) .nilIface Tryz.func48 rfl (n:=21) k_ k_ rfl (.inl ⟨rfl,rfl⟩) (wC p q r) ?_;refine rR (neI aB7 a_ ?_);refine aDL ?_;exact hr
theorem xQ (s:aVs)(h:Heap)(R:Ending->Heap->Prop)(B:Base)(b2 b3 b4:Nat)(x y z:Value)(e:Int)(i:Nat)
  (o0:Own B [box b2 [x] 64,box b3 [y] 27,box b4 [z] 3] h)
  (h2:sget s 2=pv b2 0) (h3:sget s 3=pv b3 0) (h4:sget s 4=pv b4 0)
  (hR:∀ h',Own B [] h'->R (.returned (.tuple ⟨[.slice none 0 0,iv e,iv i]⟩)) h') :
  LeaveVC Tryz.prog Tryz.f25 ⟨.fn (.func 48) ⟨[pv b2 0,pv b3 0,pv b4 0]⟩,#[]⟩ (.panicking (faultC e i)) s h R:=by
 refine LeaveVC.recovers (f:=aAD (pv b2 0) (pv b3 0) (pv b4 0)) (.iface 102 (.agg ⟨[iv e,iv i]⟩)) Tryz.func48 rfl (n:=21) k_ k_ rfl (.inr rfl) (wC _ _ _) ?_;refine rR (neI aB7 a_ ?_);refine aDK (rR (assertOk con102 rfl ?_));refine aDH o0 ty102 λb12 m12 o12=>?_;(refine sA o12 3 ty102 ?_;intro m13 o13);refine aDL (d2_ b12 [0,2] [1,3] [6] [0,1,2,3,4,5,6] ?_);refine fC st102 ?_;refine StillVCA.load1 jM rfl rfl ((o13.cellB 3 rfl _).trans rfl) ?_;refine fC st102 ?_;refine StillVCA.load1 aK rfl rfl ((o13.cellB 3 rfl _).trans rfl) ?_;(refine sB o13 0 fS ?_;intro m24 o24);refine aI ((o24.boxBlk 3 rfl).trans (o13.boxBlk 3 rfl).symm) ?_;(refine sB o24 1 jM ?_;intro m25 o25);refine aI ((o25.boxBlk 3 rfl).trans (o24.boxBlk 3 rfl).symm) ?_;(refine sB o25 2 aK ?_;intro m26 o26);exact RetVC.cell3 rfl fS jM aK h2 h3 h4 (o26.cellB 0 rfl 0) (o26.cellB 1 rfl 0) (o26.cellB 2 rfl 0) (hR _ (o26.sel [] rfl))
structure Tok where
 kind:Int
 text:aBs
 num:Int
 off:Nat
def sC (t:Tok):aVs:=[iv t.kind,sv t.text,iv t.num,iv t.off]
def kJ:List (aBs->Rd)->aBs->Rd
 | [],_=>.err 5
 | r::rs,l=>match r l with
  | .none=>kJ rs l
  | x=>x
def readers:List (aBs->Rd):=[yT,rA,tW,vI]
def jQ (l:aBs):Rd:=kJ readers l
def mF:Nat->aBs->Nat->Nat->Except (Int×Nat) (List Tok)
 | 0,_,_,_=>.ok []
 | f+1,l,i,k=>match l with
  | []=>.ok []
  | c::r=>match jQ (c::r) with
   | .err e=>.error (e,i)
   | .none=>.error (5,i)
   | .tok kd x n len=>if k=5000 then .error (3,i) else
    match mF f ((c::r).drop (len+gO false ((c::r).drop len))) (i+(len+gO false ((c::r).drop len))) (k+1) with
    | .error e=>.error e
    | .ok ts=>.ok (⟨kd,x,n,i⟩::ts)
def xO (t:aBs):Except (Int×Nat) (List Tok):=mF t.length (t.drop (gO false t)) (gO false t) 0
def zL (acc:List Tok):Except (Int×Nat) (List Tok)->Except (Int×Nat) (List Tok)
 | .error e=>.error e
 | .ok ts=>.ok (acc++ts)
theorem aB5 {f:Nat}{l:aBs}{i k len:Nat}{kd n:Int}{x:aBs}(hl:l≠[])(hr:jQ l=.tok kd x n len)(hk:k≠5000)(acc:List Tok) :
  zL acc (mF (f+1) l i k)=zL (acc++[⟨kd,x,n,i⟩]) (mF f (l.drop (len+gO false (l.drop len))) (i+(len+gO false (l.drop len))) (k+1)):=by
 cases l with
 | nil=>exact absurd rfl hl
 | cons c r =>
  rw[mF,hr]
  simp only[if_neg hk]
  cases mF f _ _ _ with
  | error e=>rfl
  | ok ts=>simp[zL]
theorem aAX {f:Nat}{l:aBs}{i len:Nat}{kd n:Int}{x:aBs}(hl:l≠[])(hr:jQ l=.tok kd x n len) :
  mF (f+1) l i 5000=.error (3,i):=by
 cases l with
 | nil=>exact absurd rfl hl
 | cons c r=>rw[mF,hr];rfl
theorem xP {f:Nat}{l:aBs}{i k:Nat}{e:Int}(hl:l≠[])(hr:jQ l=.err e) :
  mF (f+1) l i k=.error (e,i):=by
 cases l with
 | nil=>exact absurd rfl hl
 | cons c r=>rw[mF,hr]
theorem lexGo_nil (f i k:Nat):mF f [] i k=.ok []:=by
 cases f<;>rfl
theorem aAH:∀(l acc:aBs)(k:Nat) {kd n:Int}{x:aBs}{len:Nat},jK l acc k=.tok kd x n len->k+2<=len/\len<=k+1+l.length
 | [],_,_,_,_,_,_,h=>by cases h
 | [c],acc,k,_,_,_,_,h=>by
  rw[jK]at h
  split at h
  ·split at h
   ·cases h
   ·injection h with _ _ _ e;subst e;simp
  ·split at h<;>cases h
 | c::d::r,acc,k,_,_,_,_,h=>by
  rw[jK]at h
  split at h
  ·split at h
   ·cases h
   ·injection h with _ _ _ e;subst e;simp;omega
  ·split at h
   ·cases h
   ·split at h
    ·split at h
     ·cases h
     ·have:=aAH r _ _ h;simp;omega
    ·have:=aAH (d::r) _ _ h;simp at this ⊢;omega
theorem aBV {p:UInt8->Bool}{c:UInt8}{r:aBs}(h:p c=true):1<=cP p (c::r):=by
 unfold cP;rw[aEG,h];simp
theorem readR_len {l:aBs}{kd n:Int}{x:aBs}{len:Nat}(h:jQ l=.tok kd x n len):1<=len/\len<=l.length:=by
 have h1:=qA eA l;have h2:=qA dH l;unfold jQ readers kJ at h;split at h
 ·unfold kJ at h
  split at h
  ·unfold kJ at h
   split at h
   ·unfold kJ at h
    split at h
    ·cases h
    ·unfold vI at h
     split at h
     ·cases h
     ·rename_i hs
      injection h with _ _ _ e
      subst e
      refine⟨by omega,?_⟩
      unfold wR;split
      ·rename_i hh
       rcases hh with hh|hh
       ·exact mR hh
       ·exact mR hh
      ·split
       ·simp
       ·split<;>simp
   ·unfold tW at h
    split at h
    ·cases h
    ·split at h
     ·have:=aAH _ _ _ h
      simp;omega
     ·cases h
  ·unfold rA at h
   split at h
   ·cases h
   ·split at h
    ·cases h
    ·injection h with _ _ _ e
     omega
 ·cases l with
  | nil=>cases h
  | cons c r =>
   simp only[yT]at h
   split at h
   ·rename_i hc
    split at h
    ·cases h
    ·injection h with _ _ _ e
     have:=aBV (p:=eA) (c:=c) (r:=r) (by unfold eA;rw[hc];rfl)
     omega
   ·cases h
def mT (h:Heap)(t:aBs)(v:Value)(h':Heap):Prop :=
 if 20000<t.length then v=.tuple ⟨[.slice none 0 0,iv 3,iv (-1)]⟩/\Own h [] h'
 else match xO t with
  | .error (e,i)=>v=.tuple ⟨[.slice none 0 0,.int .i64 e,.int .i64 i]⟩/\Own h [] h'
  | .ok ts=>∃ u,v=.tuple ⟨[u,.int .i64 0,.int .i64 0]⟩/\Own h [row u 112 4 ts.length (ts.flatMap sC)] h'
def fnV (b:Nat)(f:FuncId):Value:=.func (.func f) ⟨[pv b 0]⟩ ⟨[]⟩
def fnsV (b:Nat):aVs:=[fnV b 49,fnV b 50,fnV b 51,fnV b 52]
theorem reader_at (b:Nat)(t:aBs)(q:Nat)(hq:q<4):∃ g r,(fnsV b)[q]?=some (fnV b g)/\readers.drop q=r::readers.drop (q+1) /\
  ∀(i:Nat) (h:Heap),i<t.length->t.length<=1000000->bI h ⟨b,0,none⟩=some (sv t)->bI h ⟨b,1,none⟩=some (iv i)->Spec Tryz.prog g [pv b 0] h (RdE h i (r (t.drop i))):=by
 match q,hq with
 | 0,_=>exact⟨_,_,rfl,rfl,λi h hi hl h0 h1=>name_spec b t i h hi hl h0 h1⟩
 | 1,_=>exact⟨_,_,rfl,rfl,λi h hi hl h0 h1=>number_spec b t i h hi hl h0 h1⟩
 | 2,_=>exact⟨_,_,rfl,rfl,λi h hi hl h0 h1=>quoted_spec b t i h hi hl h0 h1⟩
 | 3,_=>exact⟨_,_,rfl,rfl,λi h hi hl h0 h1=>symbol_spec b t i h hi hl h0 h1⟩
theorem lex_spec (t:aBs)(h:Heap)(hl:t.length<=9223372036854775807) :
  bG Tryz.prog 25 [sv t] h (mT h t):=by
 refine Spec.enterD Tryz.func25 rfl (n:=77) k_ k_ ?_;have o0:=Own.refl h;by_cases hbig:20000<t.length
 ·refine aDH o0 fS λb10 m10 o10=>?_
  refine aDH o10 jM λb11 m11 o11=>?_;refine aDH o11 aK λb12 m12 o12=>?_;refine rR (aDn rfl cE ?_);refine bB λc14=>?_;(refine sA o12 0 fS ?_;intro m15 o15);(refine sA o15 1 jM ?_;intro m16 o16);(refine sA o16 2 aK ?_;intro m17 o17);refine RetVC.cell3 rfl fS jM aK rfl rfl rfl (o17.cellB 0 rfl 0) (o17.cellB 1 rfl 0) (o17.cellB 2 rfl 0) ?_;show mT h t _ _
  rw[mT,if_pos hbig]
  exact⟨rfl,o17.sel [] rfl⟩
 ·have hP:∀ v h',mT h t v h'=_:=λv h'=>by rw[mT,if_neg hbig]
  refine aDH o0 fS λb20 m20 o20=>?_;refine aDH o20 jM λb21 m21 o21=>?_;refine aDH o21 aK λb22 m22 o22=>?_;refine rR (aDn rfl cE ?_);refine bA λc24=>DeferVC.closure zS ?_;refine rR (aDd dY ?_);refine aI rfl ?_;refine xB o22 λb31 m31 o31=>?_;refine rR (aDp ?_);refine rR (aDp ?_);refine rR (aDp ?_);refine rR (aDp ?_);refine rR (buildA arr108 ty108 rfl rfl rfl (aI rfl ?_));refine rR (aDd st110 ?_);refine aI rfl ?_;refine aDH o31 ty110 λb38 m38 o38=>?_;(refine sA o38 4 ty110 ?_;intro m39 o39);have ol:=o39.lend [3] [0,1,2,4] rfl;refine aDN (aBX _ b31 t 0 _ zO zO ol) ?_;rintro _ m40 ⟨rfl,os⟩;have o40:Own h [box b20 [.slice none 0 0] 64,box b21 [iv 0] 27,box b22 [iv 0] 3,box b31 [sv t,iv (0+gO false (t.drop 0):Nat)] 106,box b38 (fnsV b31) 110] m40:=os.back.sel [1,2,3,0,4] rfl;have hgle:=uA false t
  simp only[aEg,List.drop_zero]at o40
  generalize hT:xO t=T at hP
  have hT0:zL [] (mF (t.length) (t.drop (gO false t)) (gO false t) 0)=T:=by
   rw[← hT,xO]
   cases mF t.length (t.drop (gO false t)) (gO false t) 0<;>rfl
  have on:=o40.nilRow 112 4;refine aDT [8,9,10,30,31,32,33,34,35,36,37,38,39,40,41,42,43,44,45,46,47,48,49,50,51,52,53,54,55,56,57,58,59,60,61,62,63,64,65,66,67,68,69,70,71,72,73,74,75] [] (λ_ hh=>∃(f j:Nat) (acc:List Tok) (v:Value),j<=t.length/\t.length<=j+f/\acc.length<=j/\acc.length<=5000/\zL acc (mF f (t.drop j) j acc.length)=T/\Own h [box b20 [v] 64,box b21 [iv 0] 27,box b22 [iv 0] 3,box b31 [sv t,iv (j:Nat)] 106,box b38 (fnsV b31) 110,row v 112 4 acc.length (acc.flatMap sC)] hh) (λ_ hh=>leftM b31 t hh) ?_ ?_
  ·exact⟨t.length,gO false t,[],_,hgle,by omega,by simp,by simp,hT0,on⟩
  ·rintro vs junk hh ⟨f,j,acc,v,hj,hf,haj,hac,hQ,oh⟩
   obtain⟨va,vc,rfl⟩:=oh.rowIs 5 rfl
   by_cases hlt:j<t.length
   ·have hdn:t.drop j≠[]:=λe=>by have:=congrArg List.length e;simp at this;omega
    obtain⟨f,rfl⟩:∃ f',f=f'+1:=⟨f - 1,by omega⟩
    refine cB ?_;refine fB dY ?_;refine oB oh 3 aK ?_;refine rR (aDn rfl cE ?_);refine bB λc64=>fB st110 ?_;refine nB oh 4 ty108 ?_;refine aDT [8,9,10,39,40,41,42,43,44,45,46,47,48,49,50,51,52,53,54,55,56,57,58,59,60,61,62,63,64,65,66,67,68,69,70,71,72,73] [39] (λvs h2=>∃ q,q<=4/\vs=[.int .i64 (q:Nat)]/\kJ (readers.drop q) (t.drop j)=jQ (t.drop j)/\Own h [box b20 [.slice va acc.length vc] 64,box b21 [.int .i64 0] 27,box b22 [.int .i64 0] 3,box b31 [.string ⟨⟨t⟩⟩,.int .i64 (j:Nat)] 106,box b38 (fnsV b31) 110,row (.slice va acc.length vc) 112 4 acc.length (acc.flatMap sC)] h2) (λvs _=>match vs with|[.int _ q]=>4 - q.toNat|_=>0) ?_ ?_
    ·exact⟨0,by omega,rfl,rfl,oh⟩
    ·rintro vs junk h2 ⟨q,hq,rfl,hR,oq⟩
     by_cases hq4:q<4
     ·obtain⟨g,r,hg,hd,hsp⟩:=reader_at b31 t q hq4
      rw[hd]at hR
      refine bB λc70=>?_;refine rR (indexA arr108 rfl rfl zO zO (by first|rfl|assumption) ?_);refine aDU ?_;refine aDO (hsp j _ hlt zO (oq.cellB 3 rfl 0) (oq.cellB 3 rfl 1)) ?_ ?_
      ·rintro v h3 ⟨hv,oe⟩
       have o3:=oq.ext' oe;cases hr:r (t.drop j) with
       | err e=>rw[hr]at hv;exact hv.elim
       | none =>
        rw[hr]at hv
        obtain⟨k',x',n',a',rfl⟩:=hv
        have hR':kJ (readers.drop (q+1)) (t.drop j)=jQ (t.drop j):=by rw[← hR,kJ,hr]
        refine aDH o3 bR λb100 m100 o100=>?_;(refine sA o100 6 bR ?_;intro m101 o101);refine aDK (aR ?_)
        refine⟨rfl,?_⟩
        exact⟨⟨q+1,by omega,rfl,hR',o_ [0,1,2,3,4,5]⟩,by simp;omega⟩
       | tok k' x' n' len =>
        rw[hr]at hv
        obtain rfl:=hv;have hR':jQ (t.drop j)=.tok k' x' n' len:=by rw[← hR,kJ,hr]
        obtain⟨hl1,hl2⟩:=readR_len hR'
        rw[List.length_drop]at hl2
        by_cases hfull:acc.length=5000
        ·rw[hfull,aAX hdn hR']at hQ
         refine aDH o3 bR λb120 m120 o120=>?_;(refine sA o120 6 bR ?_;intro m121 o121);refine bA λc122=>oB o121 0 fS ?_;refine lB gW ?_;refine bB λc125=>aDO (jD 3 b31 t j _ (Own.cellB zA 3 rfl 1)) (λ_ _ h=>h.elim) (λc h4 ⟨hc,ho⟩=>?_);subst hc;have o5:Own h [box b20 [.slice va acc.length vc] 64,box b21 [iv 0] 27,box b22 [iv 0] 3] _:=(Own.ext' zA ho).sel [0,1,2] rfl;refine xQ _ _ _ _ b20 b21 b22 _ _ _ 3 j o5 rfl rfl rfl λh' o'=>?_;show mT h t _ _
         rw[hP,← hQ]
         exact⟨rfl,o'⟩
        ·rw[aB5 hdn hR' hfull]at hQ
         refine aDH o3 bR λb140 m140 o140=>?_;(refine sA o140 6 bR ?_;intro m141 o141);refine bA λc142=>oB o141 0 fS ?_;refine lB gW ?_;refine bA λc145=>cB ?_;refine fB dY ?_;refine oB o141 3 aK ?_;refine fB fU ?_;(refine sB o141 6 aK ?_;intro m150 o150);refine oB o150 0 fS ?_;refine nB o150 6 bR ?_;(refine aDt o150 gW bR rfl rfl zD ?_);refine aI rfl ?_;intro b154 m154 o154;refine aDI zA 5 rfl gW bR zD (Own.boxArrN zA 7 rfl (n:=1) rfl zO) c_ (by simp only[maxLen];omega) zO ?_;intro v155 m155 o155
         obtain⟨ua,uc,rfl⟩:=o155.rowIs 5 rfl
         (refine sB o155 0 fS ?_;intro m160 o160);refine cB ?_;refine fB dY ?_;refine oB o160 3 aK ?_;refine aR (cB ?_);refine fB dY ?_;(refine sB o160 3 aK ?_;intro m166 o166);refine aDN (aBX _ b31 t (j+len) _ zO zO (Own.lend zA [3] [0,1,2,4,5] rfl)) ?_;rintro _ m170 ⟨rfl,os⟩;have o170:Own h [box b20 [.slice ua (acc.length+1) uc] 64,box b21 [iv 0] 27,box b22 [iv 0] 3,box b31 [sv t,iv (j+len+gO false (t.drop (j+len)):Nat)] 106,box b38 (fnsV b31) 110,row (.slice ua (acc.length+1) uc) 112 4 (acc.length+1) (acc.flatMap sC++sC ⟨k',x',n',j⟩)] m170:=os.back.sel [1,2,3,0,4,5] rfl;have hgl:=uA false (t.drop (j+len))
         rw[List.length_drop]at hgl
         simp only[aEP]at hQ
         generalize gO false (t.drop (j+len))=gg at *
         refine⟨rfl,?_⟩
         have hm1:=tF (b:=b31) (j:=j) (t:=t) (ty:=106) (oh.lend [3] [0,1,2,4,5] rfl);have hm2:=tF (b:=b31) (j:=j+len+gg) (t:=t) (ty:=106) (o170.lend [3] [0,1,2,4,5] rfl)
         refine⟨⟨f,j+len+gg,acc++[⟨k',x',n',j⟩],.slice ua (acc.length+1) uc,by omega,by omega,by simp;omega,by simp;omega,?_,?_⟩,?_⟩
         ·rw[← hQ,aDX]
          simp only[aD1,aD2,aEg,Nat.add_assoc]
         ·have e1:(acc++[(⟨k',x',n',j⟩:Tok)]).length=acc.length+1:=by simp
          have e2:(acc++[(⟨k',x',n',j⟩:Tok)]).flatMap sC=acc.flatMap sC++sC ⟨k',x',n',j⟩:=by simp
          rw[e1,e2]
          exact o170
         ·rw[hm1,hm2]
          omega
      ·rintro c h3 ⟨hc,oe⟩
       cases hr:r (t.drop j) with
       | err e =>
        rw[hr]at hc
        subst hc;have hR':jQ (t.drop j)=.err e:=by rw[← hR,kJ,hr]
        rw[xP hdn hR']at hQ
        refine xQ _ _ _ _ b20 b21 b22 _ _ _ e j ((oq.ext' oe).sel [0,1,2] rfl) rfl rfl rfl λh' o'=>?_;show mT h t _ _
        rw[hP,← hQ]
        exact⟨rfl,o'⟩
       | none=>rw[hr]at hc;exact hc.elim
       | tok _ _ _ _=>rw[hr]at hc;exact hc.elim
     ·obtain rfl:q=4:=by omega
      refine aDL (aDO (jD 5 b31 t j _ (oq.cellB 3 rfl 1)) (λ_ _ h=>h.elim) (λc h4 ⟨hc,ho⟩=>?_));subst hc
      rw[xP hdn hR.symm]at hQ
      refine xQ _ _ _ _ b20 b21 b22 _ _ _ 5 j ((oq.ext' ho).sel [0,1,2] rfl) rfl rfl rfl λh' o'=>?_;show mT h t _ _
      rw[hP,← hQ]
      exact⟨rfl,o'⟩
   ·have hd:t.drop j=[]:=aEt zO
    rw[hd,lexGo_nil]at hQ
    simp only[zL,aD7]at hQ
    refine cB ?_;refine fB dY ?_;refine oB oh 3 aK ?_;refine rR (aDn rfl cE ?_);refine bA λc84=>oB oh 0 fS ?_;(refine sB oh 0 fS ?_;intro m86 o86);(refine sA o86 1 jM ?_;intro m87 o87);(refine sA o87 2 aK ?_;intro m88 o88);refine leave_ok _ _ _ _ _ _ ?_;refine RetVC.cell3 rfl fS jM aK rfl rfl rfl (o88.cellB 0 rfl 0) (o88.cellB 1 rfl 0) (o88.cellB 2 rfl 0) ?_;show mT h t _ _
    rw[hP,← hQ]
    exact⟨_,rfl,o88.sel [5] rfl⟩
structure Vl where
 k:Int
 n:Int
 t:aBs
structure Opd where
 var:aBs
 attr:aBs
 con:Bool
 val:Vl
structure Cnd where
 left:Opd
 op:Int
 right:Opd
 add:Int
structure Col where
 name:aBs
 kind:Int
 dflt:Vl
structure Trm where
 attr:aBs
 measure:Int
 tol:Int
 num:Int
 den:Int
 gives:Int
 takes:Int
structure Nmd where
 name:aBs
 val:Vl
structure Vr where
 name:aBs
 table:aBs
inductive Ex where
 | mk (kind:Int) (table:aBs) (kids:List Ex) (conds:List Cnd) (names:List aBs) (attr:aBs) (as_:aBs) (agg:Int) (off:Nat)
structure It where
 kind:Int
 name:aBs
 off:Nat
 table:aBs
 attr:aBs
 cols:List Col
 names:List aBs
 by_:Int
 n:Int
 m:Int
 terms:List Trm
 other:aBs
 oattr:aBs
 fixed:List Nmd
 vars:List Vr
 conds:List Cnd
 expr:Ex
def vl0:Vl:=⟨0,0,[]⟩
def ex0:Ex:=.mk 0 [] [] [] [] [] [] 0 0
def uJ:It:=⟨0,[],0,[],[],[],[],0,0,0,[],[],[],[],[],[],ex0⟩
def PM (α:Type):=List Tok->Except (Int×Nat) (α×List Tok)
instance:Monad PM where
 pure a:=λts=>.ok (a,ts)
 bind m f:=λts=>match m ts with
  | .error e=>.error e
  | .ok (a,r)=>f a r
def ifP {α:Type}(c:Bool)(m:PM α)(d:α):PM α:=if c=true then m else pure d
theorem pO {α:Type}{c:Bool}{m:PM α}{d:α}(h:c=true):ifP c m d=m:=if_pos h
theorem tH {α:Type}{c:Bool}{m:PM α}{d:α}(h:c=false):ifP c m d=pure d:=if_neg (by rw[h];decide)
section
variable (z : Nat)
def aBR (e:Int)(ts:List Tok):Int×Nat:=match ts with
 | []=>(7,z)
 | t::_=>(e,t.off)
def aCc {α:Type}(e:Int):PM α:=λts=>.error (aBR z e ts)
def wordB (t:Tok)(s:aBs):Bool:=decide (t.text=s/\(t.kind=1∨t.kind=4))
def cJ:List aBs->List Tok->Bool
 | [],_=>true
 | _::_,[]=>false
 | s::ss,t::ts=>wordB t s&&cJ ss ts
def fP (s:aBs):PM Bool:=λts=>if cJ [s] ts then .ok (true,ts.tail) else .ok (false,ts)
def need1 (s:aBs):PM Unit:=do
 if ← fP s then pure () else aCc z 4
def cO:List aBs->PM Unit
 | []=>pure ()
 | s::r=>do
  need1 z s
  cO r
def oW (k:Int):PM Tok:=λts=>match ts with
 | []=>.error (7,z)
 | t::r=>if t.kind=k then .ok (t,r) else .error (4,t.off)
def gB:PM aBs:=do
 let t ← oW z 1
 pure t.text
def rB:PM Int:=do
 let t ← oW z 2
 pure t.num
def iJ:List aBs->Int->PM Int
 | [],_=>aCc z 4
 | s::r,i=>do
  if ← fP s then pure i else iJ r (i+1)
def listA {α:Type}(sep:aBs)(one:PM α):Nat->List α->PM (List α)
 | 0,acc=>pure acc
 | f+1,acc=>do
  if ← fP sep then
   let a ← one
   listA sep one f (acc++[a])
  else pure acc
def nE {α:Type}(sep:aBs)(one:PM α):PM (List α):=do
 let a ← one
 λts=>listA sep one (ts.length+1) [a] ts
def sY:PM (List aBs):=nE [44] (gB z)
def litE:PM (Option Vl):=do
 if ← fP [45] then
  let n ← rB z
  pure (some ⟨2,-n,[]⟩)
 else if ← fP [64] then
  let n ← rB z
  pure (some ⟨3,n,[]⟩)
 else if ← fP [116,114,117,101] then pure (some ⟨4,1,[]⟩)
 else if ← fP [102,97,108,115,101] then pure (some ⟨4,0,[]⟩)
 else if ← fP [110,117,108,108] then pure (some vl0)
 else pure none
def namesU (s:aBs):PM (List aBs):=λts=>if cJ [s] ts=true then .ok ([],ts) else sY z ts
def kM:PM (Option Vl):=λts=>match ts with
 | []=>.ok (none,[])
 | t::r =>
  if t.kind=3 then .ok (some ⟨1,0,t.text⟩,r)
  else if t.kind=2 then .ok (some ⟨2,t.num,[]⟩,r)
  else litE z (t::r)
def wO:PM Vl:=do
 match ← kM z with
 | some v=>pure v
 | none=>aCc z 4
def aBZ:PM Opd:=do
 match ← kM z with
 | some v=>pure ⟨[],[],true,v⟩
 | none =>
  let first ← gB z
  if ← fP [46] then
   let a ← gB z
   pure ⟨first,a,false,vl0⟩
  else pure ⟨[],first,false,vl0⟩
def aCk:PM Cnd:=do
 let l ← aBZ z
 let op ← iJ z [[61],[33,61],[60],[60,61]] 1
 let r ← aBZ z
 if ← fP [43] then
  let n ← rB z
  pure ⟨l,op,r,n⟩
 else if ← fP [45] then
  let n ← rB z
  pure ⟨l,op,r,-n⟩
 else pure ⟨l,op,r,0⟩
def vD:PM (List Cnd):=do
 cO z [[119,104,101,114,101]]
 nE [97,110,100] (aCk z)
def dV:List aBs:=[[115,101,108,101,99,116],[112,114,111,106,101,99,116],[106,111,105,110],[117,110,105,111,110],[109,105,110,117,115],[114,101,110,97,109,101],[103,114,111,117,112]]
def vW (ts:List Tok):Option Nat:=(List.range 7).find? λi=>cJ [dV.getD i [],[40]] ts
def uB (off:Nat)(t:aBs):Ex:=.mk 1 t [] [] [] [] [] 0 off
def gZ (i:Nat)(off:Nat)(kids:List Ex):PM Ex :=
 match i with
 | 0=>do
  let c ← vD z
  pure (.mk 2 [] kids c [] [] [] 0 off)
 | 1=>do
  cO z [[111,110]]
  let l ← namesU z [41]
  pure (.mk 3 [] kids [] l [] [] 0 off)
 | 5=>do
  cO z [[44]]
  let a ← gB z
  cO z [[97,115]]
  let b ← gB z
  pure (.mk 7 [] kids [] [] a b 0 off)
 | 6=>do
  cO z [[111,110]]
  let l ← namesU z [119,105,116,104]
  cO z [[119,105,116,104]]
  let g ← iJ z [[99,111,117,110,116],[115,117,109],[108,101,97,115,116],[103,114,101,97,116,101,115,116]] 1
  let a ← ifP (g != 1) (gB z) []
  cO z [[97,115]]
  let b ← gB z
  pure (.mk 8 [] kids [] l a b g off)
 | i=>pure (.mk (2+i) [] kids [] [] [] [] 0 off)
def aCx (i:Nat):Bool:=i == 2||i == 3||i == 4
def bW:List Tok->Nat
 | []=>0
 | t::_=>t.off
def dQ:Nat->PM Ex
 | 0=>aCc z 3
 | n+1=>λts=>match vW ts with
  | none=>(do
   let t ← gB z
   pure (uB (bW ts) t):PM Ex) ts
  | some i=>(do
   cO z [dV.getD i [],[40]]
   let a ← dQ n
   let kids ← ifP (aCx i) (do
    cO z [[44]]
    let b ← dQ n
    pure [a,b]) [a]
   let x ← gZ z i (bW ts) kids
   cO z [[41]]
   pure x:PM Ex) ts
def uC:PM Col:=do
 let a ← gB z
 let k ← iJ z [[116,101,120,116],[110,117,109,98,101,114],[100,97,121],[102,108,97,103]] 1
 if ← fP [61] then
  let v ← wO z
  pure ⟨a,k,v⟩
 else pure ⟨a,k,vl0⟩
def yH:PM Trm:=do
 let a ← gB z
 let m ← iJ z [[101,113,117,97,108],[101,100,105,116],[106,97,99,99,97,114,100],[106,97,114,111],[110,101,97,114]] 1
 let tol ← ifP (m == 5) (rB z) 0
 cO z [[108,101,97,115,116]]
 let num ← rB z
 let den ← (do if ← fP [47] then rB z else pure 1:PM Int)
 cO z [[103,105,118,101,115]]
 let g ← rB z
 let tk ← (do if ← fP [116,97,107,101,115] then rB z else pure 0:PM Int)
 cO z [[59]]
 pure ⟨a,m,tol,num,den,g,tk⟩
def sQ:PM (aBs×aBs):=do
 let t ← gB z
 cO z [[46]]
 let a ← gB z
 pure (t,a)
def xV:PM Nmd:=do
 let n ← gB z
 cO z [[61]]
 let v ← wO z
 pure ⟨n,v⟩
def varP:PM Vr:=do
 let t ← gB z
 let n ← gB z
 pure ⟨n,t⟩
def tableP (x:It):PM It:=do
 cO z [[40]]
 let c ← nE [44] (uC z)
 cO z [[41],[107,101,121]]
 let l ← sY z
 pure { x with cols:=c,names:=l }
def aCz (x:It):PM It:=do
 cO z [[116,114,117,115,116]]
 let n ← rB z
 pure { x with n:=n }
def blockP (x:It):PM It:=do
 cO z [[111,110]]
 let p ← sQ z
 cO z [[98,121]]
 let b ← iJ z [[101,120,97,99,116],[116,111,107,101,110],[112,114,101,102,105,120],[115,107,101,116,99,104]] 1
 if b=3 then
  let n ← rB z
  pure { x with table:=p.1,attr:=p.2,by_:=b,n:=n }
 else if b=4 then
  let n ← rB z
  let m ← rB z
  pure { x with table:=p.1,attr:=p.2,by_:=b,n:=n,m:=m }
 else pure { x with table:=p.1,attr:=p.2,by_:=b }
def termsA:Nat->List Trm->PM (List Trm)
 | 0,acc=>pure acc
 | f+1,acc=>λts=>(if cJ [[125]] ts then pure acc else do
  let a ← yH z
  termsA f (acc++[a]):PM (List Trm)) ts
def matchP (x:It):PM It:=do
 cO z [[111,110]]
 let t ← gB z
 cO z [[97,116]]
 let n ← rB z
 cO z [[123]]
 let l ← (λts=>termsA z (ts.length+1) [] ts)
 pure { x with table:=t,n:=n,terms:=l }
def keepP (x:It):PM It:=do
 let p ← sQ z
 cO z [[98,121]]
 let b ← iJ z [[108,97,116,101,115,116],[109,111,115,116],[116,114,117,115,116,101,100],[108,111,110,103,101,115,116],[108,101,97,115,116],[103,114,101,97,116,101,115,116]] 1
 pure { x with table:=p.1,attr:=p.2,by_:=b }
def qP (x:It):PM It:=do
 cO z [[111,110]]
 let t ← gB z
 cO z [[40]]
 let l ← sY z
 cO z [[41]]
 pure { x with table:=t,names:=l }
def aC3 (x:It):PM It:=do
 let y ← qP z x
 cO z [[116,111]]
 let a ← gB z
 if ← fP [119,104,101,114,101] then
  let f ← nE [44] (xV z)
  pure { y with attr:=a,fixed:=f }
 else pure { y with attr:=a }
def aA4 (x:It):PM It:=do
 let p ← sQ z
 cO z [[105,110]]
 let q ← sQ z
 pure { x with table:=p.1,attr:=p.2,other:=q.1,oattr:=q.2 }
def denyP (x:It):PM It:=do
 let v ← nE [44] (varP z)
 let c ← vD z
 pure { x with vars:=v,conds:=c }
def queryP (x:It):PM It:=do
 cO z [[61]]
 let e ← dQ z 12
 pure { x with expr:=e }
def cU:List aBs:=[[116,97,98,108,101],[115,111,117,114,99,101],[98,108,111,99,107],[109,97,116,99,104],[107,101,101,112],[117,110,105,113,117,101],[100,101,112,101,110,100],[105,110,99,108,117,100,101],[100,101,110,121],[113,117,101,114,121]]
def uI (k:Int)(x:It):PM It :=
 if k=1 then tableP z x else if k=2 then aCz z x else if k=3 then blockP z x else if k=4 then matchP z x else if k=5 then keepP z x
 else if k=6 then qP z x else if k=7 then aC3 z x else if k=8 then aA4 z x else if k=9 then denyP z x else queryP z x
def pN:PM It:=λts=>(do
 let k ← iJ z cU 1
 let nm ← ifP (k != 5) (gB z) []
 let x ← uI z k { uJ with kind:=k,name:=nm,off:=bW ts }
 if k=4 then cO z [[125]] else cO z [[59]]
 pure x:PM It) ts
def kF:Nat->List It->List Tok->Except (Int×Nat) (List It)
 | 0,acc,_=>.ok acc
 | f+1,acc,ts=>match ts with
  | []=>.ok acc
  | t::r=>if acc.length=200 then .error (3,t.off) else match pN z (t::r) with
   | .error e=>.error e
   | .ok (x,q)=>kF f (acc++[x]) q
end
def oU (s:aBs):Except (Int×Nat) (List It):=match xO s with
 | .error e=>.error e
 | .ok ts=>kF s.length (ts.length+1) [] ts
theorem StillVC.aDa {α β:Type}{m:PM α}{f:α->PM β}{ts r:List Tok}{a:α}(h:m ts=.ok (a,r)):(m >>= f) ts=f a r:=by
 show(match m ts with|Except.error e=>Except.error e|Except.ok (a,r)=>f a r)=_
 rw[h]
theorem StillVC.aC9 {α β:Type}{m:PM α}{f:α->PM β}{ts:List Tok}{e:Int×Nat}(h:m ts=.error e):(m >>= f) ts=.error e:=by
 show(match m ts with|Except.error e=>Except.error e|Except.ok (a,r)=>f a r)=_
 rw[h]
theorem rD {z:Nat}{s:aBs}{ts:List Tok}(h:cJ [s] ts=true):namesU z s ts=.ok ([],ts):=if_pos h
theorem oE {z:Nat}{s:aBs}{ts:List Tok}(h:cJ [s] ts=false):namesU z s ts=sY z ts:=if_neg (by rw[h];decide)
theorem takeB_yes {s:aBs}{ts:List Tok}(h:cJ [s] ts=true):fP s ts=.ok (true,ts.tail):=by unfold fP;rw[if_pos h]
theorem takeB_no {s:aBs}{ts:List Tok}(h:cJ [s] ts=false):fP s ts=.ok (false,ts):=by unfold fP;rw[h];rfl
def mG (e:Int×Nat):List PanicEntry:=[{ v:=.iface 68 (.agg ⟨[iv e.1,iv e.2]⟩),recovered:=false }]
abbrev PSt (bp z:Nat)(w:Value)(tk:Item):List Item:=[box bp [w,iv z] 72,tk]
def TokOK (ts:List Tok):Prop:=∀ t∈ts,0<=t.num/\t.num<=10000000000
def dC (tk:Item)(w:Value)(ts:List Tok):Prop:=Reads tk 4 w ts.length (ts.flatMap sC)/\TokOK ts
def PEnd {α:Type}(B:Base)(bp z:Nat)(tk:Item)(n:Nat)(res:Except (Int×Nat) (α×List Tok))(V:α->Value->Prop):Ending->Heap->Prop :=
 Ends (λv h'=>∃ a r w,res=.ok (a,r)/\V a v/\r.length<=n/\dC tk w r/\Own B (PSt bp z w tk) h')
  (λc h'=>∃ e w,res=.error e/\c=mG e/\Own B (PSt bp z w tk) h')
def PSpec {α:Type}(g:FuncId)(args:Nat->aVs)(m:Nat->PM α)(V:α->Value->Prop):Prop :=
 ∀(B:Base) (bp z:Nat) (tk:Item) (w:Value) (ts:List Tok) (h:Heap),Own B (PSt bp z w tk) h->dC tk w ts->ts.length<=5000->Spec Tryz.prog g (args bp) h (PEnd B bp z tk ts.length (m z ts) V)
theorem PSpec.call {α:Type}{g:FuncId}{args:Nat->aVs}{m:Nat->PM α}{V:α->Value->Prop}(sp:PSpec g args m V) {s:aVs}{h:Heap}{K:KK}{Q:QQ}{B:Base}{bp z:Nat}{tk:Item}{w:Value}{ts:List Tok}
  (o:Own B (PSt bp z w tk) h) (hR:dC tk w ts) (hl:ts.length<=5000)
  (hret:∀ a r w' v h',m z ts=.ok (a,r)->V a v->r.length<=ts.length->dC tk w' r->Own B (PSt bp z w' tk) h'->K v false h')
  (hpan:∀ e w' h',m z ts=.error e->Own B (PSt bp z w' tk) h'->Q (.panic (mG e)) s h'):CallVC Tryz.prog g (args bp) s h K Q :=
 aDO (sp B bp z tk w ts h o hR hl) (λ_ _ ⟨_,_,_,h1,h2,h3,h4,h5⟩=>hret _ _ _ _ _ h1 h2 h3 h4 h5) (λ_ _ ⟨_,_,h1,h2,h3⟩=>by subst h2;exact hpan _ _ _ h1 h3)
theorem mL (e:Int)(bp z:Nat)(w:Value)(ts:List Tok)(h:Heap)(h0:bI h ⟨bp,0,none⟩=some w)(h1:bI h ⟨bp,1,none⟩=some (iv z))(hA:aY 4 h w ts.length (ts.flatMap sC)) :
  Spec Tryz.prog 27 [pv bp 0,iv e] h (Ends (λ_ _=>False) λc h'=>c=mG (aBR z e ts)/\Own h [] h'):=by
 refine eN Tryz.func27 Tryz.ntmps27 ?_;have o0:=Own.refl h;cases ts with
 | nil =>
  refine cB ?_;refine fB gV ?_;refine rR (load1 fS rfl zA ?_);refine rR (aDw hA gW ?_);refine aDK (cB ?_);refine fB gV ?_;refine rR (load1 aK rfl zA ?_);refine rR (aDd st68 ?_);refine aI rfl ?_;refine aI rfl ?_;refine rR (aDE con68 rfl ?_);refine RunVC.panicI rfl ?_
  exact⟨rfl,o0⟩
 | cons t r =>
  have hx:(t::r)[0]?=some t:=rfl;have hln:(t::r).length=r.length+1:=rfl;refine cB ?_;refine fB gV ?_;refine rR (load1 fS rfl zA ?_);refine rR (aDw hA gW ?_);refine bA λc24=>cB ?_;refine fB gV ?_;refine rR (load1 fS rfl zA ?_);refine rR (aDe gW bR hA rfl zO zO ?_);refine rR (aDf hA zO fU rfl rfl rfl ?_);refine rR (aDl hA aK (λ_=>rfl) rfl zA rfl ?_);refine rR (aDd st68 ?_);refine aI rfl ?_;refine aI rfl ?_;refine rR (aDE con68 rfl ?_);refine RunVC.panicI rfl ?_
  exact⟨rfl,o0⟩
theorem yI:∀(ss:List aBs)(ts:List Tok),ts.length<ss.length->cJ ss ts=false
 | [],_,h=>absurd h (Nat.not_lt_zero _)
 | _::_,[],_=>rfl
 | s::ss,t::ts,h=>by
  rw[cJ,yI ss ts (by simpa using h),aED]
theorem seesB_step {ss:List aBs}{ts:List Tok}{i:Nat}{s:aBs}{t:Tok}(hs:ss[i]?=some s)(ht:ts[i]?=some t):cJ (ss.drop i) (ts.drop i)=(wordB t s&&cJ (ss.drop (i+1)) (ts.drop (i+1))):=by
 obtain⟨h1,rfl⟩:=aDZ.1 hs
 obtain⟨h2,rfl⟩:=aDZ.1 ht
 rw[aD8 h1,aD8 h2,cJ]
theorem bZ (ss:List aBs)(vs:Value)(bp:Nat)(w:Value)(ts:List Tok)(h:Heap)(h0:bI h ⟨bp,0,none⟩=some w)(hA:aY 4 h w ts.length (ts.flatMap sC))(hS:Arr h vs (strs ss))(hl:ts.length<=5000) :
  bG Tryz.prog 111 [pv bp 0,vs] h λv h'=>v=.bool (cJ ss ts)/\Own h [] h':=by
 refine eN Tryz.func111 Tryz.ntmps111 ?_;have o0:=Own.refl h;by_cases hlt:ts.length<ss.length
 ·rw[yI ss ts hlt]
  have hsl:(strs ss).length=ss.length:=by simp[strs]
  refine cB ?_;refine fB gV ?_;refine rR (load1 fS rfl zA ?_);refine rR (aDw hA gW ?_);refine rR (aDv hS zA aB ?_);refine bB λc15=>rO ?_
  exact⟨rfl,o0⟩
 have hsl:(strs ss).length=ss.length:=by simp[strs]
 refine cB ?_;refine fB gV ?_;refine rR (load1 fS rfl zA ?_);refine rR (aDw hA gW ?_);refine rR (aDv hS zA aB ?_);refine bA λc25=>rR (aDv hS zA aB ?_);refine aDT [4,5,6,7,18,19,20,21,22,23,24,25,26,27,28,29,30,31,32,33,34,35,36,37,38,39,40,41,42,43,44] [18] (λvs hh=>∃(i:Nat),i<=ss.length/\vs=[.int .i64 i]/\cJ (ss.drop i) (ts.drop i)=cJ ss ts/\Own h [] hh) (λvs _=>match vs with|[.int _ i]=>ss.length - i.toNat|_=>0) ?_ ?_
 ·exact⟨0,by omega,rfl,rfl,o0⟩
 ·rintro vs junk hh ⟨i,hi,rfl,hE,oh⟩
  by_cases hlt2:i<ss.length
  ·obtain⟨s,hs⟩:=getx hlt2
   obtain⟨t,ht⟩:=getx (show i<ts.length by omega)
   have hss:(strs ss)[i]?=some (sv s):=by simp[strs,hs]
   rw[seesB_step hs ht]at hE
   by_cases hw:t.text=s
   ·by_cases hk:t.kind=1∨t.kind=4
    ·have hb:wordB t s=true:=decide_eq_true ⟨hw,hk⟩
     rw[hb,aEq]at hE
     refine bB λc30=>rR (idx aB aC (hS.ext oh.ext) rfl zO zO ?_);refine rR (aDq (hS.ext oh.ext) aC rfl a_ ?_);refine cB ?_;refine fB gV ?_;refine rR (load1 fS rfl (oh.old h0) ?_);refine rR (aDe gW bR (hA.ext oh.ext) rfl zO zO ?_);refine rR (aDg bR (hA.ext oh.ext) (λ_=>rfl) zD rfl zA ?_);refine aDH oh bR λb38 m38 o38=>?_;(refine sA o38 0 bR ?_;intro m39 o39);refine fB fU ?_;refine oB o39 0 aC ?_;refine bC λc42=>fB fU ?_;refine oB o39 0 aK ?_;refine Br.ndec (λc45=>?_) (λc45=>?_);refine fB fU ?_;refine oB o39 0 aK ?_;refine bC λc48=>aR ?_
     refine⟨rfl,?_⟩
     rotate_left
     refine aDL (aR ?_)
     refine⟨rfl,?_⟩
     all_goals exact⟨⟨i+1,by omega,rfl,hE,o_ []⟩,by simp;omega⟩
    ·have hb:wordB t s=false:=decide_eq_false (λe=>hk e.2)
     rw[hb,aEu]at hE
     rw[← hE]
     refine bB λc50=>rR (idx aB aC (hS.ext oh.ext) rfl zO zO ?_);refine rR (aDq (hS.ext oh.ext) aC rfl a_ ?_);refine cB ?_;refine fB gV ?_;refine rR (load1 fS rfl (oh.old h0) ?_);refine rR (aDe gW bR (hA.ext oh.ext) rfl zO zO ?_);refine rR (aDg bR (hA.ext oh.ext) (λ_=>rfl) zD rfl zA ?_);refine aDH oh bR λb58 m58 o58=>?_;(refine sA o58 0 bR ?_;intro m59 o59);refine fB fU ?_;refine oB o59 0 aC ?_;refine bC λc62=>fB fU ?_;refine oB o59 0 aK ?_;refine bD λc65=>fB fU ?_;refine oB o59 0 aK ?_;refine bD λc68=>rO ?_
     exact⟨rfl,o_ []⟩
   ·have hb:wordB t s=false:=decide_eq_false (λe=>hw e.1)
    rw[hb,aEu]at hE
    rw[← hE]
    refine bB λc70=>rR (idx aB aC (hS.ext oh.ext) rfl zO zO ?_);refine rR (aDq (hS.ext oh.ext) aC rfl a_ ?_);refine cB ?_;refine fB gV ?_;refine rR (load1 fS rfl (oh.old h0) ?_);refine rR (aDe gW bR (hA.ext oh.ext) rfl zO zO ?_);refine rR (aDg bR (hA.ext oh.ext) (λ_=>rfl) zD rfl zA ?_);refine aDH oh bR λb78 m78 o78=>?_;(refine sA o78 0 bR ?_;intro m79 o79);refine fB fU ?_;refine oB o79 0 aC ?_;refine bD λc82=>aDK ?_;refine rO ?_
    exact⟨rfl,o_ []⟩
  ·have hb:ss.drop i=[]:=aEt zO
   rw[hb]at hE
   rw[← hE]
   refine bA λc90=>rO ?_
   exact⟨rfl,oh⟩
theorem dC.tail {tk:Item}{v:Value}{t:Tok}{r:List Tok}(a:Reads tk 4 v ((t::r).length - 1) (((t::r).flatMap sC).drop 4))(k:TokOK (t::r)):dC tk v r:=⟨a,λx hx=>k x (List.mem_cons_of_mem _ hx)⟩
def tQ (B:Base)(v:Value)(ss:List aBs):Prop:=∀ L h,Own B L h->Arr h v (strs ss)
theorem cZ (s:aBs):PSpec 104 (λbp=>[pv bp 0,sv s]) (λ_=>fP s) (λb v=>v=.bool b):=by
 intro B bp z tk w ts h o hR hl
 obtain⟨hR,hK⟩:=hR
 refine eN Tryz.func104 Tryz.ntmps104 ?_;refine lA o aB aC λb10 m10 o10=>?_;refine aDN (bZ [s] _ bp w ts _ (Own.cellB zA 0 rfl 0) (Own.reads zA 1 hR rfl) (Own.boxArr zA 2 rfl rfl zD) hl) ?_;rintro _ h1 ⟨rfl,oc⟩;have o1:=oc.thenE zA;clear oc;cases hb:cJ [s] ts with
 | false =>
  refine aDK (rO ?_)
  exact⟨false,ts,w,takeB_no hb,rfl,aD6 _,⟨hR,hK⟩,o_ [0,1]⟩
 | true =>
  have ht:=takeB_yes hb;cases ts with
  | nil=>cases hb
  | cons t r =>
   have hln:(t::r).length=r.length+1:=rfl;refine aDL (cB ?_);refine fB gV ?_;refine oB o1 0 fS ?_;(refine rR (sliceTok gW bR hR (o1.satK 1 rfl) rfl zO zO ?_);intro v33 a33);refine cB ?_;refine fB gV ?_
   obtain⟨va,vc,rfl⟩:=Reads.isS zA (Own.satK o1 1 rfl)
   (refine sB o1 0 fS ?_;intro m40 o40);refine rO ?_
   exact⟨true,r,_,ht,rfl,by omega,dC.tail zA hK,o_ [0,1]⟩
theorem uS (k:Int):PSpec 105 (λbp=>[pv bp 0,iv k]) (λz=>oW z k) (λt v=>v=.agg ⟨sC t⟩/\0<=t.num/\t.num<=10000000000):=by
 intro B bp z tk w ts h o hR hl
 obtain⟨hR,hK⟩:=hR
 refine eN Tryz.func105 Tryz.ntmps105 ?_;cases ts with
 | nil =>
  refine aDH o bR λb10 m10 o10=>?_;refine cB ?_;refine fB gV ?_;refine oB o10 0 fS ?_;refine rR (aDw (o10.reads 1 hR rfl) gW ?_);refine aDK (aDK ?_);refine aDO (mL 4 bp z w [] _ (Own.cellB zA 0 rfl 0) (Own.cellB zA 0 rfl 1) (Own.reads zA 1 hR rfl)) (λ_ _ h=>h.elim) (λc h4 ⟨hc,ho⟩=>?_)
  exact⟨(7,z),w,rfl,hc,(ho.thenE zA).sel [0,1] rfl⟩
 | cons t r =>
  have hx:(t::r)[0]?=some t:=rfl;have hln:(t::r).length=r.length+1:=rfl;by_cases hk:t.kind=k
  ·have hm:oW z k (t::r)=.ok (t,r):=if_pos hk
   refine aDH o bR λb30 m30 o30=>?_;refine cB ?_;refine fB gV ?_;refine oB o30 0 fS ?_;refine rR (aDw (o30.reads 1 hR rfl) gW ?_);refine bA λc35=>cB ?_;refine fB gV ?_;refine oB o30 0 fS ?_;refine rR (aDe gW bR (o30.reads 1 hR rfl) rfl zO zO ?_);refine rR (aDf (o30.reads 1 hR rfl) zO fU rfl rfl rfl ?_);refine rR (aDl (o30.reads 1 hR rfl) aK (λ_=>rfl) rfl zA rfl ?_);refine bC λc42=>cB ?_;refine fB gV ?_;refine oB o30 0 fS ?_;refine rR (aDe gW bR (o30.reads 1 hR rfl) rfl zO zO ?_);refine rR (aDg bR (o30.reads 1 hR rfl) (λ_=>rfl) zD rfl zA ?_);refine aDH o30 bR λb48 m48 o48=>?_;(refine sA o48 3 bR ?_;intro m49 o49);refine cB ?_;refine fB gV ?_;refine oB o49 0 fS ?_;(refine rR (sliceTok gW bR hR (o49.satK 1 rfl) rfl zO zO ?_);intro v53 a53);refine cB ?_;refine fB gV ?_
   obtain⟨va,vc,rfl⟩:=Reads.isS zA (Own.satK o 1 rfl)
   (refine sB o49 0 fS ?_;intro m60 o60);refine nB o60 3 bR ?_;(refine sA o60 2 bR ?_;intro m62 o62)
   first|refine r1_ o62 2 bR ?_|refine r2_ o62 2 bR ?_
   exact⟨t,r,_,hm,⟨rfl,hK t zS⟩,by omega,dC.tail zA hK,o_ [0,1]⟩
  ·have hm:oW z k (t::r)=.error (4,t.off):=if_neg hk
   refine aDH o bR λb70 m70 o70=>?_;refine cB ?_;refine fB gV ?_;refine oB o70 0 fS ?_;refine rR (aDw (o70.reads 1 hR rfl) gW ?_);refine bA λc75=>cB ?_;refine fB gV ?_;refine oB o70 0 fS ?_;refine rR (aDe gW bR (o70.reads 1 hR rfl) rfl zO zO ?_);refine rR (aDf (o70.reads 1 hR rfl) zO fU rfl rfl rfl ?_);refine rR (aDl (o70.reads 1 hR rfl) aK (λ_=>rfl) rfl zA rfl ?_);refine bD λc82=>aDO (mL 4 bp z w (t::r) _ (Own.cellB zA 0 rfl 0) (Own.cellB zA 0 rfl 1) (Own.reads zA 1 hR rfl)) (λ_ _ h=>h.elim) (λc h4 ⟨hc,ho⟩=>?_)
   exact⟨(4,t.off),w,hm,hc,(ho.thenE zA).sel [0,1] rfl⟩
theorem needP_step {z:Nat}{ss:List aBs}{i:Nat}{s:aBs}(hs:ss[i]?=some s):cO z (ss.drop i)=(need1 z s >>= λ_=>cO z (ss.drop (i+1))):=by
 obtain⟨h1,rfl⟩:=aDZ.1 hs
 rw[aD8 h1]
 rfl
theorem need1_yes (z:Nat) {s:aBs}{ts r:List Tok}(h:fP s ts=.ok (true,r)):need1 z s ts=.ok ((),r):=aDa h
theorem need1_no (z:Nat) {s:aBs}{ts r:List Tok}(h:fP s ts=.ok (false,r)):need1 z s ts=.error (aBR z 4 r):=aDa h
theorem dX (s:aBs)(ts:List Tok)(e:Int×Nat):fP s ts≠.error e:=by
 unfold fP;split<;>simp
theorem jO {s:aBs}{ts r:List Tok}(h:fP s ts=.ok (false,r)):ts=r:=by
 unfold fP at h;split at h
 ·cases h
 ·injection h with h;injection h
theorem pneed_spec (ss:List aBs)(vs:Value)(B:Base)(bp z:Nat)(tk:Item)(w:Value)(ts:List Tok)(h:Heap)(hS:tQ B vs ss)(o:Own B (PSt bp z w tk) h)(hR:dC tk w ts)(hl:ts.length<=5000)(hsl:ss.length<=100) :
  Spec Tryz.prog 67 [pv bp 0,vs] h (PEnd B bp z tk ts.length (cO z ss ts) (λ_ v=>v=.tuple ⟨[]⟩)):=by
 refine eN Tryz.func67 Tryz.ntmps67 ?_;have hA:=hS _ _ o;have hln:(strs ss).length=ss.length:=by simp[strs]
 refine rR (aDv hA zA aB ?_);refine aDT [5,8,9,10,11,12,13,14,15,16,17,18] [8] (λvs hh=>∃(i:Nat) (w':Value) (ts':List Tok),i<=ss.length/\vs=[.int .i64 i]/\ts'.length<=ts.length/\cO z (ss.drop i) ts'=cO z ss ts/\dC tk w' ts'/\Own B (PSt bp z w' tk) hh) (λvs _=>match vs with|[.int _ i]=>ss.length - i.toNat|_=>0) ?_ ?_
 ·exact⟨0,w,ts,by omega,rfl,aD6 _,rfl,hR,o⟩
 ·rintro vs junk hh ⟨i,w',ts',hi,rfl,hle,hE,hR',oh⟩
  have hA:=hS _ _ oh;by_cases hlt:i<ss.length
  ·obtain⟨s,hs⟩:=getx hlt
   have hss:(strs ss)[i]?=some (sv s):=by simp[strs,hs]
   rw[needP_step hs]at hE
   refine bB λc20=>rR (idx aB aC hA rfl zO zO ?_);refine rR (aDq hA aC rfl a_ ?_)
   refine(cZ s).call oh hR' zO (λa r w2 v h2 hm hv hle2 hR2 o2=>?_) (λe w2 h2 hm o2=>?_)
   ·subst hv
    cases a with
    | true =>
     rw[aDa (need1_yes z hm)]at hE
     refine aDL (aR ?_)
     refine⟨rfl,?_⟩
     exact⟨⟨i+1,w2,r,by omega,rfl,by omega,hE,hR2,o2⟩,by simp;omega⟩
    | false =>
     obtain rfl:=jO hm
     rw[aC9 (need1_no z hm)]at hE
     refine aDK (aDO (mL 4 bp z w2 ts' _ (Own.cellB zA 0 rfl 0) (Own.cellB zA 0 rfl 1) (Own.reads zA 1 hR2.1 rfl)) (λ_ _ h=>h.elim) (λc h4 ⟨hc,ho⟩=>?_))
     exact⟨_,w2,hE.symm,hc,(ho.thenE o2).sel [0,1] rfl⟩
   ·exact absurd hm (dX s ts' e)
  ·have hd:ss.drop i=[]:=aEt zO
   rw[hd]at hE
   refine bA λc60=>aDS rfl ?_
   exact⟨(),ts',w',hE.symm,rfl,hle,hR',oh⟩
theorem dA:PSpec 56 (λbp=>[pv bp 0]) (λz=>gB z) (λt v=>v=sv t):=by
 intro B bp z tk w ts h o hR hl;refine eN Tryz.func56 Tryz.ntmps56 ?_
 refine(uS 1).call o hR hl (λa r w' v h' hm hv hle hR' o'=>?_) (λe w' h' hm o'=>?_)
 ·obtain⟨rfl,hv⟩:=hv
  refine rR (fieldV fU rfl rfl rfl rfl ?_);refine rO ?_
  exact⟨_,r,w',aDa hm,rfl,hle,hR',o_ [0,1]⟩
 ·exact⟨e,w',aC9 hm,rfl,o'⟩
theorem cK:PSpec 109 (λbp=>[pv bp 0]) (λz=>rB z) (λn v=>v=iv n/\0<=n/\n<=10000000000):=by
 intro B bp z tk w ts h o hR hl;refine eN Tryz.func109 Tryz.ntmps109 ?_
 refine(uS 2).call o hR hl (λa r w' v h' hm hv hle hR' o'=>?_) (λe w' h' hm o'=>?_)
 ·obtain⟨rfl,hv⟩:=hv
  refine rR (fieldV fU rfl rfl rfl rfl ?_);refine rO ?_
  exact⟨_,r,w',aDa hm,⟨rfl,hv⟩,hle,hR',o_ [0,1]⟩
 ·exact⟨e,w',aC9 hm,rfl,o'⟩
theorem wordP_step {z:Nat}{ss:List aBs}{i:Nat}{s:aBs}{k:Int}(hs:ss[i]?=some s):iJ z (ss.drop i) k=(fP s >>= λb=>if b=true then pure k else iJ z (ss.drop (i+1)) (k+1)):=by
 obtain⟨h1,rfl⟩:=aDZ.1 hs
 rw[aD8 h1]
 rfl
theorem word1_spec (s:aBs)(pb:Nat)(B:Base)(bp z:Nat)(tk:Item)(w:Value)(ts:List Tok)(h:Heap)(o:Own B [box bp [w,iv z] 72,tk,box pb [pv bp 0] 70] h)(hR:dC tk w ts)(hl:ts.length<=5000) :
  bG Tryz.prog 103 [sv s,pv pb 0] h λv h'=>∃ b r w',fP s ts=.ok (b,r)/\v=.bool b/\r.length<=ts.length/\dC tk w' r/\Own B [box bp [w',iv z] 72,tk,box pb [pv bp 0] 70] h':=by
 refine eN Tryz.func103 Tryz.ntmps103 ?_;refine oB o 2 mJ ?_
 refine(cZ s).call (o.lend [0,1] [2] rfl) hR hl (λa r w2 v h2 hm hv hle hR2 o2=>?_) (λe w2 h2 hm o2=>?_)
 ·subst hv
  have o3:=o2.back;refine rO ?_
  exact⟨a,r,w2,hm,rfl,hle,hR2,o3.sel [0,1,2] rfl⟩
 ·exact absurd hm (dX s ts e)
theorem indexW_spec (ss:List aBs)(vs:Value)(pb:Nat)(B:Base)(bp z:Nat)(tk:Item)(w:Value)(ts:List Tok)(h:Heap)(hS:tQ B vs ss)(o:Own B [box bp [w,iv z] 72,tk,box pb [pv bp 0] 70] h)(hR:dC tk w ts)(hl:ts.length<=5000)(hsl:ss.length<=100) :
  bG Tryz.prog 102 [vs,.func (.func 103) ⟨[]⟩ ⟨[pv pb 0]⟩] h λv h'=>∃(j:Int) (r:List Tok) (w':Value),v=iv j/\r.length<=ts.length/\dC tk w' r /\
   ((0<=j/\j<=100/\iJ z ss 1 ts=.ok (j+1,r))∨(j=-1/\iJ z ss 1 ts=.error (aBR z 4 r)))/\Own B [box bp [w',iv z] 72,tk,box pb [pv bp 0] 70] h':=by
 refine eN Tryz.func102 Tryz.ntmps102 ?_;have hA:=hS _ _ o;have hln:(strs ss).length=ss.length:=by simp[strs]
 refine rR (aDv hA zA aB ?_);refine aDT [4,5,8,9,10,11,12,13,14,15,16,17,18] [8] (λvs hh=>∃(i:Nat) (w':Value),i<=ss.length/\vs=[.int .i64 i]/\iJ z (ss.drop i) (i+1) ts=iJ z ss 1 ts/\dC tk w' ts/\Own B [box bp [w',.int .i64 z] 72,tk,box pb [pv bp 0] 70] hh) (λvs _=>match vs with|[.int _ i]=>ss.length - i.toNat|_=>0) ?_ ?_
 ·exact⟨0,w,by omega,rfl,rfl,hR,o⟩
 ·rintro vs' junk hh ⟨i,w',hi,rfl,hE,hR',oh⟩
  have hA:=hS _ _ oh;by_cases hlt:i<ss.length
  ·obtain⟨s,hs⟩:=getx hlt
   have hss:(strs ss)[i]?=some (sv s):=by simp[strs,hs]
   rw[wordP_step hs]at hE
   refine bB λc20=>aDU ?_;refine rR (idx aB aC hA rfl zO zO ?_);refine rR (aDq hA aC rfl a_ ?_);refine aDN (word1_spec s pb B bp z tk w' ts _ oh hR' hl) ?_;rintro _ h2 ⟨b,r,w2,hm,rfl,hle,hR2,o2⟩
   rw[aDa hm]at hE
   cases b with
   | true =>
    refine aDK (rO ?_)
    exact⟨i,r,w2,rfl,hle,hR2,.inl ⟨by omega,by omega,hE.symm⟩,o2⟩
   | false =>
    obtain rfl:=jO hm;refine aDL (aR ?_)
    refine⟨rfl,?_⟩
    exact⟨⟨i+1,w2,by omega,rfl,hE,hR2,o2⟩,by simp;omega⟩
  ·have hd:ss.drop i=[]:=aEt zO
   rw[hd]at hE
   refine bA λc60=>rO ?_
   exact⟨-1,ts,w',rfl,aD6 _,hR',.inr ⟨rfl,hE.symm⟩,oh⟩
theorem aAJ (ss:List aBs)(vs:Value)(B:Base)(bp z:Nat)(tk:Item)(w:Value)(ts:List Tok)(h:Heap)(hS:tQ B vs ss)(o:Own B (PSt bp z w tk) h)(hR:dC tk w ts)(hl:ts.length<=5000)(hsl:ss.length<=100) :
  Spec Tryz.prog 55 [pv bp 0,vs] h (PEnd B bp z tk ts.length (iJ z ss 1 ts) (λi v=>v=iv i)):=by
 refine eN Tryz.func55 Tryz.ntmps55 ?_;refine xB o λb10 m10 o10=>?_;refine rR (aDp ?_);refine aDN (indexW_spec ss vs b10 B bp z tk w ts _ hS zA hR hl hsl) ?_;rintro _ h2 ⟨j,r,w2,rfl,hle,hR2,hj,o2⟩
 rcases hj with ⟨hj0,hj1,hm⟩|⟨rfl,hm⟩
 ·refine bA λc20=>?_
  refine aR (rO ?_)
  exact⟨j+1,r,w2,hm,rfl,hle,hR2,o2.sel [0,1] rfl⟩
 ·refine aDK ?_
  refine oB o2 2 mJ ?_;refine aDO (mL 4 bp z w2 r _ (Own.cellB zA 0 rfl 0) (Own.cellB zA 0 rfl 1) (Own.reads zA 1 hR2.1 rfl)) (λ_ _ h=>h.elim) (λc h4 ⟨hc,ho⟩=>?_)
  exact⟨_,w2,hm,hc,(ho.thenE o2).sel [0,1] rfl⟩
def dP {α:Type}(B:Base)(bp z:Nat)(tk:Item)(n:Nat)(res:Except (Int×Nat) (α×List Tok))(V:α->Value->Item->Prop):Ending->Heap->Prop :=
 Ends (λv h'=>∃ a r w I,res=.ok (a,r)/\V a v I/\r.length<=n/\dC tk w r/\Own B [box bp [w,iv z] 72,tk,I] h')
  (λc h'=>∃ e w,res=.error e/\c=mG e/\Own B (PSt bp z w tk) h')
theorem dP.call {α:Type}{g:FuncId}{args:aVs}{s:aVs}{h:Heap}{K:KK}{Q:QQ}{B:Base}{bp z:Nat}{tk:Item}{n:Nat}{res:Except (Int×Nat) (α×List Tok)}{V:α->Value->Item->Prop}
  (sp:Spec Tryz.prog g args h (dP B bp z tk n res V))
  (hret:∀ a r w' v I h',res=.ok (a,r)->V a v I->r.length<=n->dC tk w' r->Own B [box bp [w',iv z] 72,tk,I] h'->K v false h')
  (hpan:∀ e w' h',res=.error e->Own B (PSt bp z w' tk) h'->Q (.panic (mG e)) s h'):CallVC Tryz.prog g args s h K Q :=
 aDO sp (λ_ _ ⟨_,_,_,_,h1,h2,h3,h4,h5⟩=>hret _ _ _ _ _ _ h1 h2 h3 h4 h5) (λ_ _ ⟨_,_,h1,h2,h3⟩=>by subst h2;exact hpan _ _ _ h1 h3)
theorem PEnd.call {α:Type}{g:FuncId}{args:aVs}{s:aVs}{h:Heap}{K:KK}{Q:QQ}{B:Base}{bp z:Nat}{tk:Item}{n:Nat}{res:Except (Int×Nat) (α×List Tok)}{V:α->Value->Prop}
  (sp:Spec Tryz.prog g args h (PEnd B bp z tk n res V))
  (hret:∀ a r w' v h',res=.ok (a,r)->V a v->r.length<=n->dC tk w' r->Own B (PSt bp z w' tk) h'->K v false h')
  (hpan:∀ e w' h',res=.error e->Own B (PSt bp z w' tk) h'->Q (.panic (mG e)) s h'):CallVC Tryz.prog g args s h K Q :=
 aDO sp (λ_ _ ⟨_,_,_,h1,h2,h3,h4,h5⟩=>hret _ _ _ _ _ h1 h2 h3 h4 h5) (λ_ _ ⟨_,_,h1,h2,h3⟩=>by subst h2;exact hpan _ _ _ h1 h3)
theorem pZ {s:aBs}{ts r:List Tok}(h:fP s ts=.ok (true,r)):r.length+1=ts.length:=by
 unfold fP at h;split at h
 ·rename_i hs
  cases ts with
  | nil=>cases hs
  | cons t q=>injection h with h;injection h with _ h;subst h;rfl
 ·injection h with h;injection h with h;cases h
theorem qL {α:Type}{sep:aBs}{one:PM α}{f:Nat}{acc:List α}{ts r:List Tok}(h:fP sep ts=.ok (true,r)):listA sep one (f+1) acc ts=(one >>= λa=>listA sep one f (acc++[a])) r:=by
 rw[listA,aDa h]
 rfl
theorem tD {α:Type}{sep:aBs}{one:PM α}{f:Nat}{acc:List α}{ts r:List Tok}(h:fP sep ts=.ok (false,r)):listA sep one (f+1) acc ts=.ok (acc,r):=by
 rw[listA,aDa h]
 rfl
def sD (s:aBs):aVs:=[sv s]
def vlC (x:Vl):aVs:=[iv x.k,iv x.n,sv x.t]
def opdC (x:Opd):aVs:=[sv x.var,sv x.attr,.bool x.con,iv x.val.k,iv x.val.n,sv x.val.t]
def nN (x:Cnd):aVs:=[sv x.left.var,sv x.left.attr,.bool x.left.con,iv x.left.val.k,iv x.left.val.n,sv x.left.val.t,iv x.op,sv x.right.var,sv x.right.attr,.bool x.right.con,iv x.right.val.k,iv x.right.val.n,sv x.right.val.t,iv x.add]
def vE (x:Col):aVs:=[sv x.name,iv x.kind,iv x.dflt.k,iv x.dflt.n,sv x.dflt.t]
def wP (x:Trm):aVs:=[sv x.attr,iv x.measure,iv x.tol,iv x.num,iv x.den,iv x.gives,iv x.takes]
def xH (x:Nmd):aVs:=[sv x.name,iv x.val.k,iv x.val.n,sv x.val.t]
def vrC (x:Vr):aVs:=[sv x.name,sv x.table]
theorem listS_spec (g:FuncId)(one:Nat->PM aBs)(hone:PSpec g (λbp=>[pv bp 0]) one (λa v=>v=sv a))(sep:aBs)(B:Base)(bp z:Nat)(tk:Item)(w:Value)(ts:List Tok)(h:Heap)(o:Own B (PSt bp z w tk) h)(hR:dC tk w ts)(hl:ts.length<=5000) :
  Spec Tryz.prog 142 [pv bp 0,sv sep,.func (.func g) ⟨[pv bp 0]⟩ ⟨[]⟩] h (dP B bp z tk ts.length (nE sep (one z) ts) (λl v I=>l.length<=5001/\I=row v 9 1 l.length (l.flatMap sD))):=by
 refine eN Tryz.func142 Tryz.ntmps142 ?_;generalize hres:nE sep (one z) ts=res;refine aDU ?_;refine hone.call o hR hl (λa r w1 v h1 hm hv hle hR1 o1=>?_) (λe w1 h1 hm o1=>⟨e,w1,(hres.symm.trans (aC9 hm)),rfl,o1⟩);subst hv;have hE:listA sep (one z) (r.length+1) [a] r=res:=(aDa (f:=λa ts=>listA sep (one z) (ts.length+1) [a] ts) hm).symm.trans hres;refine lA o1 aB aC λb20 m20 o20=>?_;have or:=Own.boxRow zA 2 rfl 1 1 1 rfl (aD6 _) zD;refine aDT [7,11,12,13,14,15,16,17,18] [7] (λvs hh=>∃(f:Nat) (acc:List aBs) (q:List Tok) (w':Value) (va:Option Addr) (vc:Nat),vs=[.slice va acc.length vc]/\listA sep (one z) f acc q=res/\q.length<f/\1<=acc.length/\acc.length+q.length<=ts.length+1/\dC tk w' q/\Own B [box bp [w',.int .i64 z] 72,tk,row (.slice va acc.length vc) 9 1 acc.length (acc.flatMap sD)] hh) (λvs _=>match vs with|[.slice _ n _]=>6000 - n|_=>0) ?_ ?_
 ·exact⟨r.length+1,[a],r,w1,_,_,rfl,hE,by omega,by simp,by simp;omega,hR1,or⟩
 ·rintro vs junk hh ⟨f,acc,q,w',va,vc,rfl,hE,hf,hac1,hac,hR',oh⟩
  obtain⟨f,rfl⟩:∃ f',f=f'+1:=⟨f - 1,by omega⟩
  refine(cZ sep).call (oh.lend [0,1] [2] rfl) hR' zO (λb q2 w2 v h2 hm hv hle2 hR2 o2=>?_) (λe w2 h2 hm o2=>absurd hm (dX sep q e))
  subst hv;have o2:=o2.back;cases b with
  | false =>
   rw[tD hm]at hE
   refine aDL (rO ?_)
   refine⟨acc,q2,w2,_,hE.symm,⟨by omega,rfl⟩,by omega,hR2,o2.sel [0,1,2] rfl⟩
  | true =>
   have hlt:=pZ hm
   rw[qL hm]at hE
   refine aDK (aDU ?_);refine hone.call (o2.lend [0,1] [2] rfl) hR2 zO (λa r3 w3 v h3 hm3 hv hle3 hR3 o3=>?_) (λe w3 h3 hm3 o3=>⟨e,w3,(hE.symm.trans (aC9 hm3)),rfl,o3.back.sel [0,1] rfl⟩);subst hv
   rw[aDa hm3]at hE
   have o3:=o3.back;refine lA o3 aB aC λb60 m60 o60=>?_;(refine aDI o60 2 rfl aB aC zD (o60.boxArr 3 rfl zS zS).toN c_ (by simp only[maxLen];first|omega|(simp;omega)) w_ ?_;intro v61 m61 o61)
   refine⟨rfl,?_⟩
   obtain⟨ua,uc,rfl⟩:=o61.rowIs 2 rfl
   refine⟨⟨f,acc++[a],r3,w3,ua,uc,by simp,hE,by omega,by simp,by simp;omega,hR3,?_⟩,by simp;omega⟩
   have e1:(acc++[a]).flatMap sD=acc.flatMap sD++sD a:=by rw[aEy,aEf,List.flatMap_nil,aD7]
   have e2:(acc++[a]).length=acc.length+1:=by simp
   rw[e1,e2]
   exact o_ [0,1,2]
theorem listC_spec (g:FuncId)(one:Nat->PM Cnd)(hone:PSpec g (λbp=>[pv bp 0]) one (λa v=>v=.agg ⟨nN a⟩))(sep:aBs)(B:Base)(bp z:Nat)(tk:Item)(w:Value)(ts:List Tok)(h:Heap)(o:Own B (PSt bp z w tk) h)(hR:dC tk w ts)(hl:ts.length<=5000) :
  Spec Tryz.prog 143 [pv bp 0,sv sep,.func (.func g) ⟨[pv bp 0]⟩ ⟨[]⟩] h (dP B bp z tk ts.length (nE sep (one z) ts) (λl v I=>l.length<=5001/\I=row v 142 14 l.length (l.flatMap nN))):=by
 refine eN Tryz.func143 Tryz.ntmps143 ?_;generalize hres:nE sep (one z) ts=res;refine aDU ?_;refine hone.call o hR hl (λa r w1 v h1 hm hv hle hR1 o1=>?_) (λe w1 h1 hm o1=>⟨e,w1,(hres.symm.trans (aC9 hm)),rfl,o1⟩);subst hv;have hE:listA sep (one z) (r.length+1) [a] r=res:=(aDa (f:=λa ts=>listA sep (one z) (ts.length+1) [a] ts) hm).symm.trans hres;(refine aDt o1 gL eB rfl rfl zD ?_);refine aI rfl ?_;intro b21 m21 o21;have or:=Own.boxRow zA 2 rfl 14 1 1 rfl (aD6 _) zD;refine aDT [7,11,12,13,14,15,16,17,18] [7] (λvs hh=>∃(f:Nat) (acc:List Cnd) (q:List Tok) (w':Value) (va:Option Addr) (vc:Nat),vs=[.slice va acc.length vc]/\listA sep (one z) f acc q=res/\q.length<f/\1<=acc.length/\acc.length+q.length<=ts.length+1/\dC tk w' q/\Own B [box bp [w',.int .i64 z] 72,tk,row (.slice va acc.length vc) 142 14 acc.length (acc.flatMap nN)] hh) (λvs _=>match vs with|[.slice _ n _]=>6000 - n|_=>0) ?_ ?_
 ·exact⟨r.length+1,[a],r,w1,_,_,rfl,hE,by omega,by simp,by simp;omega,hR1,or⟩
 ·rintro vs junk hh ⟨f,acc,q,w',va,vc,rfl,hE,hf,hac1,hac,hR',oh⟩
  obtain⟨f,rfl⟩:∃ f',f=f'+1:=⟨f - 1,by omega⟩
  refine(cZ sep).call (oh.lend [0,1] [2] rfl) hR' zO (λb q2 w2 v h2 hm hv hle2 hR2 o2=>?_) (λe w2 h2 hm o2=>absurd hm (dX sep q e))
  subst hv;have o2:=o2.back;cases b with
  | false =>
   rw[tD hm]at hE
   refine aDL (rO ?_)
   refine⟨acc,q2,w2,_,hE.symm,⟨by omega,rfl⟩,by omega,hR2,o2.sel [0,1,2] rfl⟩
  | true =>
   have hlt:=pZ hm
   rw[qL hm]at hE
   refine aDK (aDU ?_);refine hone.call (o2.lend [0,1] [2] rfl) hR2 zO (λa r3 w3 v h3 hm3 hv hle3 hR3 o3=>?_) (λe w3 h3 hm3 o3=>⟨e,w3,(hE.symm.trans (aC9 hm3)),rfl,o3.back.sel [0,1] rfl⟩);subst hv
   rw[aDa hm3]at hE
   have o3:=o3.back;(refine aDt o3 gL eB rfl rfl zD ?_);refine aI rfl ?_;intro b61 m61 o61;refine aDI zA 2 rfl gL eB zD (Own.boxArrN zA 3 rfl (n:=1) rfl zO) c_ (by simp only[maxLen];omega) zO ?_;intro v65 m65 o65
   obtain⟨ua,uc,rfl⟩:=o65.rowIs 2 rfl
   refine⟨rfl,?_⟩
   refine⟨⟨f,acc++[a],r3,w3,ua,uc,by simp,hE,by omega,by simp,by simp;omega,hR3,?_⟩,by simp;omega⟩
   have e1:(acc++[a]).flatMap nN=acc.flatMap nN++nN a:=by rw[aEy,aEf,List.flatMap_nil,aD7]
   have e2:(acc++[a]).length=acc.length+1:=by simp
   rw[e1,e2]
   exact o_ [0,1,2]
theorem listK_spec (g:FuncId)(one:Nat->PM Col)(hone:PSpec g (λbp=>[pv bp 0]) one (λa v=>v=.agg ⟨vE a⟩))(sep:aBs)(B:Base)(bp z:Nat)(tk:Item)(w:Value)(ts:List Tok)(h:Heap)(o:Own B (PSt bp z w tk) h)(hR:dC tk w ts)(hl:ts.length<=5000) :
  Spec Tryz.prog 106 [pv bp 0,sv sep,.func (.func g) ⟨[pv bp 0]⟩ ⟨[]⟩] h (dP B bp z tk ts.length (nE sep (one z) ts) (λl v I=>l.length<=5001/\I=row v 132 5 l.length (l.flatMap vE))):=by
 refine eN Tryz.func106 Tryz.ntmps106 ?_;generalize hres:nE sep (one z) ts=res;refine aDU ?_;refine hone.call o hR hl (λa r w1 v h1 hm hv hle hR1 o1=>?_) (λe w1 h1 hm o1=>⟨e,w1,(hres.symm.trans (aC9 hm)),rfl,o1⟩);subst hv;have hE:listA sep (one z) (r.length+1) [a] r=res:=(aDa (f:=λa ts=>listA sep (one z) (ts.length+1) [a] ts) hm).symm.trans hres;(refine aDt o1 iQ eV rfl rfl zD ?_);refine aI rfl ?_;intro b21 m21 o21;have or:=Own.boxRow zA 2 rfl 5 1 1 rfl (aD6 _) zD;refine aDT [7,11,12,13,14,15,16,17,18] [7] (λvs hh=>∃(f:Nat) (acc:List Col) (q:List Tok) (w':Value) (va:Option Addr) (vc:Nat),vs=[.slice va acc.length vc]/\listA sep (one z) f acc q=res/\q.length<f/\1<=acc.length/\acc.length+q.length<=ts.length+1/\dC tk w' q/\Own B [box bp [w',.int .i64 z] 72,tk,row (.slice va acc.length vc) 132 5 acc.length (acc.flatMap vE)] hh) (λvs _=>match vs with|[.slice _ n _]=>6000 - n|_=>0) ?_ ?_
 ·exact⟨r.length+1,[a],r,w1,_,_,rfl,hE,by omega,by simp,by simp;omega,hR1,or⟩
 ·rintro vs junk hh ⟨f,acc,q,w',va,vc,rfl,hE,hf,hac1,hac,hR',oh⟩
  obtain⟨f,rfl⟩:∃ f',f=f'+1:=⟨f - 1,by omega⟩
  refine(cZ sep).call (oh.lend [0,1] [2] rfl) hR' zO (λb q2 w2 v h2 hm hv hle2 hR2 o2=>?_) (λe w2 h2 hm o2=>absurd hm (dX sep q e))
  subst hv;have o2:=o2.back;cases b with
  | false =>
   rw[tD hm]at hE
   refine aDL (rO ?_)
   refine⟨acc,q2,w2,_,hE.symm,⟨by omega,rfl⟩,by omega,hR2,o2.sel [0,1,2] rfl⟩
  | true =>
   have hlt:=pZ hm
   rw[qL hm]at hE
   refine aDK (aDU ?_);refine hone.call (o2.lend [0,1] [2] rfl) hR2 zO (λa r3 w3 v h3 hm3 hv hle3 hR3 o3=>?_) (λe w3 h3 hm3 o3=>⟨e,w3,(hE.symm.trans (aC9 hm3)),rfl,o3.back.sel [0,1] rfl⟩);subst hv
   rw[aDa hm3]at hE
   have o3:=o3.back;(refine aDt o3 iQ eV rfl rfl zD ?_);refine aI rfl ?_;intro b61 m61 o61;refine aDI zA 2 rfl iQ eV zD (Own.boxArrN zA 3 rfl (n:=1) rfl zO) c_ (by simp only[maxLen];omega) zO ?_;intro v65 m65 o65
   obtain⟨ua,uc,rfl⟩:=o65.rowIs 2 rfl
   refine⟨rfl,?_⟩
   refine⟨⟨f,acc++[a],r3,w3,ua,uc,by simp,hE,by omega,by simp,by simp;omega,hR3,?_⟩,by simp;omega⟩
   have e1:(acc++[a]).flatMap vE=acc.flatMap vE++vE a:=by rw[aEy,aEf,List.flatMap_nil,aD7]
   have e2:(acc++[a]).length=acc.length+1:=by simp
   rw[e1,e2]
   exact o_ [0,1,2]
theorem listN_spec (g:FuncId)(one:Nat->PM Nmd)(hone:PSpec g (λbp=>[pv bp 0]) one (λa v=>v=.agg ⟨xH a⟩))(sep:aBs)(B:Base)(bp z:Nat)(tk:Item)(w:Value)(ts:List Tok)(h:Heap)(o:Own B (PSt bp z w tk) h)(hR:dC tk w ts)(hl:ts.length<=5000) :
  Spec Tryz.prog 113 [pv bp 0,sv sep,.func (.func g) ⟨[pv bp 0]⟩ ⟨[]⟩] h (dP B bp z tk ts.length (nE sep (one z) ts) (λl v I=>l.length<=5001/\I=row v 95 4 l.length (l.flatMap xH))):=by
 refine eN Tryz.func113 Tryz.ntmps113 ?_;generalize hres:nE sep (one z) ts=res;refine aDU ?_;refine hone.call o hR hl (λa r w1 v h1 hm hv hle hR1 o1=>?_) (λe w1 h1 hm o1=>⟨e,w1,(hres.symm.trans (aC9 hm)),rfl,o1⟩);subst hv;have hE:listA sep (one z) (r.length+1) [a] r=res:=(aDa (f:=λa ts=>listA sep (one z) (ts.length+1) [a] ts) hm).symm.trans hres;(refine aDt o1 kV oN rfl rfl zD ?_);refine aI rfl ?_;intro b21 m21 o21;have or:=Own.boxRow zA 2 rfl 4 1 1 rfl (aD6 _) zD;refine aDT [7,11,12,13,14,15,16,17,18] [7] (λvs hh=>∃(f:Nat) (acc:List Nmd) (q:List Tok) (w':Value) (va:Option Addr) (vc:Nat),vs=[.slice va acc.length vc]/\listA sep (one z) f acc q=res/\q.length<f/\1<=acc.length/\acc.length+q.length<=ts.length+1/\dC tk w' q/\Own B [box bp [w',.int .i64 z] 72,tk,row (.slice va acc.length vc) 95 4 acc.length (acc.flatMap xH)] hh) (λvs _=>match vs with|[.slice _ n _]=>6000 - n|_=>0) ?_ ?_
 ·exact⟨r.length+1,[a],r,w1,_,_,rfl,hE,by omega,by simp,by simp;omega,hR1,or⟩
 ·rintro vs junk hh ⟨f,acc,q,w',va,vc,rfl,hE,hf,hac1,hac,hR',oh⟩
  obtain⟨f,rfl⟩:∃ f',f=f'+1:=⟨f - 1,by omega⟩
  refine(cZ sep).call (oh.lend [0,1] [2] rfl) hR' zO (λb q2 w2 v h2 hm hv hle2 hR2 o2=>?_) (λe w2 h2 hm o2=>absurd hm (dX sep q e))
  subst hv;have o2:=o2.back;cases b with
  | false =>
   rw[tD hm]at hE
   refine aDL (rO ?_)
   refine⟨acc,q2,w2,_,hE.symm,⟨by omega,rfl⟩,by omega,hR2,o2.sel [0,1,2] rfl⟩
  | true =>
   have hlt:=pZ hm
   rw[qL hm]at hE
   refine aDK (aDU ?_);refine hone.call (o2.lend [0,1] [2] rfl) hR2 zO (λa r3 w3 v h3 hm3 hv hle3 hR3 o3=>?_) (λe w3 h3 hm3 o3=>⟨e,w3,(hE.symm.trans (aC9 hm3)),rfl,o3.back.sel [0,1] rfl⟩);subst hv
   rw[aDa hm3]at hE
   have o3:=o3.back;(refine aDt o3 kV oN rfl rfl zD ?_);refine aI rfl ?_;intro b61 m61 o61;refine aDI zA 2 rfl kV oN zD (Own.boxArrN zA 3 rfl (n:=1) rfl zO) c_ (by simp only[maxLen];omega) zO ?_;intro v65 m65 o65
   obtain⟨ua,uc,rfl⟩:=o65.rowIs 2 rfl
   refine⟨rfl,?_⟩
   refine⟨⟨f,acc++[a],r3,w3,ua,uc,by simp,hE,by omega,by simp,by simp;omega,hR3,?_⟩,by simp;omega⟩
   have e1:(acc++[a]).flatMap xH=acc.flatMap xH++xH a:=by rw[aEy,aEf,List.flatMap_nil,aD7]
   have e2:(acc++[a]).length=acc.length+1:=by simp
   rw[e1,e2]
   exact o_ [0,1,2]
theorem listV_spec (g:FuncId)(one:Nat->PM Vr)(hone:PSpec g (λbp=>[pv bp 0]) one (λa v=>v=.agg ⟨vrC a⟩))(sep:aBs)(B:Base)(bp z:Nat)(tk:Item)(w:Value)(ts:List Tok)(h:Heap)(o:Own B (PSt bp z w tk) h)(hR:dC tk w ts)(hl:ts.length<=5000) :
  Spec Tryz.prog 115 [pv bp 0,sv sep,.func (.func g) ⟨[pv bp 0]⟩ ⟨[]⟩] h (dP B bp z tk ts.length (nE sep (one z) ts) (λl v I=>l.length<=5001/\I=row v 98 2 l.length (l.flatMap vrC))):=by
 refine eN Tryz.func115 Tryz.ntmps115 ?_;generalize hres:nE sep (one z) ts=res;refine aDU ?_;refine hone.call o hR hl (λa r w1 v h1 hm hv hle hR1 o1=>?_) (λe w1 h1 hm o1=>⟨e,w1,(hres.symm.trans (aC9 hm)),rfl,o1⟩);subst hv;have hE:listA sep (one z) (r.length+1) [a] r=res:=(aDa (f:=λa ts=>listA sep (one z) (ts.length+1) [a] ts) hm).symm.trans hres;(refine aDt o1 jW kT rfl rfl zD ?_);refine aI rfl ?_;intro b21 m21 o21;have or:=Own.boxRow zA 2 rfl 2 1 1 rfl (aD6 _) zD;refine aDT [7,11,12,13,14,15,16,17,18] [7] (λvs hh=>∃(f:Nat) (acc:List Vr) (q:List Tok) (w':Value) (va:Option Addr) (vc:Nat),vs=[.slice va acc.length vc]/\listA sep (one z) f acc q=res/\q.length<f/\1<=acc.length/\acc.length+q.length<=ts.length+1/\dC tk w' q/\Own B [box bp [w',.int .i64 z] 72,tk,row (.slice va acc.length vc) 98 2 acc.length (acc.flatMap vrC)] hh) (λvs _=>match vs with|[.slice _ n _]=>6000 - n|_=>0) ?_ ?_
 ·exact⟨r.length+1,[a],r,w1,_,_,rfl,hE,by omega,by simp,by simp;omega,hR1,or⟩
 ·rintro vs junk hh ⟨f,acc,q,w',va,vc,rfl,hE,hf,hac1,hac,hR',oh⟩
  obtain⟨f,rfl⟩:∃ f',f=f'+1:=⟨f - 1,by omega⟩
  refine(cZ sep).call (oh.lend [0,1] [2] rfl) hR' zO (λb q2 w2 v h2 hm hv hle2 hR2 o2=>?_) (λe w2 h2 hm o2=>absurd hm (dX sep q e))
  subst hv;have o2:=o2.back;cases b with
  | false =>
   rw[tD hm]at hE
   refine aDL (rO ?_)
   refine⟨acc,q2,w2,_,hE.symm,⟨by omega,rfl⟩,by omega,hR2,o2.sel [0,1,2] rfl⟩
  | true =>
   have hlt:=pZ hm
   rw[qL hm]at hE
   refine aDK (aDU ?_);refine hone.call (o2.lend [0,1] [2] rfl) hR2 zO (λa r3 w3 v h3 hm3 hv hle3 hR3 o3=>?_) (λe w3 h3 hm3 o3=>⟨e,w3,(hE.symm.trans (aC9 hm3)),rfl,o3.back.sel [0,1] rfl⟩);subst hv
   rw[aDa hm3]at hE
   have o3:=o3.back;(refine aDt o3 jW kT rfl rfl zD ?_);refine aI rfl ?_;intro b61 m61 o61;refine aDI zA 2 rfl jW kT zD (Own.boxArrN zA 3 rfl (n:=1) rfl zO) c_ (by simp only[maxLen];omega) zO ?_;intro v65 m65 o65
   obtain⟨ua,uc,rfl⟩:=o65.rowIs 2 rfl
   refine⟨rfl,?_⟩
   refine⟨⟨f,acc++[a],r3,w3,ua,uc,by simp,hE,by omega,by simp,by simp;omega,hR3,?_⟩,by simp;omega⟩
   have e1:(acc++[a]).flatMap vrC=acc.flatMap vrC++vrC a:=by rw[aEy,aEf,List.flatMap_nil,aD7]
   have e2:(acc++[a]).length=acc.length+1:=by simp
   rw[e1,e2]
   exact o_ [0,1,2]
def vlV (x:Vl):Value:=.agg ⟨vlC x⟩
def litV:Option Vl->Value->Prop
 | some x,v=>v=.tuple ⟨[vlV x,.bool true]⟩
 | none,v=>v=.tuple ⟨[vlV vl0,.bool false]⟩
theorem vZ:PSpec 158 (λbp=>[pv bp 0]) (λz=>kM z) litV:=by
 intro B bp z tk w ts h o hR hl
 obtain⟨hR,hK⟩:=hR
 refine eN Tryz.func158 Tryz.ntmps158 ?_;cases ts with
 | nil =>
  refine aDH o cG λb10 m10 o10=>?_;refine cB ?_;refine fB gV ?_;refine oB o10 0 fS ?_;refine rR (aDw (o10.reads 1 hR rfl) gW ?_);refine aDK (nB o10 2 cG ?_);(refine sA o10 2 cG ?_;intro m16 o16)
  first|refine r1_ o16 2 cG ?_|refine r2_ o16 2 cG ?_
  exact⟨none,[],w,rfl,rfl,aD6 _,⟨hR,hK⟩,o_ [0,1]⟩
 | cons t r =>
  have hx:(t::r)[0]?=some t:=rfl;have hln:(t::r).length=r.length+1:=rfl;by_cases h3:t.kind=3
  ·have hE:kM z (t::r)=.ok (some ⟨1,0,t.text⟩,r):=if_pos h3
   refine aDH o cG λb30 m30 o30=>?_;refine cB ?_;refine fB gV ?_;refine oB o30 0 fS ?_;refine rR (aDw (o30.reads 1 hR rfl) gW ?_);refine bA λc35=>cB ?_;refine fB gV ?_;refine oB o30 0 fS ?_;refine rR (aDe gW bR (o30.reads 1 hR rfl) rfl zO zO ?_);refine rR (aDg bR (o30.reads 1 hR rfl) (λ_=>rfl) zD rfl zA ?_);refine aDH o30 bR λb41 m41 o41=>?_;(refine sA o41 3 bR ?_;intro m42 o42);refine fB fU ?_;refine oB o42 3 aK ?_;refine bB λc45=>fB fU ?_;refine oB o42 3 aK ?_
   refine(uS t.kind).call (Own.lend zA [0,1] [2,3] rfl) ⟨hR,hK⟩ hl (λa q w2 v h2 hm hv hle hR2 o2=>?_) (λe w2 h2 hm o2=>?_)
   ·have hq:oW z t.kind (t::r)=.ok (t,r):=if_pos rfl
    have hm:oW z t.kind (t::r)=.ok (a,q):=hm
    rw[hq]at hm
    injection hm with hm
    injection hm with ha hq
    subst ha hq
    obtain⟨rfl,_⟩:=hv
    have o2':=o2.back
    simp only[PSt,pick,lcA,lnA,lgS,lgZ]at o2'
    clear o2;refine rR (fieldV fU rfl rfl rfl rfl ?_);refine rR (aDd bP ?_);refine aI rfl ?_;refine aI rfl ?_;(refine sA o2' 2 cG ?_;intro m52 o52)
    first|refine r1_ o52 2 cG ?_|refine r2_ o52 2 cG ?_
    exact⟨_,r,w2,hE,rfl,hle,hR2,o_ [0,1]⟩
   ·have hq:oW z t.kind (t::r)=.ok (t,r):=if_pos rfl
    exact absurd (hq.symm.trans hm) zS
  by_cases hk2:t.kind=2
  ·have hE:kM z (t::r)=.ok (some ⟨2,t.num,[]⟩,r):=(if_neg h3).trans (if_pos hk2)
   have hq:rB z (t::r)=.ok (t.num,r):=by
    have:oW z 2 (t::r)=.ok (t,r):=if_pos hk2
    exact aDa this
   refine aDH o cG λb60 m60 o60=>?_;refine cB ?_;refine fB gV ?_;refine oB o60 0 fS ?_;refine rR (aDw (o60.reads 1 hR rfl) gW ?_);refine bA λc65=>cB ?_;refine fB gV ?_;refine oB o60 0 fS ?_;refine rR (aDe gW bR (o60.reads 1 hR rfl) rfl zO zO ?_);refine rR (aDg bR (o60.reads 1 hR rfl) (λ_=>rfl) zD rfl zA ?_);refine aDH o60 bR λb71 m71 o71=>?_;(refine sA o71 3 bR ?_;intro m72 o72);refine fB fU ?_;refine oB o72 3 aK ?_;refine bA λc75=>bB λc76=>?_;refine cK.call (Own.lend zA [0,1] [2,3] rfl) ⟨hR,hK⟩ hl (λa q w2 v h2 hm hv hle hR2 o2=>?_) (λe w2 h2 hm o2=>?_)
   ·have hm:rB z (t::r)=.ok (a,q):=hm
    rw[hq]at hm
    injection hm with hm
    injection hm with ha hq
    subst ha hq
    obtain⟨rfl,_⟩:=hv
    have o2':=o2.back
    simp only[PSt,pick,lcA,lnA,lgS,lgZ]at o2'
    clear o2;refine rR (aDd bP ?_);refine aI rfl ?_;refine aI rfl ?_;(refine sA o2' 2 cG ?_;intro m81 o81)
    first|refine r1_ o81 2 cG ?_|refine r2_ o81 2 cG ?_
    exact⟨_,r,w2,hE,rfl,hle,hR2,o_ [0,1]⟩
   ·exact absurd (hq.symm.trans hm) zS
  have hE:litE z (t::r)=kM z (t::r):=((if_neg h3).trans (if_neg hk2)).symm;unfold litE at hE;refine aDH o cG λb100 m100 o100=>?_;refine cB ?_;refine fB gV ?_;refine oB o100 0 fS ?_;refine rR (aDw (o100.reads 1 hR rfl) gW ?_);refine bA λc105=>cB ?_;refine fB gV ?_;refine oB o100 0 fS ?_;refine rR (aDe gW bR (o100.reads 1 hR rfl) rfl zO zO ?_);refine rR (aDg bR (o100.reads 1 hR rfl) (λ_=>rfl) zD rfl zA ?_);refine aDH o100 bR λb111 m111 o111=>?_;(refine sA o111 3 bR ?_;intro m112 o112);refine fB fU ?_;refine oB o112 3 aK ?_;refine bA λc115=>bA λc116=>?_;have hR:dC tk w (t::r):=⟨hR,hK⟩
  refine(cZ [45]).call (Own.lend zA [0,1] [2,3] rfl) hR hl (λb q w200 v h200 hm hv hle hR2 o2=>?_) (λe w2 h2 hm o2=>absurd hm (dX _ _ e))
  subst hv;have o200:=o2.back
  simp only[PSt,pick,lcA,lnA,lgS,lgZ]at o200
  clear o2
  rw[aDa hm]at hE
  cases b with
  | true =>
   rw[if_pos rfl]at hE
   refine aDK (cK.call (Own.lend zA [0,1] [2,3] rfl) hR2 zO (λa q2 w3 v h3 hm3 hv hle3 hR3 o3=>?_) (λe w3 h3 hm3 o3=>⟨e,w3,hE.symm.trans (aC9 hm3),rfl,o3.back.sel [0,1] rfl⟩))
   obtain⟨rfl,hv0,hv1⟩:=hv
   rw[aDa hm3]at hE
   have o4:=o3.back
   simp only[PSt,pick,lcA,lnA,lgS,lgZ]at o4
   clear o3;refine aR (rR (aDd bP ?_));refine aI rfl ?_;refine aI rfl ?_;(refine sA o4 2 cG ?_;intro m211 o211);refine nB o211 2 cG ?_;(refine sB o211 2 cG ?_;intro m213 o213)
   first|refine r1_ o213 2 cG ?_|refine r2_ o213 2 cG ?_
   exact⟨some ⟨2,-a,[]⟩,q2,w3,hE.symm,by first|rfl|simp[litV,vlV,vlC],by omega,hR3,o_ [0,1]⟩
  | false =>
  rw[if_neg zD]at hE
  obtain rfl:=jO hm;clear hR hle;have hR:=hR2;clear hR2 hm;refine aDL ?_
  refine(cZ [64]).call (Own.lend zA [0,1] [2,3] rfl) hR hl (λb q w250 v h250 hm hv hle hR2 o2=>?_) (λe w2 h2 hm o2=>absurd hm (dX _ _ e))
  subst hv;have o250:=o2.back
  simp only[PSt,pick,lcA,lnA,lgS,lgZ]at o250
  clear o2
  rw[aDa hm]at hE
  cases b with
  | true =>
   rw[if_pos rfl]at hE
   refine aDK (cK.call (Own.lend zA [0,1] [2,3] rfl) hR2 zO (λa q2 w3 v h3 hm3 hv hle3 hR3 o3=>?_) (λe w3 h3 hm3 o3=>⟨e,w3,hE.symm.trans (aC9 hm3),rfl,o3.back.sel [0,1] rfl⟩))
   obtain⟨rfl,hv0,hv1⟩:=hv
   rw[aDa hm3]at hE
   have o4:=o3.back
   simp only[PSt,pick,lcA,lnA,lgS,lgZ]at o4
   clear o3;refine rR (aDd bP ?_);refine aI rfl ?_;refine aI rfl ?_;(refine sA o4 2 cG ?_;intro m261 o261);refine nB o261 2 cG ?_;(refine sB o261 2 cG ?_;intro m263 o263)
   first|refine r1_ o263 2 cG ?_|refine r2_ o263 2 cG ?_
   exact⟨some ⟨3,a,[]⟩,q2,w3,hE.symm,by first|rfl|simp[litV,vlV,vlC],by omega,hR3,o_ [0,1]⟩
  | false =>
  rw[if_neg zD]at hE
  obtain rfl:=jO hm;clear hR hle;have hR:=hR2;clear hR2 hm;refine aDL ?_
  refine(cZ [116,114,117,101]).call (Own.lend zA [0,1] [2,3] rfl) hR hl (λb q w300 v h300 hm hv hle hR2 o2=>?_) (λe w2 h2 hm o2=>absurd hm (dX _ _ e))
  subst hv;have o300:=o2.back
  simp only[PSt,pick,lcA,lnA,lgS,lgZ]at o300
  clear o2
  rw[aDa hm]at hE
  cases b with
  | true =>
   rw[if_pos rfl]at hE
   refine aDK (rR (aDd bP ?_));refine aI rfl ?_;refine aI rfl ?_;(refine sA o300 2 cG ?_;intro m306 o306);refine nB o306 2 cG ?_;(refine sA o306 2 cG ?_;intro m308 o308)
   first|refine r1_ o308 2 cG ?_|refine r2_ o308 2 cG ?_
   exact⟨some ⟨4,1,[]⟩,q,w300,hE.symm,rfl,hle,hR2,o_ [0,1]⟩
  | false =>
  rw[if_neg zD]at hE
  obtain rfl:=jO hm;clear hR hle;have hR:=hR2;clear hR2 hm;refine aDL ?_
  refine(cZ [102,97,108,115,101]).call (Own.lend zA [0,1] [2,3] rfl) hR hl (λb q w350 v h350 hm hv hle hR2 o2=>?_) (λe w2 h2 hm o2=>absurd hm (dX _ _ e))
  subst hv;have o350:=o2.back
  simp only[PSt,pick,lcA,lnA,lgS,lgZ]at o350
  clear o2
  rw[aDa hm]at hE
  cases b with
  | true =>
   rw[if_pos rfl]at hE
   refine aDK (rR (aDd bP ?_));refine aI rfl ?_;(refine sA o350 2 cG ?_;intro m356 o356);refine nB o356 2 cG ?_;(refine sA o356 2 cG ?_;intro m358 o358)
   first|refine r1_ o358 2 cG ?_|refine r2_ o358 2 cG ?_
   exact⟨some ⟨4,0,[]⟩,q,w350,hE.symm,rfl,hle,hR2,o_ [0,1]⟩
  | false =>
  rw[if_neg zD]at hE
  obtain rfl:=jO hm;clear hR hle;have hR:=hR2;clear hR2 hm;refine aDL ?_
  refine(cZ [110,117,108,108]).call (Own.lend zA [0,1] [2,3] rfl) hR hl (λb q w400 v h400 hm hv hle hR2 o2=>?_) (λe w2 h2 hm o2=>absurd hm (dX _ _ e))
  subst hv;have o400:=o2.back
  simp only[PSt,pick,lcA,lnA,lgS,lgZ]at o400
  clear o2
  rw[aDa hm]at hE
  cases b with
  | true =>
   rw[if_pos rfl]at hE
   refine aDK (nB o400 2 cG ?_);(refine sA o400 2 cG ?_;intro m406 o406)
   first|refine r1_ o406 2 cG ?_|refine r2_ o406 2 cG ?_
   exact⟨some vl0,q,w400,hE.symm,rfl,hle,hR2,o_ [0,1]⟩
  | false =>
  rw[if_neg zD]at hE
  obtain rfl:=jO hm;clear hR hle;have hR:=hR2;clear hR2 hm;refine aDL (nB o400 2 cG ?_);(refine sA o400 2 cG ?_;intro m421 o421)
  first|refine r1_ o421 2 cG ?_|refine r2_ o421 2 cG ?_
  exact⟨none,t::r,w400,hE.symm,rfl,aD6 _,hR,o_ [0,1]⟩
end Go.Proofs.YtohlogbnpfofpaaGreatDoor
