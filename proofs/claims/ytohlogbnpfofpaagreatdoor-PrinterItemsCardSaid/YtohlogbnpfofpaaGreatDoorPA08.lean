/- Part 8 of the proof of gaps,items: FnRepB, FnRepN, FnRepR, FnXb, FnXt, FnXc, FnXl, FnQh, FnYb, FnXd, FnXe, Laid. -/
import Derived.Test.YtohlogbnpfofpaaGreatDoorRows
import Derived.Test.YtohlogbnpfofpaaGreatDoorTie
import Derived.ProofKit
import Derived.LaidMore
import Derived.OpenShut
import Derived.Stop.Joined
import Derived.Stop.LaidErr
import Derived.Lib.LaidTab
import Derived.Shelf.Vars
import Derived.Test.YtohlogbnpfofpaaGreatDoorPA07
set_option linter.all false
set_option maxHeartbeats 100000000
set_option maxRecDepth 100000
namespace Go.Proofs.YtohlogbnpfofpaaGreatDoor
open Go StillVC
abbrev tF:Value:=.slice none 0 0
def aAU:List Value:=List.replicate 257 tF
theorem ty249:TyI Tryz.prog 249 true aAU 6168:=.mk' (z:=.agg ⟨aAU⟩) Tryz.underlying249 rfl (by kernel_rfl) rfl
theorem gS:StructT Tryz.prog 249 [(0,256),(256,1)] [true,false] aAU:=.mk' (by kernel_rfl) ty249
theorem dX:ArrT Tryz.prog 247 52 256 tF 24:=⟨Tryz.underlying247,kZ⟩
structure RepC (cs:List Value) (t:Value) (f:Nat→Value):Prop where
 len:cs.length=257
 last:cs[256]?=some t
 at_:∀ i,i<256→cs[i]?=some (f i)
theorem wV:aAU.length=257:=List.length_replicate
theorem zBSR_set (v:Value)(hv:v.oneCell'=true):(aAU.set 256 v).all (fun u=>u.oneCell')=true:=by
 refine List.all_eq_true.2 fun u hu=>?_
 rcases List.mem_or_eq_of_mem_set hu with h|rfl
 ·rw[List.eq_of_mem_replicate h];rfl
 ·exact hv
theorem RepC.start (t:Value):RepC (aAU.set 256 t) t (fun _=>tF) where
 len:=by rw[List.length_set];exact wV
 last:=List.getElem?_set_self (by rw[wV];omega)
 at_ i hi:=by
  rw[List.getElem?_set_ne (by omega),aAU,List.getElem?_replicate,if_pos (by omega)]
def aA9 (f:Nat→Value)(i:Nat)(v:Value):Nat→Value:=fun j=>if j=i then v else f j
theorem RepC.setT {cs:List Value}{t t':Value}{f:Nat→Value}(r:RepC cs t f):RepC (cs.set 256 t') t' f where
 len:=by simp[r.len]
 last:=by simp[r.len]
 at_ i hi:=by rw[List.getElem?_set_ne (by omega)];exact r.at_ i hi
theorem RepC.setV {cs:List Value}{t v:Value}{f:Nat→Value}(r:RepC cs t f)(i:Nat)(hi:i<256):RepC (cs.set i v) t (aA9 f i v) where
 len:=by simp[r.len]
 last:=by rw[List.getElem?_set_ne (by omega)];exact r.last
 at_ j hj:=by
  unfold aA9;by_cases h:j=i
  ·subst h;rw[if_pos rfl];exact List.getElem?_set_self (by rw[r.len];omega)
  ·rw[List.getElem?_set_ne (Ne.symm h),if_neg h];exact r.at_ j hj
def gQ (l:List UInt8):Value:=.string ⟨⟨l⟩⟩
def fV:List Value:=[gQ [34],gQ [92,34],gQ [92],gQ [92,92],gQ [10],gQ [92,110]]
def aA7 (v w x:Value):Nat→Value:=aA9 (aA9 (aA9 (fun _=>tF) 10 v) 92 w) 34 x
theorem build_spec (B:Base)(b:Nat)(d st se r:Value)(a:Option Addr)(c:Nat)(h:Heap)
  (o0:Own B [box b [d,st,se,r,.slice a 6 c] 220,row (.slice a 6 c) 9 1 6 fV] h) :
  cK Tryz.prog 174 [pA b 0] h fun res h'=>∃ rb cs t v w x,res=.iface 250 (pA rb 0)∧RepC cs t (aA7 v w x) ∧
   Own B [box b [d,st,se,r,.slice a 6 c] 220,row (.slice a 6 c) 9 1 6 fV,box rb cs 249,row t 9 1 3 [gQ [10],gQ [92],gQ [34]],ro v (bytes [92,110]),ro w (bytes [92,92]),ro x (bytes [92,34])] h':=by
 have hol:fV.length=6:=rfl;refine Spec.enter Tryz.func174 rfl Tryz.ntmps174 (by kernel_rfl) ?_;refine run (nC rfl ?_);refine run (fA aAl rfl rfl rfl ?_);refine run (aBx o0 0 rfl eZ rfl rfl ?_);refine run (aBH rfl aH ?_);refine Br.ff ?_;refine Br.ff ?_;refine LoopVC.intro [2,4,5,37,38,39,40,41,42,43,44,45,46,47,48,49,50,51,52,53,54,55,56,57,58] [4,5] (fun vs hh=>(vs=[.bool true,.int .i64 0]∨vs=[.bool false,.int .i64 2]∨vs=[.bool false,.int .i64 4]∨vs=[.bool false,.int .i64 6])∧Own B [box b [d,st,se,r,.slice a 6 c] 220,row (.slice a 6 c) 9 1 6 fV] hh) (fun vs _=>match vs with|[_,.int _ i]=>6 - i.toNat|_=>0) ?_ ?_
 ·exact⟨.inl rfl,o0⟩
 ·rintro vs junk hh ⟨hv,oh⟩
  rcases hv with rfl|rfl|rfl|rfl
  ·refine run (aBH rfl aH ?_)
   refine Br.tt ?_;refine run (idx aH aN (oh.rowArr 1 rfl) rfl (by omega) (by omega) ?_);refine run (loadA (oh.rowArr 1 rfl) aN rfl (by first|assumption|rfl) ?_);refine run (aBR rfl bN ?_);refine Br.ff ?_;refine Ar.i64 (by omega) (by omega) ?_;refine run (idx aH aN (oh.rowArr 1 rfl) rfl (by omega) (by omega) ?_);refine run (loadA (oh.rowArr 1 rfl) aN rfl (by first|assumption|rfl) ?_);refine run (aBR rfl bN ?_);refine Br.tt ?_;refine Ar.i64 (by omega) (by omega) ?_
   refine⟨rfl,?_⟩
   exact⟨⟨.inr (.inl rfl),oh⟩,by decide⟩
  ·refine run (aBH rfl aH ?_)
   refine Br.tt ?_;refine run (idx aH aN (oh.rowArr 1 rfl) rfl (by omega) (by omega) ?_);refine run (loadA (oh.rowArr 1 rfl) aN rfl (by first|assumption|rfl) ?_);refine run (aBR rfl bN ?_);refine Br.ff ?_;refine Ar.i64 (by omega) (by omega) ?_;refine run (idx aH aN (oh.rowArr 1 rfl) rfl (by omega) (by omega) ?_);refine run (loadA (oh.rowArr 1 rfl) aN rfl (by first|assumption|rfl) ?_);refine run (aBR rfl bN ?_);refine Br.tt ?_;refine Ar.i64 (by omega) (by omega) ?_
   refine⟨rfl,?_⟩
   exact⟨⟨.inr (.inr (.inl rfl)),oh⟩,by decide⟩
  ·refine run (aBH rfl aH ?_)
   refine Br.tt ?_;refine run (idx aH aN (oh.rowArr 1 rfl) rfl (by omega) (by omega) ?_);refine run (loadA (oh.rowArr 1 rfl) aN rfl (by first|assumption|rfl) ?_);refine run (aBR rfl bN ?_);refine Br.ff ?_;refine Ar.i64 (by omega) (by omega) ?_;refine run (idx aH aN (oh.rowArr 1 rfl) rfl (by omega) (by omega) ?_);refine run (loadA (oh.rowArr 1 rfl) aN rfl (by first|assumption|rfl) ?_);refine run (aBR rfl bN ?_);refine Br.tt ?_;refine Ar.i64 (by omega) (by omega) ?_
   refine⟨rfl,?_⟩
   exact⟨⟨.inr (.inr (.inr rfl)),oh⟩,by decide⟩
  ·refine run (aBH rfl aH ?_)
   refine Br.ff ?_;refine Br.ff ?_;refine run (aBH rfl aH ?_);refine run (quoE rfl rfl (by omega) (by omega) (by simp[IntKind.max,IntKind.signed,IntKind.bits]<;>omega) ?_);(refine RunVC.make0 oh aH aN rfl rfl (by omega) (by omega) (by omega) ?_;intro v83 m83 o83);refine run (aBE gS ?_)
   obtain⟨ta,tc,rfl⟩:=o83.rowIs 2 rfl
   refine⟨by rw[wV];rfl,?_⟩
   (refine RunVC.alloc o83 ty249 ?_;intro b90 m90 o90);refine RunVC.storeAll (vs:=aAU.set 256 (.slice ta 0 tc)) ‹_› 3 rfl ty249 ?_ ?_ List.length_set rfl (zBSR_set (.slice ta 0 tc) rfl) ?_
   ·rfl
   ·rfl
   intro m91 o91;have hR:=RepC.start (.slice ta 0 tc);generalize aAU.set 256 (.slice ta 0 tc)=cs0 at *;refine run (aBH rfl aH ?_);refine Ar.i64 (by omega) (by omega) ?_;refine LoopVC.intro [12,13,14,99,100,101,102,103,104,105,106,107,108,109,110,111,112,113,114,115,116,117,118,119,120,121,122,123,124,125,126,127,128,129,130] [12] (fun vs hh=>(vs=[.int .i64 4]∧∃(ta:Option Addr) (tc:Nat) (cs:List Value),RepC cs (.slice ta 0 tc) (fun _=>tF)∧Own B [box b [d,st,se,r,.slice a 6 c] 220,row (.slice a 6 c) 9 1 6 fV,box b90 cs 249,row (.slice ta 0 tc) 9 1 0 []] hh)∨(vs=[.int .i64 2]∧∃(ta:Option Addr) (tc:Nat) (cs:List Value) (v:Value),RepC cs (.slice ta 1 tc) (aA9 (fun _=>tF) 10 v)∧Own B [box b [d,st,se,r,.slice a 6 c] 220,row (.slice a 6 c) 9 1 6 fV,box b90 cs 249,row (.slice ta 1 tc) 9 1 1 [gQ [10]],ro v (bytes [92,110])] hh)∨(vs=[.int .i64 0]∧∃(ta:Option Addr) (tc:Nat) (cs:List Value) (v w:Value),RepC cs (.slice ta 2 tc) (aA9 (aA9 (fun _=>tF) 10 v) 92 w)∧Own B [box b [d,st,se,r,.slice a 6 c] 220,row (.slice a 6 c) 9 1 6 fV,box b90 cs 249,row (.slice ta 2 tc) 9 1 2 [gQ [10],gQ [92]],ro v (bytes [92,110]),ro w (bytes [92,92])] hh)∨(vs=[.int .i64 (-2)]∧∃(ta:Option Addr) (tc:Nat) (cs:List Value) (v w x:Value),RepC cs (.slice ta 3 tc) (aA7 v w x)∧Own B [box b [d,st,se,r,.slice a 6 c] 220,row (.slice a 6 c) 9 1 6 fV,box b90 cs 249,row (.slice ta 3 tc) 9 1 3 [gQ [10],gQ [92],gQ [34]],ro v (bytes [92,110]),ro w (bytes [92,92]),ro x (bytes [92,34])] hh)) (fun vs _=>match vs with|[.int _ i]=>(i+2).toNat|_=>0) ?_ ?_
   ·exact .inl ⟨rfl,ta,tc,cs0,hR,o91.sel [0,1,3,2] rfl⟩
   ·clear o91 hR
    rintro vs junk hh hI
    rcases hI with ⟨rfl,ta,tc,cs,hR,oh⟩|⟨rfl,ta,tc,cs,v,hR,oh⟩|⟨rfl,ta,tc,cs,v,w,hR,oh⟩|⟨rfl,ta,tc,cs,v,w,x,hR,oh⟩
    ·have e256:=hR.last
     have hlen:=hR.len;have p1:([10]:List UInt8)[(0:Int).toNat]?=some 10:=rfl;have p2:UInt8.toNat 10=10:=rfl;have eo:cs[10]?=some tF:=hR.at_ 10 (by omega);refine Br.tt ?_;refine run (idx aH aN (oh.rowArr 1 rfl) rfl (by omega) (by omega) ?_);refine run (loadA (oh.rowArr 1 rfl) aN rfl (by first|assumption|rfl) ?_);refine run (aBG rfl rfl bN (by omega) ‹_› ?_);refine Ar.i64 (by omega) (by omega) ?_;refine run (idx aH aN (oh.rowArr 1 rfl) rfl (by omega) (by omega) ?_);refine run (loadA (oh.rowArr 1 rfl) aN rfl (by first|assumption|rfl) ?_);refine run (fA gS rfl rfl rfl ?_);refine run (aBP dX.arr dX.el rfl rfl (by omega) (by omega) ?_);refine run (aBx oh 2 rfl kZ rfl ‹_› ?_);refine run (eqNil fQ rfl rfl ?_);refine Br.tt ?_;refine run (fA gS rfl rfl rfl ?_);refine run (aBx oh 2 rfl eZ rfl ‹_› ?_);(refine RunVC.lit oh fQ ty5 rfl rfl (by decide) (aI rfl ?_);intro b121 m121 o121);refine run (aB2 (l:=[10]) (Own.boxArr ‹_› 4 rfl rfl (by decide)) fQ aBi bN ?_);(refine RunVC.lit o121 aH aN rfl rfl (by decide) (aI rfl ?_);intro b130 m130 o130);refine RunVC.append ‹_› 3 rfl aH aN (by decide) ((Own.boxArr ‹_› 5 rfl (n:=1) (c:=1) rfl (by decide)).toN) (by simp[Value.oneCell',gQ]) (by simp[maxLen]) (by simp) ?_;intro v132 m132 o132
     obtain⟨tb,td,rfl⟩:=o132.rowIs 3 rfl
     refine run (fA gS rfl rfl rfl ?_);(refine RunVC.store o132 2 rfl eZ rfl (by simp only[List.length_cons,List.length_nil,Nat.zero_add];omega) (aI ⟨rfl,rfl⟩ ?_);intro m134 o134);(refine RunVC.strBytes o134 bN fQ aBi rfl ?_;intro v135 m135 o135);refine run (fA gS rfl rfl rfl ?_);refine run (aBP dX.arr dX.el rfl rfl (by omega) (by omega) ?_)
     obtain⟨ra,rc,rfl,-⟩:=o135.roArr 6 rfl
     (refine RunVC.store o135 2 rfl kZ rfl (by first|omega|(simp;omega)) (aI ⟨rfl,rfl⟩ ?_);intro m143 o143);refine Ar.i64 (by omega) (by omega) ?_
     refine⟨rfl,?_⟩
     exact⟨.inr (.inl ⟨rfl,tb,td,_,_,(hR.setT (t':=.slice tb 1 td)).setV 10 (by omega),Own.sel ‹_› [0,1,2,3,6] rfl⟩),by decide⟩
    ·have e256:=hR.last
     have hlen:=hR.len;have p1:([92]:List UInt8)[(0:Int).toNat]?=some 92:=rfl;have p2:UInt8.toNat 92=92:=rfl;have eo:cs[92]?=some tF:=hR.at_ 92 (by omega);refine Br.tt ?_;refine run (idx aH aN (oh.rowArr 1 rfl) rfl (by omega) (by omega) ?_);refine run (loadA (oh.rowArr 1 rfl) aN rfl (by first|assumption|rfl) ?_);refine run (aBG rfl rfl bN (by omega) ‹_› ?_);refine Ar.i64 (by omega) (by omega) ?_;refine run (idx aH aN (oh.rowArr 1 rfl) rfl (by omega) (by omega) ?_);refine run (loadA (oh.rowArr 1 rfl) aN rfl (by first|assumption|rfl) ?_);refine run (fA gS rfl rfl rfl ?_);refine run (aBP dX.arr dX.el rfl rfl (by omega) (by omega) ?_);refine run (aBx oh 2 rfl kZ rfl ‹_› ?_);refine run (eqNil fQ rfl rfl ?_);refine Br.tt ?_;refine run (fA gS rfl rfl rfl ?_);refine run (aBx oh 2 rfl eZ rfl ‹_› ?_);(refine RunVC.lit oh fQ ty5 rfl rfl (by decide) (aI rfl ?_);intro b161 m161 o161);refine run (aB2 (l:=[92]) (Own.boxArr ‹_› 5 rfl rfl (by decide)) fQ aBi bN ?_);(refine RunVC.lit o161 aH aN rfl rfl (by decide) (aI rfl ?_);intro b180 m180 o180);refine RunVC.append ‹_› 3 rfl aH aN (by decide) ((Own.boxArr ‹_› 6 rfl (n:=1) (c:=1) rfl (by decide)).toN) (by simp[Value.oneCell',gQ]) (by simp[maxLen]) (by simp) ?_;intro v182 m182 o182
     obtain⟨tb,td,rfl⟩:=o182.rowIs 3 rfl
     refine run (fA gS rfl rfl rfl ?_);(refine RunVC.store o182 2 rfl eZ rfl (by simp only[List.length_cons,List.length_nil,Nat.zero_add];omega) (aI ⟨rfl,rfl⟩ ?_);intro m184 o184);(refine RunVC.strBytes o184 bN fQ aBi rfl ?_;intro v185 m185 o185);refine run (fA gS rfl rfl rfl ?_);refine run (aBP dX.arr dX.el rfl rfl (by omega) (by omega) ?_)
     obtain⟨ra,rc,rfl,-⟩:=o185.roArr 7 rfl
     (refine RunVC.store o185 2 rfl kZ rfl (by first|omega|(simp;omega)) (aI ⟨rfl,rfl⟩ ?_);intro m193 o193);refine Ar.i64 (by omega) (by omega) ?_
     refine⟨rfl,?_⟩
     exact⟨.inr (.inr (.inl ⟨rfl,tb,td,_,_,_,(hR.setT (t':=.slice tb 2 td)).setV 92 (by omega),Own.sel ‹_› [0,1,2,3,4,7] rfl⟩)),by decide⟩
    ·have e256:=hR.last
     have hlen:=hR.len;have p1:([34]:List UInt8)[(0:Int).toNat]?=some 34:=rfl;have p2:UInt8.toNat 34=34:=rfl;have eo:cs[34]?=some tF:=hR.at_ 34 (by omega);refine Br.tt ?_;refine run (idx aH aN (oh.rowArr 1 rfl) rfl (by omega) (by omega) ?_);refine run (loadA (oh.rowArr 1 rfl) aN rfl (by first|assumption|rfl) ?_);refine run (aBG rfl rfl bN (by omega) ‹_› ?_);refine Ar.i64 (by omega) (by omega) ?_;refine run (idx aH aN (oh.rowArr 1 rfl) rfl (by omega) (by omega) ?_);refine run (loadA (oh.rowArr 1 rfl) aN rfl (by first|assumption|rfl) ?_);refine run (fA gS rfl rfl rfl ?_);refine run (aBP dX.arr dX.el rfl rfl (by omega) (by omega) ?_);refine run (aBx oh 2 rfl kZ rfl ‹_› ?_);refine run (eqNil fQ rfl rfl ?_);refine Br.tt ?_;refine run (fA gS rfl rfl rfl ?_);refine run (aBx oh 2 rfl eZ rfl ‹_› ?_);(refine RunVC.lit oh fQ ty5 rfl rfl (by decide) (aI rfl ?_);intro b211 m211 o211);refine run (aB2 (l:=[34]) (Own.boxArr ‹_› 6 rfl rfl (by decide)) fQ aBi bN ?_);(refine RunVC.lit o211 aH aN rfl rfl (by decide) (aI rfl ?_);intro b230 m230 o230);refine RunVC.append ‹_› 3 rfl aH aN (by decide) ((Own.boxArr ‹_› 7 rfl (n:=1) (c:=1) rfl (by decide)).toN) (by simp[Value.oneCell',gQ]) (by simp[maxLen]) (by simp) ?_;intro v232 m232 o232
     obtain⟨tb,td,rfl⟩:=o232.rowIs 3 rfl
     refine run (fA gS rfl rfl rfl ?_);(refine RunVC.store o232 2 rfl eZ rfl (by simp only[List.length_cons,List.length_nil,Nat.zero_add];omega) (aI ⟨rfl,rfl⟩ ?_);intro m234 o234);(refine RunVC.strBytes o234 bN fQ aBi rfl ?_;intro v235 m235 o235);refine run (fA gS rfl rfl rfl ?_);refine run (aBP dX.arr dX.el rfl rfl (by omega) (by omega) ?_)
     obtain⟨ra,rc,rfl,-⟩:=o235.roArr 8 rfl
     (refine RunVC.store o235 2 rfl kZ rfl (by first|omega|(simp;omega)) (aI ⟨rfl,rfl⟩ ?_);intro m243 o243);refine Ar.i64 (by omega) (by omega) ?_
     refine⟨rfl,?_⟩
     exact⟨.inr (.inr (.inr ⟨rfl,tb,td,_,_,_,_,(hR.setT (t':=.slice tb 3 td)).setV 34 (by omega),Own.sel ‹_› [0,1,2,3,4,5,8] rfl⟩)),by decide⟩
    ·refine Br.ff ?_
     refine run (aB3 (by kernel_rfl) rfl ?_);refine RetVC.one rfl ?_
     exact⟨b90,cs,_,v,w,x,rfl,hR,oh⟩
def xO (a:Option Addr)(c:Nat):List Value:=[.int .u32 0,.int .i32 0,.int .u32 0,.nilIface,.slice a 6 c]
theorem uK (v:Value)(h:Heap)(hA:Arr h v fV) :
  cK Tryz.prog 147 [v] h fun r h'=>∃ b a c,r=pA b 0∧Own h [box b (xO a c) 220,row (.slice a 6 c) 9 1 6 fV] h':=by
 have hol:fV.length=6:=rfl;have o0:=(Own.refl h).nilRow 9 1;refine Spec.enter Tryz.func147 rfl Tryz.ntmps147 (by kernel_rfl) ?_;refine run (aB0 hA ‹_› aH ?_);refine run (remE rfl rfl (by omega) (by omega) ?_);refine Br.ff ?_;refine RunVC.append ‹_› 0 rfl aH aN (by decide) hA.toN (by simp[Value.oneCell',gQ,fV]) (by simp[maxLen,fV]) (by simp[fV]) ?_;intro v20 m20 o20
 obtain⟨ta,tc,rfl⟩:=o20.rowIs 0 rfl
 refine run (aBE aAl ?_);refine aI rfl ?_;(refine RunVC.aBS o20 rfl ?_;intro b31 m31 o31);refine RetVC.one rfl ?_
 exact⟨b31,ta,tc,rfl,o31.sel [1,0] rfl⟩
theorem zI (B:Base)(b:Nat)(d st se r:Value)(a:Option Addr)(c:Nat)(h:Heap)
  (o0:Own B [box b [d,st,se,r,.slice a 6 c] 220,row (.slice a 6 c) 9 1 6 fV] h) :
  cK Tryz.prog 166 [pA b 0] h fun res h'=>res=.tuple #[]∧∃ rb cs t v w x,RepC cs t (aA7 v w x) ∧
   Own B [box b [d,st,se,.iface 250 (pA rb 0),tF] 220,row (.slice a 6 c) 9 1 6 fV,box rb cs 249,row t 9 1 3 [gQ [10],gQ [92],gQ [34]],ro v (bytes [92,110]),ro w (bytes [92,92]),ro x (bytes [92,34])] h':=by
 refine Spec.enter Tryz.func166 rfl Tryz.ntmps166 (by kernel_rfl) ?_;refine CallVC.ret (build_spec B b d st se r a c _ o0) ?_;rintro _ h1 ⟨rb,cs,t,v,w,x,rfl,hR,o1⟩;refine run (nC rfl ?_);refine run (fA aAl rfl rfl rfl ?_);(refine RunVC.store o1 0 rfl ty218 rfl (by simp) (aI ⟨rfl,rfl⟩ ?_);intro m22 o22);refine run (nC rfl ?_);refine run (fA aAl rfl rfl rfl ?_);(refine RunVC.store o22 0 rfl eZ rfl (by simp) (aI ⟨rfl,rfl⟩ ?_);intro m25 o25);refine RetVC.zero rfl ?_
 exact⟨rfl,rb,cs,t,v,w,x,hR,Own.sel ‹_› [0,1,2,3,4,5,6] rfl⟩
theorem aAN:∀(s:List UInt8),nS s=0→eB s=s
 | [],_=>rfl
 | c::s,h=>by
  unfold nS at h
  rw[List.countP_cons]at h
  have hc:spc c=false:=by
   cases hh:spc c with
   | false=>rfl
   | true=>rw[hh]at h;simp at h
  have ih:=aAN s (by unfold nS;omega);unfold eB at ih ⊢
  rw[List.flatMap_cons,ih,oS hc]
  rfl
theorem xX:∀(s:List UInt8),nS s=s.count 10+s.count 92+s.count 34
 | []=>rfl
 | c::s=>by
  have ih:=xX s;unfold nS at ih ⊢
  rw[List.countP_cons,ih,List.count_cons,List.count_cons,List.count_cons]
  by_cases h1:c=34
  ·subst h1;simp[spc];omega
  ·by_cases h2:c=92
   ·subst h2;simp[spc];omega
   ·by_cases h3:c=10
    ·subst h3;simp[spc];omega
    ·simp[spc,h1,h2,h3]
theorem nS_take {s:List UInt8}{i:Nat}{c:UInt8}(h:s[i]?=some c):nS (s.take (i+1))=nS (s.take i)+(if spc c=true then 1 else 0):=by
 unfold nS
 rw[List.take_add_one,h,List.countP_append]
 simp[List.countP_cons]
theorem sF (s:List UInt8)(c:UInt8)(h:Heap):cK Tryz.prog 251 [.string ⟨⟨s⟩⟩,.string ⟨⟨[c]⟩⟩] h fun r h'=>r=.int .i64 (s.count c)∧Own h [] h':=by
 refine⟨⟨_,Tryz.func251,rfl,by kernel_rfl⟩,fun w hw=>?_⟩
 subst hw
 refine(Tryz.strings_Count_one ⟨⟨s⟩⟩ c w).mono ?_
 rintro e w' ⟨rfl,rfl⟩
 exact⟨.refl _,rfl,Own.refl _⟩
theorem tab_at {h:Heap}{v w x:Value}(hv:Arr h v (bytes [92,110]))(hw:Arr h w (bytes [92,92]))(hx:Arr h x (bytes [92,34]))(c:UInt8) :
  (spc c=false∧aA7 v w x c.toNat=tF)∨(spc c=true∧∃ a cap,aA7 v w x c.toNat=.slice (some a) 2 cap∧Arr h (.slice (some a) 2 cap) (bytes (oT c))):=by
 have two:∀(v:Value) (l:List UInt8),l.length=2→Arr h v (bytes l)→∃ a cap,v=.slice (some a) 2 cap∧Arr h (.slice (some a) 2 cap) (bytes l):=by
  intro v l hl hA
  obtain⟨a,cap,rfl,hc,r⟩:=hA
  have hbl:(bytes l).length=2:=by simp[bytes,hl]
  rw[hbl]at hc
  rcases r with r|⟨b,o,rfl,hcell⟩
  ·rw[r]at hbl;simp at hbl
  ·refine⟨_,cap,by rw[hbl],?_⟩
   exact⟨_,cap,by rw[hbl],by rw[hbl];exact hc,.inr ⟨b,o,rfl,hcell⟩⟩
 have inj:∀ {n:Nat},c.toNat=n→c=UInt8.ofNat n:=fun h=>by rw[← h];simp
 unfold aA7 aA9;by_cases h34:c.toNat=34
 ·have e:c=34:=inj h34
  subst e
  obtain⟨a,cap,rfl,hA⟩:=two x [92,34] rfl hx
  exact .inr ⟨by decide,a,cap,by rw[if_pos h34],hA⟩
 ·by_cases h92:c.toNat=92
  ·have e:c=92:=inj h92
   subst e
   obtain⟨a,cap,rfl,hA⟩:=two w [92,92] rfl hw
   exact .inr ⟨by decide,a,cap,by rw[if_neg h34,if_pos h92],hA⟩
  ·by_cases h10:c.toNat=10
   ·have e:c=10:=inj h10
    subst e
    obtain⟨a,cap,rfl,hA⟩:=two v [92,110] rfl hv
    exact .inr ⟨by decide,a,cap,by rw[if_neg h34,if_neg h92,if_pos h10],hA⟩
   ·refine .inl ⟨?_,by rw[if_neg h34,if_neg h92,if_neg h10]⟩
    unfold spc;refine decide_eq_false ?_
    rintro(rfl|rfl|rfl)
    ·exact h34 rfl
    ·exact h92 rfl
    ·exact h10 rfl
abbrev zB:Value:=.int .u8 0
theorem fillSet (A:List UInt8)(c:UInt8)(N:Nat)(h:A.length<N):(bytes A++List.replicate (N - A.length) zB).set A.length (.int .u8 c.toNat)=bytes (A++[c])++List.replicate (N - (A++[c]).length) zB:=by
 obtain⟨m,hm⟩:∃ m,N - A.length=m+1:=⟨N - A.length - 1,by omega⟩
 have hm2:N - (A++[c]).length=m:=by simp;omega
 have hl:(bytes A).length=A.length:=by simp[bytes]
 rw[hm,hm2,List.replicate_succ,← hl,List.set_append_right _ _ (Nat.le_refl _),Nat.sub_self]
 simp[bytes]
theorem fillCopy (A B:List UInt8)(N:Nat)(_h:A.length+B.length≤N) :
  (bytes A++List.replicate (N - A.length) zB).take A.length++bytes B++(bytes A++List.replicate (N - A.length) zB).drop (A.length+B.length)=bytes (A++B)++List.replicate (N - (A++B).length) zB:=by
 have hl:(bytes A).length=A.length:=by simp[bytes]
 rw[← hl,List.take_left,List.drop_append,List.drop_of_length_le (by omega),hl,lnA,Nat.add_sub_cancel_left,List.drop_replicate,List.length_append,Nat.sub_sub]
 simp[bytes]
theorem zJ (rb:Nat)(t v w x:Value)(s:List UInt8)(h:Heap)(hl:s.length≤1000000)(ct:aX h ⟨rb,0+256,none⟩=some t)(hc:∀ i,i<256→aX h ⟨rb,i,none⟩=some (aA7 v w x i))
  (hT:Arr h t [gQ [10],gQ [92],gQ [34]]) (hv:Arr h v (bytes [92,110])) (hw:Arr h w (bytes [92,92])) (hx:Arr h x (bytes [92,34])) :
  cK Tryz.prog 249 [pA rb 0,.string ⟨⟨s⟩⟩] h fun r h'=>r=.string ⟨⟨eB s⟩⟩∧Own h [] h':=by
 obtain⟨at_,tc,rfl,htc,-⟩:=id hT
 have hT2:Arr h (.slice at_ 3 tc) [gQ [10],gQ [92],gQ [34]]:=hT;have o0:=Own.refl h;have hnle:nS s≤s.length:=List.countP_le_length;have hcs:∀ c:UInt8,aX h ⟨rb,0+0+((c.toNat:Nat):Int).toNat*1,none⟩=some (aA7 v w x c.toNat):=fun c=>by
  rw[show 0+0+((c.toNat:Nat):Int).toNat*1=c.toNat by simp]
  exact hc _ c.toNat_lt
 have hsp:∀ c:UInt8,spc c=true→∃ a cap,aX h ⟨rb,0+0+((c.toNat:Nat):Int).toNat*1,none⟩=some (.slice (some a) 2 cap):=fun c hc=>by
  rcases tab_at hv hw hx c with ⟨h1,_⟩|⟨_,a,cap,he,_⟩
  ·rw[hc]at h1;cases h1
  ·exact⟨a,cap,by rw[hcs,he]⟩
 have hl3:[gQ [10],gQ [92],gQ [34]].length=3:=rfl;have hns:=xX s;refine Spec.enter Tryz.func249 rfl Tryz.ntmps249 (by kernel_rfl) ?_;refine run (aBR rfl bN ?_);refine run (nC rfl ?_);refine run (fA gS rfl rfl rfl ?_);refine run (load1 eZ rfl ‹_› ?_);refine run (aBH rfl aH ?_);refine Ar.i64 (by omega) (by omega) ?_;refine run (aBR rfl bN ?_);refine Br.join [5,6,8,9,10,11,27,28,29,30,31,32,33,34,35,36,37,38,39,40,41,42,43,44,45,46,47,48,49,50,51,52,53,54,55,56,57,58,59,60,61,62,63,64,65,66,67,68,69,70,71,72,73,74,75,76,77,78,79,80] [5,6] (fun vs hh=>vs=[.int .i64 (s.length+nS s:Nat),.bool (decide (nS s≠0))]∧Own h [] hh) rfl rfl ?_ ?_
 ·by_cases hlong:24≤s.length
  ·refine Br.dec (fun c20=>?_) (fun hc=>absurd (by omega) hc)
   refine run (nC rfl ?_);refine run (fA gS rfl rfl rfl ?_);refine run (load1 eZ rfl ‹_› ?_);refine run (aBH rfl aH ?_);refine LoopVC.intro [5,6,8,9,32,33,34,35,36,37,38,39,40,41,42,43,44,45,46,47,48,49,50,51,52,53,54] [5,6,32] (fun vs hh=>∃(q n:Nat),vs=[.int .i64 (s.length+n:Nat),.bool (decide (n≠0)),.int .i64 q]∧(q=0∧n=0∨q=1∧n=s.count 10∨q=2∧n=s.count 10+s.count 92∨q=3∧n=s.count 10+s.count 92+s.count 34)∧Own h [] hh) (fun vs _=>match vs with|[_,_,.int _ q]=>3 - q.toNat|_=>0) ?_ ?_
   ·exact⟨0,0,rfl,.inl ⟨rfl,rfl⟩,o0⟩
   ·rintro vs junk hh ⟨q,n,rfl,hq,oh⟩
    rcases hq with ⟨rfl,rfl⟩|⟨rfl,rfl⟩|⟨rfl,rfl⟩|⟨rfl,rfl⟩
    ·have p1:([10]:List UInt8)[(0:Int).toNat]?=some 10:=rfl
     have p2:UInt8.toNat 10=10:=rfl
     obtain⟨ga,gc,hcell⟩:=hsp 10 (by decide)
     refine Br.tt ?_;refine run (idx aH aN (hT2.ext oh.ext) rfl (by omega) (by omega) ?_);refine run (loadA (hT2.ext oh.ext) aN rfl (by first|assumption|rfl) ?_);refine CallVC.ret (sF s 10 _) ?_;rintro _ h2 ⟨rfl,ob⟩;have o2:=oh.ext' ob;have hcl:s.count 10≤s.length:=List.count_le_length;by_cases hc0:s.count 10=0
     ·refine Br.aBO (fun hc=>absurd (by first|omega|assumption|decide|exact rfl) hc) (fun c35=>?_)
      refine Ar.i64 (by omega) (by omega) ?_
      refine⟨rfl,?_⟩
      refine⟨⟨1,s.count 10,by simp[hc0],by simp[hc0],o2⟩,by simp⟩
     ·refine Br.aBO (fun c40=>?_) (fun hc=>absurd hc (by first|omega|assumption|decide|exact rfl))
      refine DrawVC.intro [0,1,2,3,4,5,6,7,9,10,11,12,13] [8] [] [0,1,2,3,4,5,6,7,8,9,10,11,12,13] mixed (by kernel_rfl) rfl (fun _ _ _ _ h=>h) ?_;refine aBG rfl rfl bN (by omega) ‹_› ?_;refine nC rfl ?_;refine fA gS rfl rfl rfl ?_;refine aBP dX.arr dX.el rfl rfl (by omega) (by omega) ?_;refine load1 kZ rfl (o2.old hcell) ?_;refine aBH rfl fQ ?_;refine Ar.i64 (by omega) (by omega) ?_;refine Ar.i64 (by omega) (by omega) ?_;refine Ar.i64 (by omega) (by omega) ?_;refine Ar.i64 (by omega) (by omega) ?_
      refine⟨rfl,?_⟩
      refine⟨⟨1,s.count 10,?_,by simp,o2⟩,by simp⟩
      have hne:s.count 10≠0:=by omega
      simp only[List.cons.injEq,and_true,Value.int.injEq,true_and,Value.bool.injEq]
      exact⟨by omega,(decide_eq_true hne).symm,rfl⟩
    ·have p1:([92]:List UInt8)[(0:Int).toNat]?=some 92:=rfl
     have p2:UInt8.toNat 92=92:=rfl
     obtain⟨ga,gc,hcell⟩:=hsp 92 (by decide)
     refine Br.tt ?_;refine run (idx aH aN (hT2.ext oh.ext) rfl (by omega) (by omega) ?_);refine run (loadA (hT2.ext oh.ext) aN rfl (by first|assumption|rfl) ?_);refine CallVC.ret (sF s 92 _) ?_;rintro _ h2 ⟨rfl,ob⟩;have o2:=oh.ext' ob;have hcl:s.count 92≤s.length:=List.count_le_length;by_cases hc0:s.count 92=0
     ·refine Br.aBO (fun hc=>absurd (by first|omega|assumption|decide|exact rfl) hc) (fun c65=>?_)
      refine Ar.i64 (by omega) (by omega) ?_
      refine⟨rfl,?_⟩
      refine⟨⟨2,s.count 10+s.count 92,by simp[hc0],by simp[hc0],o2⟩,by simp⟩
     ·refine Br.aBO (fun c70=>?_) (fun hc=>absurd hc (by first|omega|assumption|decide|exact rfl))
      refine DrawVC.intro [0,1,2,3,4,5,6,7,9,10,11,12,13] [8] [] [0,1,2,3,4,5,6,7,8,9,10,11,12,13] mixed (by kernel_rfl) rfl (fun _ _ _ _ h=>h) ?_;refine aBG rfl rfl bN (by omega) ‹_› ?_;refine nC rfl ?_;refine fA gS rfl rfl rfl ?_;refine aBP dX.arr dX.el rfl rfl (by omega) (by omega) ?_;refine load1 kZ rfl (o2.old hcell) ?_;refine aBH rfl fQ ?_;refine Ar.i64 (by omega) (by omega) ?_;refine Ar.i64 (by omega) (by omega) ?_;refine Ar.i64 (by omega) (by omega) ?_;refine Ar.i64 (by omega) (by omega) ?_
      refine⟨rfl,?_⟩
      refine⟨⟨2,s.count 10+s.count 92,?_,by simp,o2⟩,by simp⟩
      have hne:s.count 10+s.count 92≠0:=by omega
      simp only[List.cons.injEq,and_true,Value.int.injEq,true_and,Value.bool.injEq]
      exact⟨by omega,(decide_eq_true hne).symm,rfl⟩
    ·have p1:([34]:List UInt8)[(0:Int).toNat]?=some 34:=rfl
     have p2:UInt8.toNat 34=34:=rfl
     obtain⟨ga,gc,hcell⟩:=hsp 34 (by decide)
     refine Br.tt ?_;refine run (idx aH aN (hT2.ext oh.ext) rfl (by omega) (by omega) ?_);refine run (loadA (hT2.ext oh.ext) aN rfl (by first|assumption|rfl) ?_);refine CallVC.ret (sF s 34 _) ?_;rintro _ h2 ⟨rfl,ob⟩;have o2:=oh.ext' ob;have hcl:s.count 34≤s.length:=List.count_le_length;by_cases hc0:s.count 34=0
     ·refine Br.aBO (fun hc=>absurd (by first|omega|assumption|decide|exact rfl) hc) (fun c95=>?_)
      refine Ar.i64 (by omega) (by omega) ?_
      refine⟨rfl,?_⟩
      refine⟨⟨3,s.count 10+s.count 92+s.count 34,by simp[hc0],by simp[hc0],o2⟩,by simp⟩
     ·refine Br.aBO (fun c100=>?_) (fun hc=>absurd hc (by first|omega|assumption|decide|exact rfl))
      refine DrawVC.intro [0,1,2,3,4,5,6,7,9,10,11,12,13] [8] [] [0,1,2,3,4,5,6,7,8,9,10,11,12,13] mixed (by kernel_rfl) rfl (fun _ _ _ _ h=>h) ?_;refine aBG rfl rfl bN (by omega) ‹_› ?_;refine nC rfl ?_;refine fA gS rfl rfl rfl ?_;refine aBP dX.arr dX.el rfl rfl (by omega) (by omega) ?_;refine load1 kZ rfl (o2.old hcell) ?_;refine aBH rfl fQ ?_;refine Ar.i64 (by omega) (by omega) ?_;refine Ar.i64 (by omega) (by omega) ?_;refine Ar.i64 (by omega) (by omega) ?_;refine Ar.i64 (by omega) (by omega) ?_
      refine⟨rfl,?_⟩
      refine⟨⟨3,s.count 10+s.count 92+s.count 34,?_,by simp,o2⟩,by simp⟩
      have hne:s.count 10+s.count 92+s.count 34≠0:=by omega
      simp only[List.cons.injEq,and_true,Value.int.injEq,true_and,Value.bool.injEq]
      exact⟨by omega,(decide_eq_true hne).symm,rfl⟩
    ·refine Br.ff ?_
     refine⟨rfl,?_⟩
     exact⟨by rw[xX],oh⟩
  ·refine Br.dec (fun hc=>absurd hc (by omega)) (fun c120=>?_)
   refine LoopVC.intro [5,6,10,11,55,56,57,58,59,60,61,62,63,64,65,66,67,68,69,70,71,72,73,74,75,76,77,78,79,80] [5,6,10] (fun vs hh=>∃(i:Nat),i≤s.length∧vs=[.int .i64 (s.length+nS (s.take i):Nat),.bool (decide (nS (s.take i)≠0)),.int .i64 i]∧Own h [] hh) (fun vs _=>match vs with|[_,_,.int _ i]=>s.length - i.toNat|_=>0) ?_ ?_
   ·exact⟨0,by omega,rfl,o0⟩
   ·rintro vs junk hh ⟨i,hi,rfl,oh⟩
    have hnl:nS (s.take i)≤s.length:=Nat.le_trans List.countP_le_length (by simp;omega);by_cases hlt:i<s.length
    ·obtain⟨c,hcx⟩:=getx hlt
     have hn1:=nS_take hcx
     rcases tab_at hv hw hx c with ⟨hf,he⟩|⟨hf,ga,gc,he,_⟩
     ·have hcell:=hcs c
      rw[he]at hcell
      have hc256:=c.toNat_lt
      rw[hf]at hn1
      simp only[Bool.false_eq_true,if_false,Nat.add_zero]at hn1
      refine run (aBR rfl bN ?_);refine Br.dec (fun c131=>?_) (fun hc=>absurd (by omega) hc);refine run (aBG rfl rfl bN (by omega) ‹_› ?_);refine run (nC rfl ?_);refine run (fA gS rfl rfl rfl ?_);refine run (aBP dX.arr dX.el rfl rfl (by omega) (by omega) ?_);refine run (load1 kZ rfl (oh.old hcell) ?_);refine run (neNil fQ rfl rfl ?_);refine Br.ff ?_;refine Ar.i64 (by omega) (by omega) ?_
      refine⟨rfl,?_⟩
      exact⟨⟨i+1,by omega,by rw[hn1];rfl,oh⟩,by simp;omega⟩
     ·have hcell:=hcs c
      rw[he]at hcell
      have hc256:=c.toNat_lt
      rw[hf]at hn1
      simp only[if_true]at hn1
      refine run (aBR rfl bN ?_);refine Br.dec (fun c151=>?_) (fun hc=>absurd (by omega) hc);refine run (aBG rfl rfl bN (by omega) ‹_› ?_);refine run (nC rfl ?_);refine run (fA gS rfl rfl rfl ?_);refine run (aBP dX.arr dX.el rfl rfl (by omega) (by omega) ?_);refine run (load1 kZ rfl (oh.old hcell) ?_);refine run (neNil fQ rfl rfl ?_);refine Br.ttE (by first|omega|(simp;done)) ?_;refine run (nC rfl ?_);refine run (fA gS rfl rfl rfl ?_);refine run (aBP dX.arr dX.el rfl rfl (by omega) (by omega) ?_);refine run (load1 kZ rfl (oh.old hcell) ?_);refine run (aBH rfl fQ ?_);refine Ar.i64 (by omega) (by omega) ?_;refine Ar.i64 (by omega) (by omega) ?_;refine Ar.i64 (by omega) (by omega) ?_
      refine⟨rfl,?_⟩
      refine⟨⟨i+1,by omega,?_,oh⟩,by simp;omega⟩
      rw[hn1]
      simp only[List.cons.injEq,and_true,Value.int.injEq,true_and,Value.bool.injEq]
      exact⟨by omega,(decide_eq_true (by omega)).symm,rfl⟩
    ·have e1:s.take i=s:=List.take_of_length_le (by omega)
     rw[e1]
     refine run (aBR rfl bN ?_);refine Br.dec (fun hc=>absurd hc (by omega)) (fun c181=>?_)
     refine⟨rfl,?_⟩
     exact⟨rfl,oh⟩
 ·rintro vs junk hh ⟨rfl,oh⟩
  by_cases hz:nS s=0
  ·rw[aAN s hz]
   refine Br.aBO (fun c220=>?_) (fun hc=>absurd hc (by first|omega|assumption|decide|exact rfl));refine RetVC.one rfl ?_
   exact⟨rfl,oh⟩
  ·refine Br.aBO (fun hc=>absurd (by first|omega|assumption|decide|exact rfl) hc) (fun c240=>?_)
   (refine RunVC.make oh fQ ty5 rfl rfl (by omega) (by omega) (by omega) ?_;intro b241 m241 o241);have hel:=yV s;refine LoopVC.intro [13,14,15,86,87,88,89,90,91,92,93,94,95,96,97,98,99,100,101,102,103,104,105,106,107,108,109,110,111,112,113,114,115,116,117,118,119] [13,14] (fun vs hh=>∃(i:Nat),i≤s.length∧vs=[.int .i64 ((eB (s.take i)).length:Nat),.int .i64 i]∧Own h [box b241 (bytes (eB (s.take i))++List.replicate (s.length+nS s - (eB (s.take i)).length) (.int .u8 0)) 5] hh) (fun vs _=>match vs with|[_,.int _ i]=>s.length - i.toNat|_=>0) ?_ ?_
   ·rw[Int.toNat_natCast]at o241
    exact⟨0,by omega,rfl,by simpa[eB,bytes] using o241⟩
   ·rintro vs junk h3 ⟨i,hi,rfl,o3⟩
    have hle:=tO s i;have hbl:(bytes (eB (s.take i))).length=(eB (s.take i)).length:=by simp[bytes]
    by_cases hlt:i<s.length
    ·obtain⟨c,hcx⟩:=getx hlt
     have ht1:=escS_take hcx;have hle1:=tO s (i+1);have hc256:=c.toNat_lt
     rw[ht1,List.length_append]at hle1
     rcases tab_at hv hw hx c with ⟨hf,he⟩|⟨hf,ga,gc,he,hA⟩
     ·have hcell:=hcs c
      rw[he]at hcell
      have hl1:(oT c).length=1:=by rw[oS hf];rfl
      generalize hoff:(eB (s.take i)).length=off at *
      refine run (aBR rfl bN ?_);refine Br.dec (fun c251=>?_) (fun hc=>absurd (by omega) hc);refine run (aBG rfl rfl bN (by omega) ‹_› ?_);refine run (nC rfl ?_);refine run (fA gS rfl rfl rfl ?_);refine run (aBP dX.arr dX.el rfl rfl (by omega) (by omega) ?_);refine run (load1 kZ rfl (o3.old hcell) ?_);refine run (neNil fQ rfl rfl ?_);refine Br.ff ?_;refine run (idxB o3 0 rfl fQ ty5 rfl rfl (by omega) (by first|omega|(simp;omega)) ?_);(refine RunVC.store o3 0 rfl ty5 rfl (by first|omega|(simp;omega)) (aI ⟨rfl,rfl⟩ ?_);intro m259 o259);refine Ar.i64 (by omega) (by omega) ?_;refine Ar.i64 (by omega) (by omega) ?_
      refine⟨rfl,?_⟩
      refine⟨⟨i+1,by omega,by rw[ht1,List.length_append,hl1,hoff];rfl,?_⟩,by simp;omega⟩
      have hfill:=fillSet (eB (s.take i)) c (s.length+nS s) (by omega)
      rw[hoff]at hfill
      rw[ht1,oS hf,← hfill]
      assumption
     ·have hcell:=hcs c
      rw[he]at hcell
      have hl2:(oT c).length=2:=by rw[yX,hf];rfl
      generalize hoff:(eB (s.take i)).length=off at *
      have hbl2:(bytes (oT c)).length=2:=by simp[bytes,hl2]
      refine run (aBR rfl bN ?_);refine Br.dec (fun c301=>?_) (fun hc=>absurd (by omega) hc);refine run (aBG rfl rfl bN (by omega) ‹_› ?_);refine run (nC rfl ?_);refine run (fA gS rfl rfl rfl ?_);refine run (aBP dX.arr dX.el rfl rfl (by omega) (by omega) ?_);refine run (load1 kZ rfl (o3.old hcell) ?_);refine run (neNil fQ rfl rfl ?_);refine Br.ttE (by first|omega|(simp;done)) ?_;refine DrawVC.intro [0,1,2,3,4,5,6,7,8,11,12] [9] [10] [0,1,2,3,4,5,6,7,8,9,10,11,12] mixed (by kernel_rfl) rfl (fun _ _ _ _ h=>h) ?_;refine sliceFB fQ ty5 rfl rfl (by omega) (by omega) (by omega) ?_;refine nC rfl ?_;refine fA gS rfl rfl rfl ?_;refine aBP dX.arr dX.el rfl rfl (by omega) (by omega) ?_;refine load1 kZ rfl (o3.old hcell) ?_;(refine RunVC.copyB o3 0 rfl fQ ty5 rfl (hA.ext o3.ext) (by first|omega|(simp;done)|(simp;omega)) (by first|omega|(simp;omega)) (by first|omega|(simp;omega)) (by simp[Value.oneCell']) ?_;intro m314 o314);refine Ar.i64 (by omega) (by omega) ?_;refine Ar.i64 (by omega) (by omega) ?_
      refine⟨rfl,?_⟩
      refine⟨⟨i+1,by omega,by rw[ht1,List.length_append,hl2,hbl2,hoff];rfl,?_⟩,by simp;omega⟩
      have hfill:=fillCopy (eB (s.take i)) (oT c) (s.length+nS s) (by omega)
      rw[hoff,hl2]at hfill
      rw[ht1,← hfill]
      rw[hbl2]at *
      assumption
    ·have e1:s.take i=s:=List.take_of_length_le (by omega)
     rw[e1,hel,Nat.sub_self,List.replicate_zero,List.append_nil]at o3
     refine run (aBR rfl bN ?_);refine Br.dec (fun hc=>absurd hc (by omega)) (fun c351=>?_);refine run (aB2 (l:=eB s) (Own.boxArr o3 0 rfl (by rw[Int.toNat_natCast];simp[bytes,hel]) (Nat.le_refl _)) fQ aBi bN ?_);refine RetVC.one rfl ?_
     exact⟨rfl,o3.sel [] rfl⟩
def RepF (cs2:List Value)(L2:List Item):Prop:=∃ rb cs t v w x,RepC cs t (aA7 v w x)∧cs2=[.int .u32 0,.int .i32 1,.int .u32 0,.iface 250 (pA rb 0),tF] ∧
 L2=[box rb cs 249,row t 9 1 3 [gQ [10],gQ [92],gQ [34]],ro v (bytes [92,110]),ro w (bytes [92,92]),ro x (bytes [92,34])]
theorem aA6 (b:Nat)(a:Option Addr)(c:Nat)(B:Base)(s:List UInt8)(h:Heap)(hl:s.length≤1000000)
  (o0:Own B [box b (xO a c) 220,row (.slice a 6 c) 9 1 6 fV] h) :
  cK Tryz.prog 148 [pA b 0,.string ⟨⟨s⟩⟩] h fun r h'=>r=.string ⟨⟨eB s⟩⟩∧Own B [] h':=by
 refine Spec.enter Tryz.func148 rfl Tryz.ntmps148 (by kernel_rfl) ?_;refine run (nC rfl ?_);refine run (fA aAl rfl rfl rfl ?_);refine run (aBQ ?_);refine CallVC.ret (do_spec ⟨B.h,[row (.slice a 6 c) 9 1 6 fV]++B.T⟩ b (xO a c) (RepF) 220 166 [pA b 0] [] _ (o0.lend [0] [1] rfl) rfl rfl ?_) ?_
 ·intro h' o'
  refine(zI B b (.int .u32 0) (.int .i32 1) (.int .u32 0) .nilIface a c h' o').mono ?_
  rintro _ h2 ⟨rfl,rb,cs,t,v,w,x,hR,o2⟩
  exact⟨rfl,_,_,⟨rb,cs,t,v,w,x,hR,rfl,rfl⟩,rfl,rfl,o2.lend [0,2,3,4,5,6] [1] rfl⟩
 ·rintro _ h1 ⟨rfl,_,_,⟨rb,cs,t,v,w,x,hR,rfl,rfl⟩,o1⟩
  have o1':Own ⟨B.h,[row (.slice a 6 c) 9 1 6 fV]++B.T⟩ [box b [.int .u32 1,.int .i32 0,.int .u32 0,.iface 250 (pA rb 0),tF] 220,box rb cs 249,row t 9 1 3 [gQ [10],gQ [92],gQ [34]],ro v (bytes [92,110]),ro w (bytes [92,92]),ro x (bytes [92,34])] h1:=o1;clear o1;refine run (nC rfl ?_);refine run (fA aAl rfl rfl rfl ?_);refine run (aBx o1' 0 rfl ty218 rfl rfl ?_);refine RunVC.invokeR (g:=249) (full:=[pA rb 0,.string ⟨⟨s⟩⟩]) rfl (fun w=>by kernel_rfl) (zJ rb t v w x s _ hl ?_ ?_ (o1'.rowArr 2 rfl) (o1'.roArr 3 rfl) (o1'.roArr 4 rfl) (o1'.roArr 5 rfl)) ?_
  ·exact(o1'.cellB 1 rfl _).trans hR.last
  ·exact fun i hi=>(o1'.cellB 1 rfl _).trans (hR.at_ i hi)
  ·rintro _ h2 ⟨rfl,o2⟩
   refine RetVC.one rfl ?_
   refine⟨rfl,?_⟩
   have o3:=(o1'.sel [] rfl).ext' o2;exact Own.sel (L:=[row (.slice a 6 c) 9 1 6 fV]) o3 [] rfl
theorem iH (B:Base)(b:Nat)(p v:Value)(k:Int)(bs:List UInt8)(x:Vl)(h:Heap)(hp:cN b p)(hT:iQ B.h)
  (o:Own B [box b [p,v,.int .i64 k] 58,row v 5 1 bs.length (bytes bs)] h) (hl:bs.length≤50000000000000) (ht:x.t.length≤1000000000000000) (hn:-9223372036854775808≤x.n∧x.n≤9223372036854775807) (hk:0≤k∧k≤50000000000000) :
  Spec Tryz.prog 123 [.pointer (some ⟨b,0,none⟩),.agg ⟨[.int .i64 x.k,.int .i64 x.n,.string ⟨⟨x.t⟩⟩]⟩] h (WEnds B b bs k 450 (bR x)):=by
 refine Spec.enter Tryz.func123 rfl Tryz.ntmps123 (by kernel_rfl) ?_;by_cases h0:x.k=0
 ·(refine RunVC.aBS o rfl ?_;intro b10 m10 o10)
  refine run (aBB o10 2 rfl bU rfl rfl rfl ?_);(refine RunVC.alloc o10 bU ?_;intro b12 m12 o12);(refine RunVC.aBA o12 3 rfl bU rfl (by decide) (aI ⟨rfl,rfl⟩ ?_);intro m13 o13);refine run (fA eH rfl rfl rfl ?_);(refine RunVC.store o13 3 rfl aW rfl (by simp) (aI ⟨rfl,rfl⟩ ?_);intro m15 o15);refine run (fA eH rfl rfl rfl ?_);refine run (aBx o15 2 rfl aW rfl rfl ?_);refine Br.dec (fun c18=>?_) (fun hc=>absurd (by omega) hc);refine run (nC rfl ?_);refine run (fA bM rfl rfl rfl ?_);(refine RunVC.lit o15 aH aN rfl rfl (by decide) (aI rfl ?_);intro b21 m21 o21);refine aE [[32,110,117,108,108]] 1 30 [2,3] (i:=4) ‹_› rfl rfl rfl hp rfl (by omega) (by omega) (by simp) (by omega) (by omega) (fun p1 v1 bs1 k1 m1 hp1 hb1 hk1 hl1 oq=>?_);have o1:=oq
  simp only[pick,lgS,lgZ]at o1
  clear oq;refine run (aBB o1 3 rfl bU rfl rfl rfl ?_);refine run (aBE eH ?_);refine run (eqS pI rfl rfl rfl rfl ?_);refine MEnds.aBC ‹_› (aC _ _) (fun e1 m2 _ oq=>?_) fun e1 m2 oq=>?_
  ·simp at e1
   have hq:bR x=some [aG [32] [110,117,108,108]]:=by unfold bR;rw[if_pos h0,if_pos e1]
   refine RetVC.zero rfl ?_;exact WEnds.done hq (oq.sel [0,1] rfl) hp1 (by rw[hb1];rfl) hk1 (by omega) (by omega)
  ·simp at e1
   have hq:bR x=none:=by unfold bR;rw[if_pos h0,if_neg (by rintro⟨a,b⟩;exact e1 a b)]
   exact⟨hq,rfl,oq⟩
 by_cases h4:x.k=4
 ·by_cases hmx:x.n=9223372036854775807
  ·(refine RunVC.aBS o rfl ?_;intro b50 m50 o50)
   refine run (aBB o50 2 rfl bU rfl rfl rfl ?_);(refine RunVC.alloc o50 bU ?_;intro b52 m52 o52);(refine RunVC.aBA o52 3 rfl bU rfl (by decide) (aI ⟨rfl,rfl⟩ ?_);intro m53 o53);refine run (fA eH rfl rfl rfl ?_);(refine RunVC.store o53 3 rfl aW rfl (by simp) (aI ⟨rfl,rfl⟩ ?_);intro m55 o55);refine run (fA eH rfl rfl rfl ?_);refine run (aBx o55 2 rfl aW rfl rfl ?_);refine Br.dec (fun hc=>absurd hc (by omega)) (fun c58=>?_);refine Br.dec (fun hc=>absurd hc (by omega)) (fun c59=>?_);refine Br.dec (fun hc=>absurd hc (by omega)) (fun c60=>?_);refine Br.dec (fun hc=>absurd hc (by omega)) (fun c61=>?_);refine Br.dec (fun c62=>?_) (fun hc=>absurd (by omega) hc);refine run (fA eH rfl rfl rfl ?_);(refine RunVC.store o55 3 rfl aW rfl (by simp) (aI ⟨rfl,rfl⟩ ?_);intro m64 o64);refine DrawVC.intro [0,1,2,3,5] [4] [7,8,9] [0,1,2,3,4,5,6,7,8,9] mixed (by kernel_rfl) rfl (fun _ _ _ _ h=>h) ?_;refine nC rfl ?_;refine fA bM rfl rfl rfl ?_;refine fA eH rfl rfl rfl ?_;refine aBx o64 2 rfl aW rfl rfl ?_;refine Ar.i64n (m:=-9223372036854775808) (by decide) (by decide) (by omega) ?_;(refine RunVC.lit (Own.refl _) aH aN rfl rfl (by decide) (aI rfl ?_);intro b55 m55 o55);(refine aI o55.ext ?_;have o56:=Own.call o64 o55;simp only[lcA,lnA]at o56;clear o55);refine MEnds.aBC ‹_› (dN _ [[102,97,108,115,101],[116,114,117,101]] _ _ (by omega) (by omega) (Own.boxArr ‹_› 4 rfl rfl (by decide)) (by simp) (by simp)) (fun e1 m2 _ oq=>by cases e1) fun e1 m2 oq=>?_;have hq:bR x=none:=by unfold bR;rw[if_neg h0,if_neg (by omega),if_neg (by omega),if_neg (by omega),if_pos h4,if_neg (by omega)]
   exact⟨hq,rfl,oq⟩
  ·(refine RunVC.aBS o rfl ?_;intro b60 m60 o60)
   refine run (aBB o60 2 rfl bU rfl rfl rfl ?_);(refine RunVC.alloc o60 bU ?_;intro b62 m62 o62);(refine RunVC.aBA o62 3 rfl bU rfl (by decide) (aI ⟨rfl,rfl⟩ ?_);intro m63 o63);refine run (fA eH rfl rfl rfl ?_);(refine RunVC.store o63 3 rfl aW rfl (by simp) (aI ⟨rfl,rfl⟩ ?_);intro m65 o65);refine run (fA eH rfl rfl rfl ?_);refine run (aBx o65 2 rfl aW rfl rfl ?_);refine Br.dec (fun hc=>absurd hc (by omega)) (fun c68=>?_);refine Br.dec (fun hc=>absurd hc (by omega)) (fun c69=>?_);refine Br.dec (fun hc=>absurd hc (by omega)) (fun c70=>?_);refine Br.dec (fun hc=>absurd hc (by omega)) (fun c71=>?_);refine Br.dec (fun c72=>?_) (fun hc=>absurd (by omega) hc);refine run (fA eH rfl rfl rfl ?_);(refine RunVC.store o65 3 rfl aW rfl (by simp) (aI ⟨rfl,rfl⟩ ?_);intro m74 o74);refine DrawVC.intro [0,1,2,3,5] [4] [7,8,9] [0,1,2,3,4,5,6,7,8,9] mixed (by kernel_rfl) rfl (fun _ _ _ _ h=>h) ?_;refine nC rfl ?_;refine fA bM rfl rfl rfl ?_;refine fA eH rfl rfl rfl ?_;refine aBx o74 2 rfl aW rfl rfl ?_;refine Ar.i64 (by omega) (by omega) ?_;(refine RunVC.lit (Own.refl _) aH aN rfl rfl (by decide) (aI rfl ?_);intro b79 m79 o79);(refine aI o79.ext ?_;have o80:=Own.call o74 o79;simp only[lcA,lnA]at o80;clear o79);refine MEnds.aBC ‹_› (dN _ [[102,97,108,115,101],[116,114,117,101]] _ _ (by omega) (by omega) (Own.boxArr ‹_› 4 rfl rfl (by decide)) (by simp) (by simp)) (fun e1 m2 _ oq=>?_) fun e1 m2 oq=>?_
   ·have e1:=of_decide_eq_true e1
    simp only[List.length_cons,List.length_nil]at e1
    have hw:([[102,97,108,115,101],[116,114,117,101]]:List (List UInt8)).getD (x.n+1 - 1).toNat []=(if x.n=0 then[102,97,108,115,101] else[116,114,117,101]):=by
     by_cases hz:x.n=0
     ·rw[hz];rfl
     ·have:x.n=1:=by omega
      rw[this];rfl
    rw[hw]
    have hwl:((if x.n=0 then[102,97,108,115,101] else[116,114,117,101]):List UInt8).length≤5:=by split<;>simp
    generalize hW:((if x.n=0 then[102,97,108,115,101] else[116,114,117,101]):List UInt8)=W at hwl
    (refine RunVC.lit oq aH aN rfl rfl (by decide) (aI rfl ?_);intro b70 m70 o70);refine aE [32::W] 1 30 [2,3] (i:=5) ‹_› rfl rfl rfl hp rfl (by omega) (by omega) (by simp;omega) (by omega) (by omega) (fun p1 v1 bs1 k1 m1 hp1 hb1 hk1 hl1 oq=>?_);have o1:=oq
    simp only[pick,lgS,lgZ]at o1
    clear oq;refine run (aBB o1 3 rfl bU rfl rfl rfl ?_);refine run (aBE eH ?_);refine run (eqS pI rfl rfl rfl rfl ?_);refine MEnds.aBC ‹_› (aC _ _) (fun e2 m2 _ oq=>?_) fun e2 m2 oq=>?_
    ·simp at e2
     have hq:bR x=some [aG [32] W]:=by unfold bR;rw[if_neg h0,if_neg (by omega),if_neg (by omega),if_neg (by omega),if_pos h4,if_pos ⟨e2,by omega⟩,hW]
     refine RetVC.zero rfl ?_;exact WEnds.done hq (oq.sel [0,1] rfl) hp1 (by rw[hb1];simp[bE,fR,wr,aG]) hk1 (by omega) (by omega)
    ·simp at e2
     have hq:bR x=none:=by unfold bR;rw[if_neg h0,if_neg (by omega),if_neg (by omega),if_neg (by omega),if_pos h4,if_neg (by rintro⟨a,_⟩;exact e2 a)]
     exact⟨hq,rfl,oq⟩
   ·have e1:=of_decide_eq_false e1
    simp only[List.length_cons,List.length_nil]at e1
    have hq:bR x=none:=by unfold bR;rw[if_neg h0,if_neg (by omega),if_neg (by omega),if_neg (by omega),if_pos h4,if_neg (by omega)]
    exact⟨hq,rfl,oq⟩
 by_cases h3:x.k=3
 ·(refine RunVC.aBS o rfl ?_;intro b100 m100 o100)
  refine run (aBB o100 2 rfl bU rfl rfl rfl ?_);(refine RunVC.alloc o100 bU ?_;intro b102 m102 o102);(refine RunVC.aBA o102 3 rfl bU rfl (by decide) (aI ⟨rfl,rfl⟩ ?_);intro m103 o103);refine run (fA eH rfl rfl rfl ?_);(refine RunVC.store o103 3 rfl aW rfl (by simp) (aI ⟨rfl,rfl⟩ ?_);intro m105 o105);refine run (fA eH rfl rfl rfl ?_);refine run (aBx o105 2 rfl aW rfl rfl ?_);refine Br.dec (fun hc=>absurd hc (by omega)) (fun c108=>?_);refine Br.dec (fun hc=>absurd hc (by omega)) (fun c109=>?_);refine Br.dec (fun hc=>absurd hc (by omega)) (fun c110=>?_);refine Br.dec (fun c111=>?_) (fun hc=>absurd (by omega) hc);refine run (fA eH rfl rfl rfl ?_);(refine RunVC.store o105 3 rfl aW rfl (by simp) (aI ⟨rfl,rfl⟩ ?_);intro m113 o113);refine DrawVC.intro [0,1,2,3] [4] [5,6,7] [0,1,2,3,4,5,6,7] mixed (by kernel_rfl) rfl (fun _ _ _ _ h=>h) ?_;refine nC rfl ?_;refine fA bM rfl rfl rfl ?_;refine fA eH rfl rfl rfl ?_;refine aBx o113 2 rfl aW rfl rfl ?_;refine MEnds.aBC ‹_› (bH x.n _ hn.1 hn.2 (hT.ext (Own.ext ‹_›))) (fun e1 m2 _ oq=>?_) fun e1 m2 oq=>?_
  ·have hil:=bV e1
   (refine RunVC.lit oq aH aN rfl rfl (by decide) (aI rfl ?_);intro b110 m110 o110);refine aE [[32,64],Lib.itoa x.n] 2 30 [2,3] (i:=4) ‹_› rfl rfl rfl hp rfl (by omega) (by omega) (by simp;omega) (by omega) (by omega) (fun p1 v1 bs1 k1 m1 hp1 hb1 hk1 hl1 oq=>?_);have o1:=oq
   simp only[pick,lgS,lgZ]at o1
   clear oq;refine run (aBB o1 3 rfl bU rfl rfl rfl ?_);refine run (aBE eH ?_);refine run (eqS pI rfl rfl rfl rfl ?_);refine MEnds.aBC ‹_› (aC _ _) (fun e2 m2 _ oq=>?_) fun e2 m2 oq=>?_
   ·simp at e2
    have hq:bR x=some [aP [32] [64],bQ [] x.n]:=by unfold bR;rw[if_neg h0,if_neg (by omega),if_neg (by omega),if_pos h3,if_pos ⟨e2,e1⟩]
    refine RetVC.zero rfl ?_;exact WEnds.done hq (oq.sel [0,1] rfl) hp1 (by rw[hb1];simp[bE,fR,wr,aP,bQ]) hk1 (by omega) (by omega)
   ·simp at e2
    have hq:bR x=none:=by unfold bR;rw[if_neg h0,if_neg (by omega),if_neg (by omega),if_pos h3,if_neg (by rintro⟨a,_⟩;exact e2 a)]
    exact⟨hq,rfl,oq⟩
  ·have hq:bR x=none:=by unfold bR;rw[if_neg h0,if_neg (by omega),if_neg (by omega),if_pos h3,if_neg (by rintro⟨_,e⟩;rw[e1]at e;cases e)]
   exact⟨hq,rfl,oq⟩
 by_cases h2:x.k=2
 ·by_cases hneg:x.n<0
  ·(refine RunVC.aBS o rfl ?_;intro b140 m140 o140)
   refine run (aBB o140 2 rfl bU rfl rfl rfl ?_);(refine RunVC.alloc o140 bU ?_;intro b142 m142 o142);(refine RunVC.aBA o142 3 rfl bU rfl (by decide) (aI ⟨rfl,rfl⟩ ?_);intro m143 o143);refine run (fA eH rfl rfl rfl ?_);(refine RunVC.store o143 3 rfl aW rfl (by simp) (aI ⟨rfl,rfl⟩ ?_);intro m145 o145);refine run (fA eH rfl rfl rfl ?_);refine run (aBx o145 2 rfl aW rfl rfl ?_);refine Br.dec (fun hc=>absurd hc (by omega)) (fun c148=>?_);refine Br.dec (fun hc=>absurd hc (by omega)) (fun c149=>?_);refine Br.dec (fun c150=>?_) (fun hc=>absurd (by omega) hc);refine run (fA eH rfl rfl rfl ?_);(refine RunVC.store o145 3 rfl aW rfl (by simp) (aI ⟨rfl,rfl⟩ ?_);intro m152 o152);refine run (fA eH rfl rfl rfl ?_);refine run (aBx o152 2 rfl aW rfl rfl ?_);refine Br.dec (fun c155=>?_) (fun hc=>absurd (by omega) hc);refine run (fA eH rfl rfl rfl ?_);refine run (aBx o152 2 rfl aW rfl rfl ?_);refine MEnds.aBC ‹_› (aC _ _) (fun e1 m2 _ oq=>?_) fun e1 m2 oq=>?_
   ·have e1:=of_decide_eq_true e1
    refine DrawVC.intro [0,1,2,3,5] [4] [6,7,8] [0,1,2,3,4,5,6,7,8] mixed (by kernel_rfl) rfl (fun _ _ _ _ h=>h) ?_;refine nC rfl ?_;refine fA bM rfl rfl rfl ?_;refine fA eH rfl rfl rfl ?_;refine aBx oq 2 rfl aW rfl rfl ?_;refine Ar.i64 (by omega) (by omega) ?_;have hno:gZ (-x.n)=true:=decide_eq_true (by omega)
    rw[Int.zero_sub]
    refine MEnds.aBC ‹_› (bH _ _ (by omega) (by omega) (hT.ext (Own.ext ‹_›))) (fun e2 m3 _ oq=>?_) fun e2 m3 oq=>?_
    ·have hil:=bV hno
     (refine RunVC.lit oq aH aN rfl rfl (by decide) (aI rfl ?_);intro b160 m160 o160);refine aE [[32,45],Lib.itoa (-x.n)] 2 30 [2,3] (i:=4) ‹_› rfl rfl rfl hp rfl (by omega) (by omega) (by simp;omega) (by omega) (by omega) (fun p1 v1 bs1 k1 m1 hp1 hb1 hk1 hl1 oq=>?_);have o1:=oq
     simp only[pick,lgS,lgZ]at o1
     clear oq;refine run (aBB o1 3 rfl bU rfl rfl rfl ?_);refine run (aBE eH ?_);refine run (eqS pI rfl rfl rfl rfl ?_);refine MEnds.aBC ‹_› (aC _ _) (fun e2 m2 _ oq=>?_) fun e2 m2 oq=>?_
     ·simp at e2
      have hq:bR x=some [aP [32] [45],bQ [] (-x.n)]:=by unfold bR;rw[if_neg h0,if_neg (by omega),if_pos h2,if_pos ⟨e2,by omega⟩,if_pos hneg]
      refine RetVC.zero rfl ?_;exact WEnds.done hq (oq.sel [0,1] rfl) hp1 (by rw[hb1];simp[bE,fR,wr,aP,bQ]) hk1 (by omega) (by omega)
     ·simp at e2
      have hq:bR x=none:=by unfold bR;rw[if_neg h0,if_neg (by omega),if_pos h2,if_neg (by rintro⟨a,_⟩;exact e2 a)]
      exact⟨hq,rfl,oq⟩
    ·rw[hno]at e2
     cases e2
   ·have e1:=of_decide_eq_false e1
    have hq:bR x=none:=by unfold bR;rw[if_neg h0,if_neg (by omega),if_pos h2,if_neg (by omega)]
    exact⟨hq,rfl,oq⟩
  ·(refine RunVC.aBS o rfl ?_;intro b200 m200 o200)
   refine run (aBB o200 2 rfl bU rfl rfl rfl ?_);(refine RunVC.alloc o200 bU ?_;intro b202 m202 o202);(refine RunVC.aBA o202 3 rfl bU rfl (by decide) (aI ⟨rfl,rfl⟩ ?_);intro m203 o203);refine run (fA eH rfl rfl rfl ?_);(refine RunVC.store o203 3 rfl aW rfl (by simp) (aI ⟨rfl,rfl⟩ ?_);intro m205 o205);refine run (fA eH rfl rfl rfl ?_);refine run (aBx o205 2 rfl aW rfl rfl ?_);refine Br.dec (fun hc=>absurd hc (by omega)) (fun c208=>?_);refine Br.dec (fun hc=>absurd hc (by omega)) (fun c209=>?_);refine Br.dec (fun c210=>?_) (fun hc=>absurd (by omega) hc);refine run (fA eH rfl rfl rfl ?_);(refine RunVC.store o205 3 rfl aW rfl (by simp) (aI ⟨rfl,rfl⟩ ?_);intro m212 o212);refine run (fA eH rfl rfl rfl ?_);refine run (aBx o212 2 rfl aW rfl rfl ?_);refine Br.dec (fun hc=>absurd hc (by omega)) (fun c215=>?_);refine DrawVC.intro [0,1,2,3,6] [4] [5,7,8] [0,1,2,3,4,5,6,7,8] mixed (by kernel_rfl) rfl (fun _ _ _ _ h=>h) ?_;refine nC rfl ?_;refine fA bM rfl rfl rfl ?_;refine fA eH rfl rfl rfl ?_;refine aBx o212 2 rfl aW rfl rfl ?_;refine MEnds.aBC ‹_› (bH _ _ (by omega) (by omega) (hT.ext (Own.ext ‹_›))) (fun e2 m3 _ oq=>?_) fun e2 m3 oq=>?_
   ·have hil:=bV e2
    have hnn:=of_decide_eq_true e2;refine aBF rfl rfl (by first|omega|(simp;omega)) ?_;(refine RunVC.lit oq aH aN rfl rfl (by decide) (aI rfl ?_);intro b211 m211 o211);refine aE [[32]++Lib.itoa x.n] 1 30 [2,3] (i:=4) ‹_› rfl rfl rfl hp rfl (by omega) (by omega) (by simp;omega) (by omega) (by omega) (fun p1 v1 bs1 k1 m1 hp1 hb1 hk1 hl1 oq=>?_);have o1:=oq
    simp only[pick,lgS,lgZ]at o1
    clear oq;refine run (aBB o1 3 rfl bU rfl rfl rfl ?_);refine run (aBE eH ?_);refine run (eqS pI rfl rfl rfl rfl ?_);refine MEnds.aBC ‹_› (aC _ _) (fun e2 m2 _ oq=>?_) fun e2 m2 oq=>?_
    ·simp at e2
     have hq:bR x=some [bQ [32] x.n]:=by unfold bR;rw[if_neg h0,if_neg (by omega),if_pos h2,if_pos ⟨e2,by omega⟩,if_neg hneg]
     refine RetVC.zero rfl ?_;exact WEnds.done hq (oq.sel [0,1] rfl) hp1 (by rw[hb1];simp[bE,fR,wr,bQ]) hk1 (by omega) (by omega)
    ·simp at e2
     have hq:bR x=none:=by unfold bR;rw[if_neg h0,if_neg (by omega),if_pos h2,if_neg (by rintro⟨a,_⟩;exact e2 a)]
     exact⟨hq,rfl,oq⟩
   ·have hnn:=of_decide_eq_false e2
    have hq:bR x=none:=by unfold bR;rw[if_neg h0,if_neg (by omega),if_pos h2,if_neg (by omega)]
    exact⟨hq,rfl,oq⟩
 by_cases h1:x.k=1
 ·(refine RunVC.aBS o rfl ?_;intro b240 m240 o240)
  refine run (aBB o240 2 rfl bU rfl rfl rfl ?_);(refine RunVC.alloc o240 bU ?_;intro b242 m242 o242);(refine RunVC.aBA o242 3 rfl bU rfl (by decide) (aI ⟨rfl,rfl⟩ ?_);intro m243 o243);refine run (fA eH rfl rfl rfl ?_);(refine RunVC.store o243 3 rfl aW rfl (by simp) (aI ⟨rfl,rfl⟩ ?_);intro m245 o245);refine run (fA eH rfl rfl rfl ?_);refine run (aBx o245 2 rfl aW rfl rfl ?_);refine Br.dec (fun hc=>absurd hc (by omega)) (fun c248=>?_);refine Br.dec (fun c249=>?_) (fun hc=>absurd (by omega) hc);refine run (fA eH rfl rfl rfl ?_);refine run (aBx o245 2 rfl aN rfl rfl ?_);refine run (aBR rfl bN ?_);refine MEnds.aBC ‹_› (aC _ _) (fun e1 m2 _ oq=>?_) fun e1 m2 oq=>?_
  ·have e1:=of_decide_eq_true e1
   refine run (fA eH rfl rfl rfl ?_);(refine RunVC.store oq 3 rfl aN rfl (by simp) (aI ⟨rfl,rfl⟩ ?_);intro m251 o251);refine DrawVC.introB b240 [0,1,2,5,8,9] [6] [7,10,11] [0,1,2,5,6,3,4,7,8,9,10,11] mixed (by kernel_rfl) rfl (fun _ _ _ _ h=>h) ?_;refine nC rfl ?_;refine fA bM rfl rfl rfl ?_;refine fA eH rfl rfl rfl ?_;refine StillVCA.load1 aN rfl rfl ((o251.cellB 2 rfl _).trans rfl) ?_;(refine RunVC.lit o251 aH aN rfl rfl (by decide) (aI rfl ?_);intro b266 m266 o266);refine aI ((o266.boxBlk 2 rfl).trans (o251.boxBlk 2 rfl).symm) ?_;refine CallVC.ret (uK _ _ (Own.boxArr ‹_› 4 rfl (n:=6) (c:=6) rfl (by decide))) ?_;rintro _ h2 ⟨rb,ra,rc,rfl,ob⟩;have o2:=Own.call (B:=B) ‹_› ob
   simp only[lcA,lnA]at o2
   clear ob;refine aI ((o2.boxBlk 2 rfl).trans (o266.boxBlk 2 rfl).symm) ?_;refine CallVC.ret (aA6 rb ra rc _ x.t _ (by omega) (o2.lend [5,6] [0,1,2,3] rfl)) ?_;rintro _ h3 ⟨rfl,oc⟩;have o3:=oc.back;clear oc o2
   simp only[pick,lgS,lgZ,lnA]at o3
   have hel:=escS_le x.t;refine aBF rfl rfl (by first|omega|(simp;omega)) ?_;refine aBF rfl rfl (by first|omega|(simp;omega)) ?_;(refine RunVC.lit o3 aH aN rfl rfl (by decide) (aI rfl ?_);intro b282 m282 o282);refine aE [[32,34]++eB x.t++[34]] 1 410 [2,3] (i:=4) ‹_› rfl rfl rfl hp rfl (by omega) (by omega) (by simp;omega) (by omega) (by omega) (fun p1 v1 bs1 k1 m1 hp1 hb1 hk1 hl1 oq=>?_);have o4:=oq
   simp only[pick,lgS,lgZ]at o4
   clear oq;refine run (aBB o4 3 rfl bU rfl rfl rfl ?_);refine run (aBE eH ?_);refine run (eqS pI rfl rfl rfl rfl ?_);refine MEnds.aBC ‹_› (aC _ _) (fun e2 m2 _ oq=>?_) fun e2 m2 oq=>?_
   ·simp at e2
    have hq:bR x=some [txtT [32] x.t]:=by unfold bR;rw[if_neg h0,if_pos h1,if_pos ⟨e2,by omega⟩]
    refine RetVC.zero rfl ?_;exact WEnds.done hq (oq.sel [0,1] rfl) hp1 (by rw[hb1];simp[bE,fR,wr,txtT]) hk1 (by omega) (by omega)
   ·simp at e2
    have hq:bR x=none:=by unfold bR;rw[if_neg h0,if_pos h1,if_neg (by rintro⟨a,_⟩;exact e2 a)]
    exact⟨hq,rfl,oq⟩
  ·have e1:=of_decide_eq_false e1
   have hq:bR x=none:=by unfold bR;rw[if_neg h0,if_pos h1,if_neg (by omega)]
   exact⟨hq,rfl,oq⟩
 ·(refine RunVC.aBS o rfl ?_;intro b300 m300 o300)
  refine run (aBB o300 2 rfl bU rfl rfl rfl ?_);(refine RunVC.alloc o300 bU ?_;intro b302 m302 o302);(refine RunVC.aBA o302 3 rfl bU rfl (by decide) (aI ⟨rfl,rfl⟩ ?_);intro m303 o303);refine run (fA eH rfl rfl rfl ?_);(refine RunVC.store o303 3 rfl aW rfl (by simp) (aI ⟨rfl,rfl⟩ ?_);intro m305 o305);refine run (fA eH rfl rfl rfl ?_);refine run (aBx o305 2 rfl aW rfl rfl ?_);refine Br.dec (fun hc=>absurd hc (by omega)) (fun c308=>?_);refine Br.dec (fun hc=>absurd hc (by omega)) (fun c309=>?_);refine Br.dec (fun hc=>absurd hc (by omega)) (fun c310=>?_);refine Br.dec (fun hc=>absurd hc (by omega)) (fun c311=>?_);refine Br.dec (fun hc=>absurd hc (by omega)) (fun c312=>?_);refine MEnds.aBC ‹_› (aC _ _) (fun e1 m2 _ oq=>by cases e1) fun e1 m2 oq=>?_;have hq:bR x=none:=by unfold bR;rw[if_neg h0,if_neg h1,if_neg h2,if_neg h3,if_neg h4]
  exact⟨hq,rfl,oq⟩
def qS (kind:Int)(table:List UInt8)(vk vc vn:Value)(attr as_:List UInt8)(agg:Int)(z:Int):List Value :=
 [.int .i64 kind,.string ⟨⟨table⟩⟩,vk,vc,vn,.string ⟨⟨attr⟩⟩,.string ⟨⟨as_⟩⟩,.int .i64 agg,.int .i64 z]
mutual
def lM (H:Heap)(c:List Value):Ex→Prop
 | .mk kind table kids conds names attr as_ agg _=>∃ vk vc vn z,c=qS kind table vk vc vn attr as_ agg z ∧
   cR 14 H vc conds.length (conds.flatMap oW)∧cR 1 H vn names.length (names.flatMap rV)∧∃ xs:List cV,cR 9 H vk kids.length (xs.flatMap Subtype.val)∧mT H xs kids
def mT (H:Heap):List cV→List Ex→Prop
 | [],[]=>True
 | c::cs,x::xs=>lM H c.1 x∧mT H cs xs
 | _,_=>False
end
mutual
theorem lM.ext {H H':Heap}(e:Ext H H'):∀(x:Ex)(c:List Value),lM H c x→lM H' c x
 | .mk kind table kids conds names attr as_ agg off,c,h=>by
  rw[lM]at h ⊢
  obtain⟨vk,vc,vn,z,h1,h2,h3,xs,h4,h5⟩:=h
  exact⟨vk,vc,vn,z,h1,h2.ext e,h3.ext e,xs,h4.ext e,mT.ext e kids xs h5⟩
theorem mT.ext {H H':Heap}(e:Ext H H'):∀(xs:List Ex)(cs:List cV),mT H cs xs→mT H' cs xs
 | [],[],_=>trivial
 | x::xs,c::cs,h=>by
  rw[mT]at h ⊢
  exact⟨lM.ext e x c.1 h.1,mT.ext e xs cs h.2⟩
 | [],_::_,h=>(by rw[mT]at h;exact h.elim;all_goals simp)
 | _::_,[],h=>(by rw[mT]at h;exact h.elim;all_goals simp)
end
mutual
theorem lB.toH {I:Item}{H:Heap}(hI:I.sat H):∀(x:Ex)(c:List Value),lB I c x→lM H c x
 | .mk kind table kids conds names attr as_ agg off,c,h=>by
  rw[lB]at h
  rw[lM]
  obtain⟨vk,vc,vn,h1,h2,h3,xs,h4,h5⟩:=h
  exact⟨vk,vc,vn,off,h1,h2 H hI,h3 H hI,xs,h4 H hI,qR.toH hI kids xs h5⟩
theorem qR.toH {I:Item}{H:Heap}(hI:I.sat H):∀(xs:List Ex)(cs:List cV),qR I cs xs→mT H cs xs
 | [],[],_=>trivial
 | x::xs,c::cs,h=>by
  rw[qR]at h
  rw[mT]
  exact⟨lB.toH hI x c.1 h.1,qR.toH hI xs cs h.2⟩
 | [],_::_,h=>(by rw[qR]at h;exact h.elim;all_goals simp)
 | _::_,[],h=>(by rw[qR]at h;exact h.elim;all_goals simp)
end
theorem kW {H:Heap}:∀ {cs:List cV}{l:List Ex}{i:Nat}{x:Ex},mT H cs l→l[i]?=some x→∃ c,cs[i]?=some c∧lM H c.1 x
 | _,[],_,_,_,h=>by simp at h
 | c::cs,a::l,0,x,hq,h=>by simp at h;subst h;rw[mT]at hq;exact⟨c,rfl,hq.1⟩
 | c::cs,a::l,i+1,x,hq,h=>by rw[mT]at hq;exact kW (cs:=cs) (l:=l) (i:=i) hq.2 (by simpa using h)
 | [],a::l,_,_,hq,_=>by rw[mT]at hq;exact hq.elim;all_goals simp
theorem mK {H:Heap}:∀ {cs:List cV}{l:List Ex},mT H cs l→cs.length=l.length
 | [],[],_=>rfl
 | c::cs,a::l,hq=>by rw[mT]at hq;simp[mK hq.2]
 | c::cs,[],hq=>by rw[mT]at hq;exact hq.elim;all_goals simp
 | [],b::m,hq=>by rw[mT]at hq;exact hq.elim;all_goals simp
def fF (x:It)(z:Int)(vc vn vt vf vv vd:Value)(e0 e1 e2 e3 e4 e5 e6 e7 e8:Value):List Value :=
 [.int .i64 x.kind,.string ⟨⟨x.name⟩⟩,.int .i64 z,.string ⟨⟨x.table⟩⟩,.string ⟨⟨x.attr⟩⟩,vc,vn,.int .i64 x.by_,.int .i64 x.n,.int .i64 x.m,vt,.string ⟨⟨x.other⟩⟩,.string ⟨⟨x.oattr⟩⟩,vf,vv,vd,e0,e1,e2,e3,e4,e5,e6,e7,e8]
def itH (H:Heap)(c:List Value)(x:It):Prop:=∃ z vc vn vt vf vv vd e0 e1 e2 e3 e4 e5 e6 e7 e8,c=fF x z vc vn vt vf vv vd e0 e1 e2 e3 e4 e5 e6 e7 e8 ∧
 cR 5 H vc x.cols.length (x.cols.flatMap wO)∧cR 1 H vn x.names.length (x.names.flatMap rV)∧cR 7 H vt x.terms.length (x.terms.flatMap zV) ∧
 cR 4 H vf x.fixed.length (x.fixed.flatMap wN)∧cR 2 H vv x.vars.length (x.vars.flatMap vrC)∧cR 14 H vd x.conds.length (x.conds.flatMap oW)∧lM H [e0,e1,e2,e3,e4,e5,e6,e7,e8] x.expr
theorem itH.ext {H H':Heap}{c:List Value}{x:It}(r:itH H c x)(e:Ext H H'):itH H' c x:=by
 obtain⟨z,vc,vn,vt,vf,vv,vd,e0,e1,e2,e3,e4,e5,e6,e7,e8,h1,h2,h3,h4,h5,h6,h7,h8⟩:=r
 exact⟨z,vc,vn,vt,vf,vv,vd,e0,e1,e2,e3,e4,e5,e6,e7,e8,h1,h2.ext e,h3.ext e,h4.ext e,h5.ext e,h6.ext e,h7.ext e,lM.ext e _ _ h8⟩
theorem itR.toH {I:Item}{H:Heap}(hI:I.sat H) {c:List Value}{x:It}(r:itR I c x):itH H c x:=by
 obtain⟨vc,vn,vt,vf,vv,vd,e0,e1,e2,e3,e4,e5,e6,e7,e8,h1,h2,h3,h4,h5,h6,h7,h8⟩:=r
 exact⟨x.off,vc,vn,vt,vf,vv,vd,e0,e1,e2,e3,e4,e5,e6,e7,e8,h1,h2 H hI,h3 H hI,h4 H hI,h5 H hI,h6 H hI,h7 H hI,lB.toH hI _ _ h8⟩
def kA (H:Heap)(v:Value)(xs:List It):Prop:=∃ cs:List iY,cR 25 H v xs.length (cs.flatMap Subtype.val)∧cs.length=xs.length∧∀(i:Nat)(x:It),xs[i]?=some x→∃ d:iY,cs[i]?=some d∧itH H d.1 x
theorem kA.ext {H H':Heap}{v:Value}{xs:List It}(r:kA H v xs)(e:Ext H H'):kA H' v xs:=by
 obtain⟨cs,h1,h2,h3⟩:=r
 refine⟨cs,h1.ext e,h2,fun i x hx=>?_⟩
 obtain⟨d,h4,h5⟩:=h3 i x hx
 exact⟨d,h4,h5.ext e⟩
theorem xT.toH {I:Item}{H:Heap}(hI:I.sat H) {v:Value}{xs:List It}(r:xT I v xs):kA H v xs:=by
 obtain⟨cs,h1,h2⟩:=r
 obtain⟨ds,hd,hg⟩:=yH h2
 rw[hd]at h1
 have ha:=h1 H hI;have hlen:ds.length=xs.length:=by
  have h3:=ha.1
  rw[qQ (f:=Subtype.val) (sz:=25) (fun y:iY=>y.2)]at h3
  omega
 refine⟨ds,ha,hlen,fun i x hx=>?_⟩
 obtain⟨d,h4,h5⟩:=hg i x hx
 exact⟨d,h4,h5.toH hI⟩
def aBt (v:Vl):Prop:=(-9223372036854775808≤v.k∧v.k≤9223372036854775807)∧(-9223372036854775808≤v.n∧v.n≤9223372036854775807)∧v.t.length≤1000000000000000
def aAT (x:Opd):Prop:=x.var.length≤1000000000000000∧x.attr.length≤1000000000000000∧aBt x.val
def wI (x:Cnd):Prop:=aAT x.left∧(-9223372036854775808≤x.op∧x.op≤9223372036854775807)∧aAT x.right∧(-9223372036854775808≤x.add∧x.add≤9223372036854775807)
def ColOK (x:Col):Prop:=x.name.length≤1000000000000000∧(-9223372036854775808≤x.kind∧x.kind≤9223372036854775807)∧aBt x.dflt
def TrmOK (x:Trm):Prop:=x.attr.length≤1000000000000000∧(-9223372036854775808≤x.measure∧x.measure≤9223372036854775807)∧(-9223372036854775808≤x.tol∧x.tol≤9223372036854775807)∧(-9223372036854775808≤x.num∧x.num≤9223372036854775807) ∧
 (-9223372036854775808≤x.den∧x.den≤9223372036854775807)∧(-9223372036854775808≤x.gives∧x.gives≤9223372036854775807)∧(-9223372036854775808≤x.takes∧x.takes≤9223372036854775807)
def NmdOK (x:Nmd):Prop:=x.name.length≤1000000000000000∧aBt x.val
def VrOK (x:Vr):Prop:=x.name.length≤1000000000000000∧x.table.length≤1000000000000000
mutual
def gR:Ex→Prop
 | .mk k t ks cs ns a s g _=>(-9223372036854775808≤k∧k≤9223372036854775807)∧t.length≤1000000000000000∧rR ks∧(∀ c∈cs,wI c)∧(∀ n∈ns,n.length≤1000000000000000)∧a.length≤1000000000000000∧s.length≤1000000000000000∧(-9223372036854775808≤g∧g≤9223372036854775807)∧ks.length≤1000000000000000∧cs.length≤1000000000000000∧ns.length≤1000000000000000
def rR:List Ex→Prop
 | []=>True
 | x::xs=>gR x∧rR xs
end
theorem jL:∀ {l:List Ex}{i:Nat}{x:Ex},rR l→l[i]?=some x→gR x
 | [],_,_,_,h=>by simp at h
 | a::l,0,x,hq,h=>by simp at h;subst h;rw[rR]at hq;exact hq.1
 | a::l,i+1,x,hq,h=>by rw[rR]at hq;exact jL (l:=l) (i:=i) hq.2 (by simpa using h)
def jX (x:It):Prop:=(-9223372036854775808≤x.kind∧x.kind≤9223372036854775807)∧x.name.length≤1000000000000000∧x.table.length≤1000000000000000∧x.attr.length≤1000000000000000∧(∀ c∈x.cols,ColOK c)∧(∀ n∈x.names,n.length≤1000000000000000) ∧
 (-9223372036854775808≤x.by_∧x.by_≤9223372036854775807)∧(-9223372036854775808≤x.n∧x.n≤9223372036854775807)∧(-9223372036854775808≤x.m∧x.m≤9223372036854775807)∧(∀ t∈x.terms,TrmOK t)∧x.other.length≤1000000000000000∧x.oattr.length≤1000000000000000 ∧
 (∀ f∈x.fixed,NmdOK f)∧(∀ v∈x.vars,VrOK v)∧(∀ c∈x.conds,wI c)∧gR x.expr ∧
 x.cols.length≤1000000000000000∧x.names.length≤1000000000000000∧x.terms.length≤1000000000000000∧x.fixed.length≤1000000000000000∧x.vars.length≤1000000000000000∧x.conds.length≤1000000000000000
mutual
def eU:Ex→Nat
 | .mk _ _ ks cs ns _ _ _ _=>1+cs.length+ns.length+eW ks
def eW:List Ex→Nat
 | []=>0
 | x::xs=>eU x+eW xs
end
mutual
theorem exLev_le:∀(x:Ex),cC x≤eU x
 | .mk k t ks cs ns a s g o=>by
  have:=aAL ks
  rw[cC,eU]
  omega
theorem aAL:∀(xs:List Ex),cI xs≤eW xs
 | []=>Nat.le_refl _
 | x::xs=>by
  have h1:=exLev_le x;have h2:=aAL xs
  rw[cI,eW]
  omega
end
def eC (x:It):Nat:=1+x.cols.length+x.names.length+x.terms.length+x.fixed.length+x.vars.length+x.conds.length+eU x.expr
theorem indexS_spec (ss:List (List UInt8))(s:List UInt8)(vs:Value)(h:Heap)(hA:Arr h vs (strs ss))(hl:ss.length≤100) :
  cK Tryz.prog 176 [vs,.string ⟨⟨s⟩⟩] h fun r h'=>∃ i:Int,r=.int .i64 i∧(0≤i↔s∈ss)∧Own h [] h':=by
 refine Spec.enter Tryz.func176 rfl Tryz.ntmps176 (by kernel_rfl) ?_;have o0:=Own.refl h;have hsl:(strs ss).length=ss.length:=by simp[strs]
 refine run (aB0 hA ‹_› aH ?_);refine LoopVC.intro [4,5,8,9,10,11,12,13,14,15,16,17,18] [8] (fun vs' hh=>∃(i:Nat),i≤ss.length∧vs'=[.int .i64 i]∧(∀(j:Nat) (c:List UInt8),j<i→ss[j]?=some c→c≠s)∧Own h [] hh) (fun vs' _=>match vs' with|[.int _ i]=>ss.length - i.toNat|_=>0) ?_ ?_
 ·exact⟨0,by omega,rfl,fun j c hj=>by omega,o0⟩
 ·rintro vs' junk hh ⟨i,hi,rfl,hE,oh⟩
  by_cases hlt:i<ss.length
  ·obtain⟨c,hc⟩:=getx hlt
   have hss:(strs ss)[i]?=some (.string ⟨⟨c⟩⟩):=by simp[strs,hc]
   by_cases he:s=c
   ·refine Br.dec (fun c20=>?_) (fun hc=>absurd (by omega) hc)
    refine run (idx aH aN (hA.ext oh.ext) rfl (by omega) (by omega) ?_);refine run (aBY (hA.ext oh.ext) aN rfl (by first|assumption|rfl) ?_);refine Br.dec (fun c23=>?_) (fun hc=>absurd (by omega) hc);refine RetVC.one rfl ?_
    exact⟨_,rfl,⟨fun _=>by subst he;exact List.mem_of_getElem? hc,fun _=>by omega⟩,oh⟩
   ·refine Br.dec (fun c30=>?_) (fun hc=>absurd (by omega) hc)
    refine run (idx aH aN (hA.ext oh.ext) rfl (by omega) (by omega) ?_);refine run (aBY (hA.ext oh.ext) aN rfl (by first|assumption|rfl) ?_);refine Br.dec (fun hc=>absurd hc (by omega)) (fun c33=>?_);refine Ar.i64 (by omega) (by omega) ?_
    refine⟨rfl,?_⟩
    refine⟨⟨i+1,by omega,rfl,fun j d hj hd=>?_,oh⟩,by simp;omega⟩
    by_cases hji:j=i
    ·subst hji
     rw[hc]at hd
     cases hd
     exact fun e=>he e.symm
    ·exact hE j d (by omega) hd
  ·refine Br.dec (fun hc=>absurd hc (by omega)) (fun c40=>?_)
   refine RetVC.one rfl ?_
   refine⟨_,rfl,⟨fun h=>by omega,fun hm=>?_⟩,oh⟩
   obtain⟨j,hj⟩:=List.mem_iff_getElem?.1 hm
   exact absurd rfl (hE j s (by have:=(List.getElem?_eq_some_iff.1 hj).1;omega) hj)
theorem qV (ss:List (List UInt8))(s:List UInt8)(vs:Value)(h:Heap)(hA:Arr h vs (strs ss))(hl:ss.length≤100) :
  cK Tryz.prog 168 [vs,.string ⟨⟨s⟩⟩] h fun r h'=>r=.bool (decide (s∈ss))∧Own h [] h':=by
 refine Spec.enter Tryz.func168 rfl Tryz.ntmps168 (by kernel_rfl) ?_;have o0:=Own.refl h;refine CallVC.ret (indexS_spec ss s vs _ hA hl) ?_;rintro _ h1 ⟨i,rfl,hi,o1⟩;refine RetVC.one rfl ?_
 refine⟨?_,o1⟩
 congr 1
 exact decide_eq_decide.2 hi
theorem sX (s:List UInt8):reserved s=decide (s∈[[116,114,117,101],[102,97,108,115,101],[110,117,108,108]]):=by
 unfold reserved;exact decide_eq_decide.2 (by simp)
theorem vM (B:Base)(b:Nat)(p v:Value)(k:Int)(bs:List UInt8)(x:Opd)(h:Heap)(hp:cN b p)(hT:iQ B.h)
  (o:Own B [box b [p,v,.int .i64 k] 58,row v 5 1 bs.length (bytes bs)] h) (hl:bs.length≤50000000000000) (hx:aAT x) (hk:0≤k∧k≤50000000000000) :
  Spec Tryz.prog 151 [.pointer (some ⟨b,0,none⟩),.agg ⟨opdC x⟩] h (WEnds B b bs k 500 (fP x)):=by
 obtain⟨xv,xa,xc,⟨vk,vn,vt⟩⟩:=x
 obtain⟨b1,b2,b3,b4,b5⟩:=hx
 simp only at b1 b2 b3 b4 b5;show Spec Tryz.prog 151 [.pointer (some ⟨b,0,none⟩),.agg ⟨[.string ⟨⟨xv⟩⟩,.string ⟨⟨xa⟩⟩,.bool xc,.int .i64 vk,.int .i64 vn,.string ⟨⟨vt⟩⟩]⟩] h _;refine Spec.enter Tryz.func151 rfl Tryz.ntmps151 (by kernel_rfl) ?_;cases xc with
 | true =>
  by_cases hv:xv=[]
  ·by_cases ha:xa=[]
   ·subst hv ha
    have hq:fP ⟨[],[],true,⟨vk,vn,vt⟩⟩=bR ⟨vk,vn,vt⟩:=rfl
    rw[hq]
    (refine RunVC.aBS o rfl ?_;intro b10 m10 o10);refine run (fA fM rfl rfl rfl ?_);refine run (aBx o10 2 rfl ty4 rfl rfl ?_);refine Br.tt ?_;refine run (fA fM rfl rfl rfl ?_);refine run (aBx o10 2 rfl aN rfl rfl ?_);refine Br.tt ?_;refine run (fA fM rfl rfl rfl ?_);refine run (aBx o10 2 rfl aN rfl rfl ?_);refine MEnds.aBC ‹_› (aC _ _) (fun e1 m2 _ oq=>?_) fun e1 m2 oq=>absurd (of_decide_eq_false e1) (by simp);refine run (fA fM rfl rfl rfl ?_);refine run (aBB oq 2 rfl bU rfl rfl rfl ?_);refine WEnds.callJ [2] ‹_› rfl rfl (fun J oj=>iH _ b p v k bs ⟨vk,vn,vt⟩ _ hp hT oj (by omega) b5 b4 (by omega)) (fun ps p1 v1 bs1 k1 m3 hq1 hp1 hb1 hk1 hl1 _ hk2 oq=>?_) (fun m3 hq1 oq=>?_)
    ·refine RetVC.zero rfl ?_
     exact WEnds.done hq1 (oq.sel [0,1] rfl) hp1 hb1 hk1 (by omega) (by omega)
    ·exact⟨hq1,rfl,oq⟩
   ·have hq:fP ⟨xv,xa,true,⟨vk,vn,vt⟩⟩=none:=by unfold fP;rw[if_pos rfl,if_neg (fun h=>ha h.2)]
    (refine RunVC.aBS o rfl ?_;intro b60 m60 o60);refine run (fA fM rfl rfl rfl ?_);refine run (aBx o60 2 rfl ty4 rfl rfl ?_);refine Br.tt ?_;refine run (fA fM rfl rfl rfl ?_);refine run (aBx o60 2 rfl aN rfl rfl ?_);refine Br.dec (fun c65=>?_) (fun hc=>absurd (by omega) hc);refine run (fA fM rfl rfl rfl ?_);refine run (aBx o60 2 rfl aN rfl rfl ?_);refine MEnds.aBC ‹_› (aC _ _) (fun e1 m2 _ oq=>absurd (of_decide_eq_true e1) ha) fun e1 m2 oq=>?_
    exact⟨hq,rfl,oq⟩
  ·have hq:fP ⟨xv,xa,true,⟨vk,vn,vt⟩⟩=none:=by unfold fP;rw[if_pos rfl,if_neg (fun h=>hv h.1)]
   (refine RunVC.aBS o rfl ?_;intro b80 m80 o80);refine run (fA fM rfl rfl rfl ?_);refine run (aBx o80 2 rfl ty4 rfl rfl ?_);refine Br.tt ?_;refine run (fA fM rfl rfl rfl ?_);refine run (aBx o80 2 rfl aN rfl rfl ?_);refine Br.dec (fun hc=>absurd hc (by omega)) (fun c85=>?_);refine MEnds.aBC ‹_› (aC _ _) (fun e1 m2 _ oq=>by cases e1) fun e1 m2 oq=>?_
   exact⟨hq,rfl,oq⟩
 | false =>
  by_cases hz:vk=0∧vn=0∧vt=[]
  case neg =>
   have hq:fP ⟨xv,xa,false,⟨vk,vn,vt⟩⟩=none:=by unfold fP;rw[if_neg (by simp),if_pos hz]
   have hzb:(decide (vk=0)&&(decide (vn=0)&&(decide (vt=[])&&true)))=false:=by
    rw[Bool.eq_false_iff]
    intro h
    simp at h
    exact hz ⟨h.1,h.2.1,h.2.2⟩
   by_cases hv:xv=[]
   ·(refine RunVC.aBS o rfl ?_;intro b100 m100 o100)
    refine run (fA fM rfl rfl rfl ?_);refine run (aBx o100 2 rfl ty4 rfl rfl ?_);refine Br.ff ?_;refine run (fA fM rfl rfl rfl ?_);refine run (aBx o100 2 rfl aN rfl rfl ?_);refine Br.dec (fun c105=>?_) (fun hc=>absurd (by omega) hc);refine run (fA fM rfl rfl rfl ?_);refine run (aBx o100 2 rfl aN rfl rfl ?_);refine run (fA fM rfl rfl rfl ?_);refine run (aBB o100 2 rfl bU rfl rfl rfl ?_);refine run (aBE eH ?_);refine run (eqS pI rfl rfl rfl rfl ?_);refine Br.ffE ‹_› ?_;refine MEnds.aBC ‹_› (aC _ _) (fun e1 m2 _ oq=>by cases e1) fun e1 m2 oq=>?_
    exact⟨hq,rfl,oq⟩
   ·(refine RunVC.aBS o rfl ?_;intro b150 m150 o150)
    refine run (fA fM rfl rfl rfl ?_);refine run (aBx o150 2 rfl ty4 rfl rfl ?_);refine Br.ff ?_;refine run (fA fM rfl rfl rfl ?_);refine run (aBx o150 2 rfl aN rfl rfl ?_);refine Br.dec (fun hc=>absurd hc (by omega)) (fun c155=>?_);refine run (fA fM rfl rfl rfl ?_);refine run (aBB o150 2 rfl bU rfl rfl rfl ?_);refine run (aBE eH ?_);refine run (eqS pI rfl rfl rfl rfl ?_);refine Br.ffE ‹_› ?_;refine MEnds.aBC ‹_› (aC _ _) (fun e1 m2 _ oq=>by cases e1) fun e1 m2 oq=>?_
    exact⟨hq,rfl,oq⟩
  obtain⟨rfl,rfl,rfl⟩:=hz
  by_cases hv:xv=[]
  ·subst hv
   have hq:fP ⟨[],xa,false,⟨0,0,[]⟩⟩=if reserved xa=true then none else bG [32] xa:=by unfold fP;rw[if_neg (by simp),if_neg (by simp),if_pos rfl]
   (refine RunVC.aBS o rfl ?_;intro b200 m200 o200);refine run (fA fM rfl rfl rfl ?_);refine run (aBx o200 2 rfl ty4 rfl rfl ?_);refine Br.ff ?_;refine run (fA fM rfl rfl rfl ?_);refine run (aBx o200 2 rfl aN rfl rfl ?_);refine Br.tt ?_;refine run (fA fM rfl rfl rfl ?_);refine run (aBx o200 2 rfl aN rfl rfl ?_);refine run (fA fM rfl rfl rfl ?_);refine run (aBB o200 2 rfl bU rfl rfl rfl ?_);refine run (aBE eH ?_);refine run (eqS pI rfl rfl rfl rfl ?_);refine Br.tt ?_;(refine RunVC.lit o200 aH aN rfl rfl (by decide) (aI rfl ?_);intro b211 m211 o211);refine CallVC.ret (qV [[116,114,117,101],[102,97,108,115,101],[110,117,108,108]] xa _ _ (Own.boxArr ‹_› 3 rfl rfl (by decide)) (by decide)) ?_;rintro _ m1 ⟨rfl,oc⟩;have o1:=oc.thenE (B:=B) ‹_›
   rw[← sX]
   clear oc;cases hr:reserved xa with
   | true =>
    refine MEnds.aBC ‹_› (aC _ _) (fun e1 m2 _ oq=>by cases e1) fun e1 m2 oq=>?_
    exact⟨hq.trans (by rw[if_pos hr]),rfl,oq⟩
   | false =>
    refine MEnds.aBC ‹_› (aC _ _) (fun e1 m2 _ oq=>?_) fun e1 m2 oq=>by cases e1
    rw[if_neg (by rw[hr];decide)]at hq
    refine DrawVC.intro [0,1,2,3,5] [] [4,6,7] [0,1,2,3,4,5,6,7] mixed (by kernel_rfl) rfl (fun _ _ _ _ h=>h) ?_;refine nC rfl ?_;refine fA bM rfl rfl rfl ?_;refine MEnds.aBC ‹_› (bF xa _ (by omega)) (fun e2 m3 _ oq=>?_) fun e2 m3 oq=>?_
    ·have hnl:=cM e2
     refine aBF rfl rfl (by first|omega|(simp;omega)) ?_;(refine RunVC.lit oq aH aN rfl rfl (by decide) (aI rfl ?_);intro b351 m351 o351);refine aE [[32]++xa] 1 30 [2] (i:=4) ‹_› rfl rfl rfl hp rfl (by omega) (by omega) (by simp;omega) (by omega) (by omega) (fun p1 v1 bs1 k1 m1 hp1 hb1 hk1 hl1 oq=>?_);have o4:=oq
     simp only[pick,lgS,lgZ]at o4
     clear oq;refine run (fA fM rfl rfl rfl ?_);refine run (aBx o4 2 rfl aN rfl rfl ?_);refine Br.ff ?_;refine RetVC.zero rfl ?_;exact WEnds.done (hq.trans (aA e2)) (Own.sel ‹_› [0,1] rfl) hp1 (by rw[hb1];simp[bE,fR,wr,aG]) hk1 (by omega) (by omega)
    ·exact⟨hq.trans (cO e2),rfl,oq⟩
  ·have hq:fP ⟨xv,xa,false,⟨0,0,[]⟩⟩=if reserved xv=true then none else eG xv xa:=by unfold fP;rw[if_neg (by simp),if_neg (by simp),if_neg hv]
   (refine RunVC.aBS o rfl ?_;intro b400 m400 o400);refine run (fA fM rfl rfl rfl ?_);refine run (aBx o400 2 rfl ty4 rfl rfl ?_);refine Br.ff ?_;refine run (fA fM rfl rfl rfl ?_);refine run (aBx o400 2 rfl aN rfl rfl ?_);refine Br.dec (fun hc=>absurd hc (by omega)) (fun c405=>?_);refine run (fA fM rfl rfl rfl ?_);refine run (aBB o400 2 rfl bU rfl rfl rfl ?_);refine run (aBE eH ?_);refine run (eqS pI rfl rfl rfl rfl ?_);refine Br.tt ?_;(refine RunVC.lit o400 aH aN rfl rfl (by decide) (aI rfl ?_);intro b410 m410 o410);refine CallVC.ret (qV [[116,114,117,101],[102,97,108,115,101],[110,117,108,108]] xv _ _ (Own.boxArr ‹_› 3 rfl rfl (by decide)) (by decide)) ?_;rintro _ m1 ⟨rfl,oc⟩;have o1:=oc.thenE (B:=B) ‹_›
   rw[← sX]
   clear oc;cases hr:reserved xv with
   | true =>
    refine MEnds.aBC ‹_› (aC _ _) (fun e1 m2 _ oq=>by cases e1) fun e1 m2 oq=>?_
    exact⟨hq.trans (by rw[if_pos hr]),rfl,oq⟩
   | false =>
    refine MEnds.aBC ‹_› (aC _ _) (fun e1 m2 _ oq=>?_) fun e1 m2 oq=>by cases e1
    rw[if_neg (by rw[hr];decide)]at hq
    refine DrawVC.intro [0,1,2,3,5] [] [4,6,7] [0,1,2,3,4,5,6,7] mixed (by kernel_rfl) rfl (fun _ _ _ _ h=>h) ?_;refine nC rfl ?_;refine fA bM rfl rfl rfl ?_;refine MEnds.aBC ‹_› (bF xv _ (by omega)) (fun e2 m3 _ oq=>?_) fun e2 m3 oq=>?_
    ·have hnl:=cM e2
     refine aBF rfl rfl (by first|omega|(simp;omega)) ?_;(refine RunVC.lit oq aH aN rfl rfl (by decide) (aI rfl ?_);intro b551 m551 o551);refine aE [[32]++xv] 1 30 [2] (i:=4) ‹_› rfl rfl rfl hp rfl (by omega) (by omega) (by simp;omega) (by omega) (by omega) (fun p1 v1 bs1 k1 m1 hp1 hb1 hk1 hl1 oq=>?_);have o4:=oq
     simp only[pick,lgS,lgZ]at o4
     clear oq;refine run (fA fM rfl rfl rfl ?_);refine run (aBx o4 2 rfl aN rfl rfl ?_);refine Br.aBO (fun c582=>?_) (fun hc=>absurd hc (by first|omega|assumption|decide|exact rfl));refine DrawVC.intro [0,1,2,3] [4] [5,6,7] [0,1,2,3,4,5,6,7] mixed (by kernel_rfl) rfl (fun _ _ _ _ h=>h) ?_;refine nC rfl ?_;refine fA bM rfl rfl rfl ?_;refine fA fM rfl rfl rfl ?_;refine aBx o4 2 rfl aN rfl rfl ?_;refine MEnds.aBC ‹_› (bF xa _ (by omega)) (fun e3 m3 _ oq=>?_) fun e3 m3 oq=>?_
     ·have hnl2:=cM e3
      (refine RunVC.lit oq aH aN rfl rfl (by decide) (aI rfl ?_);intro b600 m600 o600);refine aE [[46],xa] 2 30 [2] (i:=3) ‹_› rfl rfl rfl hp1 rfl (by omega) (by omega) (by simp;omega) (by omega) (by omega) (fun p2 v2 bs2 k2 m1 hp2 hb2 hk2 hl2 oq=>?_);have o5:=oq
      simp only[pick,lgS,lgZ]at o5
      clear oq;refine RetVC.zero rfl ?_;have hpl:eG xv xa=some [aG [32] xv,aP [] [46],aG [] xa]:=by unfold eG;simp only[aA e2,aA e3,aF,oMS];rfl
      exact WEnds.done (hq.trans hpl) (Own.sel ‹_› [0,1] rfl) hp2 (by rw[hb2,hb1];simp[bE,fR,wr,aG,aP]) (by rw[hk2,hk1];simp;omega) (by omega) (by omega)
     ·exact⟨hq.trans (by unfold eG;simp only[aA e2,cO e3,aF,oMN]),rfl,oq⟩
    ·exact⟨hq.trans (by unfold eG;simp only[cO e2,aF]),rfl,oq⟩
def cT {α:Type}(one:Nat→α→Option (List Pc))(l:List α):Option (List Pc):=aF (l.mapIdx one)
theorem yA {α:Type}{one:Nat→α→Option (List Pc)}{l:List α}{i:Nat}{x:α}{p:List Pc}(hx:l[i]?=some x)(hp:cT one (l.take i)=some p):cT one (l.take (i+1))=(one i x).map (p++·):=by
 have hi:i<l.length:=(List.getElem?_eq_some_iff.1 hx).1;have ht:l.take (i+1)=l.take i++[x]:=by rw[List.take_add_one,hx];simp
 unfold cT at hp ⊢
 rw[ht,List.mapIdx_append,gY,hp]
 have hl:(l.take i).length=i:=by rw[List.length_take];omega
 rw[hl]
 show(match some p,aF [one (0+i) x] with
  | some p,some q=>some (p++q)
  | _,_=>none)=_
 rw[Nat.zero_add]
 cases one i x<;>simp[aF]
theorem loopQ_none {α:Type}{one:Nat→α→Option (List Pc)}{l:List α}{i:Nat}(hp:cT one (l.take i)=none):cT one l=none:=by
 have:cT one (l.take i++l.drop i)=none:=by
  unfold cT at hp ⊢
  rw[List.mapIdx_append,gY,hp]
 rwa [List.take_append_drop]at this
theorem aR {α:Type}{one:Nat→α→Option (List Pc)}{l:List α}{i:Nat}{x:α}{p:List Pc}(hx:l[i]?=some x)(hp:cT one (l.take i)=some p)(h:one i x=none):cT one l=none :=
 loopQ_none (i:=i+1) (by rw[yA hx hp,h];rfl)
theorem aZ {α:Type}{one:Nat→α→Option (List Pc)}{l:List α}{i:Nat}{x:α}{p q:List Pc}(hx:l[i]?=some x)(hp:cT one (l.take i)=some p)(h:one i x=some q):cT one (l.take (i+1))=some (p++q):=by
 rw[yA hx hp,h];rfl
theorem fO {α:Type}{one:Nat→α→Option (List Pc)}{l:List α}{i:Nat}{o:Option (List Pc)}(hi:l.length≤i)(hp:cT one (l.take i)=o):cT one l=o:=by
 rwa [List.take_of_length_le hi]at hp
theorem oM {α β:Type}(f0 f1:α→β)(x:α)(r:List α):(x::r).mapIdx (fun i y=>if i=0 then f0 y else f1 y)=f0 x::r.map f1:=by
 rw[List.mapIdx_cons]
 congr 1
 simp only[Nat.add_one_ne_zero,if_false]
 induction r with
 | nil=>rfl
 | cons y r ih=>rw[List.mapIdx_cons,ih];rfl
theorem seqQ_last (a l:List (Option (List Pc))):aF (a++l)=aF (a++[aF l]):=by
 rw[gY,gY]
 cases aF a with
 | none=>rfl
 | some p =>
  cases aF l with
  | none=>rfl
  | some q=>simp[aF]
def tQ (i:Nat)(x:Cnd):Option (List Pc):=(pH x).map ((if i=0 then aG [32] [119,104,101,114,101] else aG [32] [97,110,100])::·)
theorem aAq (p:Pc)(o:Option (List Pc))(r:List (Option (List Pc))):aF (some [p]::o::r)=aF (o.map (p::·)::r):=by
 cases o with
 | none=>rfl
 | some q =>
  show((aF r).map (q++·)).map ([p]++·)=(aF r).map ((p::q)++·)
  rw[Option.map_map]
  rfl
theorem wE (l:List Cnd)(h:l≠[]):mN l=cT tQ l:=by
 cases l with
 | nil=>exact absurd rfl h
 | cons x r =>
  show aF (some [aG [32] [119,104,101,114,101]]::pH x::r.map fun y=>(pH y).map (aG [32] [97,110,100]::·))=_
  unfold cT
  rw[aAq]
  congr 1
  have:=oM (fun x=>(pH x).map (aG [32] [119,104,101,114,101]::·)) (fun x=>(pH x).map (aG [32] [97,110,100]::·)) x r
  rw[← this]
  congr 1
  funext i y
  unfold tQ;split<;>rfl
def dV {α:Type}(one:List UInt8→α→Option (List Pc))(i:Nat)(x:α):Option (List Pc):=if i=0 then one [] x else(one [32] x).map (aP [] [44]::·)
theorem vR {α:Type}(one:List UInt8→α→Option (List Pc))(l:List α)(h:l≠[]):dW one [] l=cT (dV one) l:=by
 cases l with
 | nil=>exact absurd rfl h
 | cons x r =>
  show aF (one [] x::r.map fun y=>(one [32] y).map (aP [] [44]::·))=_
  unfold cT
  rw[show(x::r).mapIdx (dV one)=_ from oM (one []) (fun y=>(one [32] y).map (aP [] [44]::·)) x r]
def fixI (i:Nat)(x:Nmd):Option (List Pc):=(uV x).map ((if i=0 then aG [32] [119,104,101,114,101] else aP [] [44])::·)
theorem fixedQ_loop (l:List Nmd):uU l=cT fixI l:=by
 cases l with
 | nil=>rfl
 | cons x r =>
  show aF (some [aG [32] [119,104,101,114,101]]::uV x::r.map fun y=>(uV y).map (aP [] [44]::·))=_
  unfold cT
  rw[aAq]
  congr 1
  have:=oM (fun x=>(uV x).map (aG [32] [119,104,101,114,101]::·)) (fun x=>(uV x).map (aP [] [44]::·)) x r
  rw[← this]
  congr 1
  funext i y
  unfold fixI;split<;>rfl
theorem terms_loop (l:List Trm):aF (l.map bC)=cT (fun _=>bC) l:=by
 unfold cT
 congr 1
 induction l with
 | nil=>rfl
 | cons x r ih=>rw[List.mapIdx_cons,List.map_cons,ih]
abbrev Apart (o:Option (List Pc)):Prop:=∀ ps,o=some ps→Flow false ps
abbrev jF (o:Option (List Pc)):Prop:=∀ ps,o=some ps→Flow true ps
theorem Apart.open {o:Option (List Pc)}(h:Apart o):jF o:=fun ps e=>(h ps e).mono
theorem eR {l:List Pc}(h:Flow false l):Apart (some l):=fun ps e=>by cases e;exact h
theorem fN:Apart none:=fun ps e=>by cases e
theorem cG:Apart (aF []):=fun ps e=>by obtain rfl:=seqQ_nil e;trivial
theorem bB {x:Option (List Pc)}{r:List (Option (List Pc))}(hx:Apart x)(hr:Apart (aF r)):Apart (aF (x::r)):=fun ps e=>by
 obtain⟨a,b,h1,h2,rfl⟩:=aJ e
 exact Flow.app (hr b h2) (hx a h1)
theorem oY {x:Option (List Pc)}{r:List (Option (List Pc))}(hx:jF x)(hr:Apart (aF r)):jF (aF (x::r)):=fun ps e=>by
 obtain⟨a,b,h1,h2,rfl⟩:=aJ e
 exact Flow.app (hr b h2) (hx a h1)
theorem cZ {c:Prop} [Decidable c] {a b:Option (List Pc)}(ha:Apart a)(hb:Apart b):Apart (if c then a else b):=by
 split
 ·exact ha
 ·exact hb
theorem gF {p:Pc}{r:List Pc}(hg:kX p.t)(hb:okB p.b=true)(hs:pQ (fR p)=true)(hr:Flow (openT p.t) r):Flow false (p::r):=⟨hg,hb,.inr hs,hr⟩
theorem vB {p:Pc}{o:Option (List Pc)}(hg:kX p.t)(hb:okB p.b=true)(hs:pQ (fR p)=true)(h:Apart o):Apart (o.map (p::·)):=fun ps e=>by
 obtain⟨q,hq,rfl⟩:=Option.map_eq_some_iff.1 e
 exact gF hg hb hs (h q hq).mono
theorem ap_mapO {p:Pc}{o:Option (List Pc)}(hg:kX p.t)(hb:okB p.b=true)(hs:pQ (fR p)=true)(ho:openT p.t=true)(h:jF o):Apart (o.map (p::·)):=fun ps e=>by
 obtain⟨q,hq,rfl⟩:=Option.map_eq_some_iff.1 e
 exact gF hg hb hs (by rw[ho];exact h q hq)
theorem wU {p:Pc}{r:List (Option (List Pc))}(hg:kX p.t)(hb:okB p.b=true)(hs:pQ (fR p)=true)(ho:openT p.t=true)(h:jF (aF r)):Apart (aF (some [p]::r)):=fun ps e=>by
 obtain⟨a,b,h1,h2,rfl⟩:=aJ e
 cases h1
 exact gF hg hb hs (by rw[ho];exact h b h2)
theorem apO_one {p:Pc}(hg:kX p.t)(hb:okB p.b=true):jF (some [p]):=fun ps e=>by cases e;exact⟨hg,hb,.inl rfl,trivial⟩
theorem lC {p:Pc}(hg:kX p.t)(hb:okB p.b=true)(hs:pQ (fR p)=true):Apart (some [p]):=eR (gF hg hb hs trivial)
theorem xH {b l:List UInt8}(hb:okB b=true)(hn:b≠[]):pQ (b++l)=true:=by
 rcases of_decide_eq_true hb with rfl|rfl|rfl|rfl
 ·exact absurd rfl hn
 ·rfl
 ·rfl
 ·rfl
theorem aBr {b s:List UInt8}(hb:okB b=true)(hn:b≠[]):Apart (bG b s):=fun ps e=>by
 obtain⟨h,rfl⟩:=rZ e
 exact gF (iL h) hb (xH hb hn) trivial
theorem tU {b s:List UInt8}(hb:okB b=true):jF (bG b s):=fun ps e=>by
 obtain⟨h,rfl⟩:=rZ e
 exact⟨iL h,hb,.inl rfl,trivial⟩
theorem ap_num {b:List UInt8}{n:Int}(hb:okB b=true)(hn:b≠[]):Apart (iJ b n):=fun ps e=>by
 obtain⟨h,rfl⟩:=uI e
 exact gF (mJ h) hb (xH hb hn) trivial
theorem apO_num {b:List UInt8}{n:Int}(hb:okB b=true):jF (iJ b n):=fun ps e=>by
 obtain⟨h,rfl⟩:=uI e
 exact⟨mJ h,hb,.inl rfl,trivial⟩
theorem rK {n:Int}{ws:List (List UInt8)}(h:∀ s∈ws,dH s=true):Apart (fX n ws):=fun ps e=>by
 obtain⟨j,rfl,s,hs,rfl⟩:=wordQ_some e
 exact gF (iL (h s (List.mem_of_getElem? hs))) rfl rfl trivial
theorem ap_op {n:Int}:Apart (opQ n):=fun ps e=>by
 obtain⟨j,rfl,s,hs,rfl⟩:=opQ_some e
 have:s∈([[61],[33,61],[60],[60,61]]:List (List UInt8)):=List.mem_of_getElem? hs
 simp at this
 rcases this with rfl|rfl|rfl|rfl<;>exact gF rfl rfl rfl trivial
theorem nG {s:List UInt8}(h:dH s=true):Apart (some [aG [32] s]):=lC (iL h) rfl rfl
theorem nY {α:Type}{one:α→Option (List Pc)}(h:∀ x,Apart (one x)):∀(l:List α),Apart (aF (l.map one))
 | []=>cG
 | x::l=>bB (h x) (nY h l)
theorem ap_list {α:Type}{one:List UInt8→α→Option (List Pc)}{b:List UInt8}(h0:∀ x,Apart (one b x))(h:∀ x,Apart (one [32] x)):∀(l:List α),Apart (iV one b l)
 | []=>eR (l:=[]) trivial
 | x::r=>bB (h0 x) (nY (fun y=>vB (p:=aP [] [44]) rfl rfl rfl (h y)) r)
theorem apO_list {α:Type}{one:List UInt8→α→Option (List Pc)}{b:List UInt8}(h0:∀ x,jF (one b x))(h:∀ x,Apart (one [32] x)):∀(l:List α),jF (iV one b l)
 | []=>(eR (l:=[]) trivial).open
 | x::r=>oY (h0 x) (nY (fun y=>vB (p:=aP [] [44]) rfl rfl rfl (h y)) r)
theorem zO {α:Type}{one:List UInt8→α→Option (List Pc)}{b:List UInt8}(h0:∀ x,jF (one b x))(h:∀ x,Apart (one [32] x)):∀(l:List α),jF (dW one b l)
 | []=>fN.open
 | x::r=>apO_list h0 h (x::r)
theorem aAQ {α:Type}{one:List UInt8→α→Option (List Pc)}{b:List UInt8}(h0:∀ x,Apart (one b x))(h:∀ x,Apart (one [32] x)):∀(l:List α),Apart (dW one b l)
 | []=>fN
 | x::r=>ap_list h0 h (x::r)
theorem jO (s:List UInt8):Apart (bG [32] s):=aBr rfl (by simp)
theorem wH (n:Int):Apart (iJ [32] n):=ap_num rfl (by simp)
theorem ap_names (l:List (List UInt8)):Apart (iV bG [32] l):=ap_list (fun x=>jO x) (fun x=>jO x) l
theorem aAR (l:List (List UInt8)):jF (dW bG [] l):=zO (fun _=>tU rfl) (fun x=>jO x) l
theorem zN (v:Vl):Apart (bR v):=by
 unfold bR;refine cZ (cZ (nG rfl) fN) (cZ ?_ (cZ ?_ (cZ ?_ (cZ (cZ ?_ fN) fN))))
 ·split
  ·rename_i h
   exact lC (good_txt h.2) rfl rfl
  ·exact fN
 ·split
  ·rename_i h
   split
   ·rename_i hn
    exact eR (gF rfl rfl rfl ⟨mJ (decide_eq_true (by omega)),rfl,.inl rfl,trivial⟩)
   ·rename_i hn
    exact lC (mJ (decide_eq_true (by omega))) rfl rfl
  ·exact fN
 ·split
  ·rename_i h
   exact eR (gF rfl rfl rfl ⟨mJ h.2,rfl,.inl rfl,trivial⟩)
  ·exact fN
 ·split
  ·exact nG rfl
  ·exact nG rfl
theorem qY (t a:List UInt8):Apart (eG t a):=bB (jO t) (wU rfl rfl rfl rfl (oY (tU rfl) cG))
theorem ap_side (x:Opd):Apart (fP x):=by
 unfold fP;exact cZ (cZ (zN _) fN) (cZ fN (cZ (cZ fN (jO _)) (cZ fN (qY _ _))))
theorem ap_add (n:Int):Apart (sK n):=by
 unfold sK;split
 ·exact fN
 split
 ·exact eR (gF rfl rfl rfl ⟨mJ (decide_eq_true (by omega)),rfl,.inr rfl,trivial⟩)
 split
 ·exact eR (gF rfl rfl rfl ⟨mJ (decide_eq_true (by omega)),rfl,.inl rfl,trivial⟩)
 ·exact eR trivial
theorem ap_cond (x:Cnd):Apart (pH x):=bB (ap_side _) (bB ap_op (bB (ap_side _) (bB (ap_add _) cG)))
theorem ap_conds:∀(l:List Cnd),Apart (mN l)
 | []=>fN
 | x::r=>bB (nG rfl) (bB (ap_cond x) (nY (fun y=>vB (iL rfl) rfl rfl (ap_cond y)) r))
theorem ap_rest (k:Int)(cs:List Cnd)(ns:List (List UInt8))(a as_:List UInt8)(g:Int):Apart (dR k cs ns a as_ g):=by
 unfold dR;refine cZ (ap_conds cs) (cZ (bB (nG rfl) (bB (ap_names ns) cG)) (cZ (bB (lC rfl rfl rfl) (bB (jO a) (bB (nG rfl) (bB (jO as_) cG)))) (cZ (cZ ?_ fN) (eR trivial))));exact bB (nG rfl) (bB (ap_names ns) (bB (nG rfl) (bB (rK (by decide)) (bB (cZ (cZ (eR trivial) fN) (jO a)) (bB (nG rfl) (bB (jO as_) cG))))))
theorem ap_nameB {o:Bool}{b s:List UInt8}(hb:okB b=true)(ho:o=true∨b≠[]) {ps:List Pc}(e:bG b s=some ps):Flow o ps:=by
 rcases ho with rfl|hn
 ·exact tU hb ps e
 ·exact(aBr hb hn ps e).mono
mutual
theorem fl_ex (b:List UInt8)(hb:okB b=true) {o:Bool}(ho:o=true∨b≠[]):∀(x:Ex)(ps:List Pc),gJ b x=some ps→Flow o ps
 | .mk k tb ks cs ns a as_ g _,ps,e=>by
  rw[gJ]at e
  split at e
  ·rename_i h
   split at e
   ·exact ap_nameB hb ho e
   ·rename_i h1
    obtain⟨p1,q1,e1,k1,rfl⟩:=aJ e
    obtain⟨p2,q2,e2,k2,rfl⟩:=aJ k1
    cases e1
    have hw:dH (dB.getD (k - 2).toNat [])=true:=by
     rcases(show k=2∨k=3∨k=4∨k=5∨k=6∨k=7∨k=8 by omega) with rfl|rfl|rfl|rfl|rfl|rfl|rfl<;>rfl
    have hk:Flow true (p2++q2):=Flow.app (bB (ap_rest _ _ _ _ _ _) (bB (lC (p:=aP [] [41]) rfl rfl rfl) cG) q2 k2) (fl_kids [] rfl (.inl rfl) ks p2 e2)
    exact⟨iL hw,hb,ho.imp id fun hn=>xH hb hn,rfl,rfl,.inr rfl,hk⟩
  ·cases e
theorem fl_kids (b:List UInt8)(hb:okB b=true) {o:Bool}(ho:o=true∨b≠[]):∀(l:List Ex)(ps:List Pc),kU b l=some ps→Flow o ps
 | [],ps,e=>by
  rw[kU]at e
  cases e
  trivial
 | x::r,ps,e=>by
  rw[kU]at e
  split at e
  ·rename_i p q h1 h2
   cases e
   have hx:=fl_ex b hb ho x p h1;have hr:=fl_kids [32] rfl (o:=false) (.inr (by simp)) r q h2;cases r with
   | nil =>
    rw[kU]at h2
    cases h2
    simpa using hx
   | cons y r =>
    simp only[List.isEmpty_cons,Bool.false_eq_true,if_false,List.append_assoc]
    exact Flow.app (gF (p:=aP [] [44]) rfl rfl rfl hr) hx
  ·cases e
end
theorem ap_vl (v:Vl):Apart ((bR v).map (aP [32] [61]::·)):=vB rfl rfl rfl (zN v)
theorem ap_col (c:Col):Apart (mO [32] c):=bB (jO _) (bB (rK (by decide)) (bB (cZ (eR (l:=[]) trivial) (ap_vl _)) cG))
theorem apO_col (c:Col):jF (mO [] c):=oY (tU rfl) (bB (rK (by decide)) (bB (cZ (eR (l:=[]) trivial) (ap_vl _)) cG))
theorem ap_term (t:Trm):Apart (bC t):=by
 refine bB (aBr rfl (by simp)) (bB (rK (by decide)) (bB (cZ (wH _) (cZ (eR (l:=[]) trivial) fN)) (bB (nG rfl) (bB (wH _) (bB (cZ (eR (l:=[]) trivial) ?_) (bB (nG rfl) (bB (wH _) (bB (cZ (eR (l:=[]) trivial) ?_) (bB (lC (p:=aP [] [59]) rfl rfl rfl) cG)))))))))
 ·exact ap_mapO rfl rfl rfl rfl (apO_num rfl)
 ·exact vB (iL rfl) rfl rfl (wH _)
theorem ap_fix (f:Nmd):Apart (uV f):=bB (jO _) (bB (lC (p:=aP [32] [61]) rfl rfl rfl) (bB (zN _) cG))
theorem ap_fixed:∀(l:List Nmd),Apart (uU l)
 | []=>eR (l:=[]) trivial
 | x::r=>bB (nG rfl) (bB (ap_fix x) (nY (fun y=>vB (p:=aP [] [44]) rfl rfl rfl (ap_fix y)) r))
theorem ap_var (v:Vr):Apart (sQ v):=bB (jO _) (bB (jO _) cG)
theorem ap_sym2 {s w:List UInt8}{r:List (Option (List Pc))}(h1:kX (aP [] s).t)(h2:pQ s=true)(hw:dH w=true)(h:Apart (aF r)):Apart (aF (some [aP [] s,aG [32] w]::r)) :=
 bB (eR (gF h1 rfl h2 (gF (p:=aG [32] w) (r:=[]) (iL hw) rfl rfl trivial).mono)) h
theorem ap_seqs:∀ {l:List (Option (List Pc))},(∀ x∈l,Apart x)→Apart (aF l)
 | [],_=>cG
 | x::r,h=>bB (h x (by simp)) (ap_seqs fun y hy=>h y (by simp[hy]))
theorem ap_part (x:It):Apart (dS x):=by
 unfold dS;refine cZ ?_ (cZ ?_ (cZ ?_ (cZ ?_ (cZ ?_ (cZ ?_ (cZ ?_ (cZ ?_ (cZ ?_ ?_))))))))
 ·exact wU rfl rfl rfl rfl (oY (zO apO_col ap_col _) (ap_sym2 rfl rfl rfl (bB (aAQ jO jO _) cG)))
 ·exact bB (nG rfl) (bB (wH _) cG)
 ·exact bB (nG rfl) (bB (qY _ _) (bB (nG rfl) (bB (rK (by decide)) (bB (cZ (wH _) (eR (l:=[]) trivial)) (bB (cZ (wH _) (eR (l:=[]) trivial)) cG)))))
 ·refine ap_seqs fun y hy=>?_
  rcases List.mem_append.1 hy with hy|hy
  ·simp only[List.mem_cons,List.not_mem_nil,or_false]at hy
   rcases hy with rfl|rfl|rfl|rfl|rfl
   ·exact nG rfl
   ·exact jO _
   ·exact nG rfl
   ·exact wH _
   ·exact lC rfl rfl rfl
  ·obtain⟨t,_,rfl⟩:=List.mem_map.1 hy
   exact ap_term t
 ·exact bB (qY _ _) (bB (nG rfl) (bB (rK (by decide)) cG))
 ·exact bB (nG rfl) (bB (jO _) (wU rfl rfl rfl rfl (oY (aAR _) (bB (lC (p:=aP [] [41]) rfl rfl rfl) cG))))
 ·exact bB (nG rfl) (bB (jO _) (wU rfl rfl rfl rfl (oY (aAR _) (ap_sym2 rfl rfl rfl (bB (jO _) (bB (ap_fixed _) cG))))))
 ·exact bB (qY _ _) (bB (nG rfl) (bB (qY _ _) cG))
 ·exact bB (aAQ ap_var ap_var _) (bB (ap_conds _) cG)
 ·exact bB (lC (p:=aP [32] [61]) rfl rfl rfl) (bB (fun ps e=>fl_ex [32] rfl (.inr (by simp)) _ ps e) cG)
theorem itWord_ok {k:Int}(h1:1≤k)(h10:k≤10):dH (eM.getD (k - 1).toNat [])=true:=by
 rcases(show k=1∨k=2∨k=3∨k=4∨k=5∨k=6∨k=7∨k=8∨k=9∨k=10 by omega) with rfl|rfl|rfl|rfl|rfl|rfl|rfl|rfl|rfl|rfl<;>rfl
theorem item_flow (x:It):jF (iO x):=fun ps e=>by
 unfold iO at e;split at e
 ·rename_i h
  refine oY (apO_one (iL (itWord_ok h.1 h.2.1)) rfl) (bB (cZ (eR (l:=[]) trivial) (jO _)) (bB (ap_part x) (bB ?_ cG))) ps e;split
  ·exact lC rfl rfl rfl
  ·exact lC rfl rfl rfl
 ·cases e
theorem uM {α β:Type}{f:α→Option β}:∀ {l:List α}{r:List β},l.mapM f=some r→r.length=l.length∧∀(i:Nat)(x:α),l[i]?=some x→∃ y,r[i]?=some y∧f x=some y
 | [],r,h=>by
  simp at h
  subst h
  simp
 | x::l,r,h=>by
  rw[List.mapM_cons]at h
  cases hx:f x with
  | none=>rw[hx]at h;cases h
  | some y =>
   cases hl:l.mapM f with
   | none=>rw[hx,hl]at h;cases h
   | some s =>
    rw[hx,hl]at h
    cases h
    obtain⟨h1,h2⟩:=uM hl
    refine⟨by simp[h1],fun i z hz=>?_⟩
    cases i with
    | zero=>simp at hz;subst hz;exact⟨y,rfl,hx⟩
    | succ i=>exact h2 i z (by simpa using hz)
theorem cR.isS {sz n:Nat}{h:Heap}{v:Value}{xs:List Value}(a:cR sz h v n xs):∃ e f,v=.slice e n f:=by
 obtain⟨_,e,f,hv,_⟩:=a
 exact⟨e,f,hv⟩
theorem tA (B:Base)(b:Nat)(p v:Value)(k:Int)(bs:List UInt8)(l:List Cnd)(vs:Value)(h:Heap)(hp:cN b p)(hT:iQ B.h)(hA:cR 14 B.h vs l.length (l.flatMap oW))(hOK:∀ c∈l,wI c)
  (o:Own B [box b [p,v,.int .i64 k] 58,row v 5 1 bs.length (bytes bs)] h) (hl:bs.length+2000*l.length≤50000000000000) (hk:0≤k∧k+2000*l.length≤50000000000000) :
  Spec Tryz.prog 127 [.pointer (some ⟨b,0,none⟩),vs] h (WEnds B b bs k (2000*l.length) (mN l)):=by
 obtain⟨ya,yc,rfl⟩:=hA.isS
 refine Spec.enter Tryz.func127 rfl Tryz.ntmps127 (by kernel_rfl) ?_;by_cases h0:l=[]
 ·subst h0
  refine run (aBH rfl mZ ?_);refine MEnds.aBC ‹_› (aC _ _) (fun e1 m2 _ oq=>by cases e1) fun e1 m2 oq=>?_
  exact⟨rfl,rfl,oq⟩
 have hpos:0<l.length:=List.length_pos_iff.2 h0;refine run (aBH rfl mZ ?_);refine MEnds.aBC ‹_› (aC _ _) (fun e1 m2 oc oq=>?_) fun e1 m2 oq=>absurd (of_decide_eq_false e1) (by omega);clear oc o
 rw[wE l h0]
 refine run (aBH rfl mZ ?_);refine LoopVC.intro [4,6,13,14,15,16,17,18,19,20,21,22,23,24,25,26,27,28,29,30,31,32,33,34,35,36,37,38,39,40,41,42,43,44,45,46,47,48,49,50,51,52,53,54,55,56,57,58,59,60,61,62,63,64,65,66,67,68,69,70,71,72,73,74] [4,13] (fun vs' hh=>∃(i:Nat) (p' v':Value) (bs' be:List UInt8) (k':Int) (ps:List Pc),i≤l.length∧be=(if i=0 then[32,119,104,101,114,101] else[32,97,110,100])∧vs'=[.string ⟨⟨be⟩⟩,.int .i64 i]∧cN b p'∧cT tQ (l.take i)=some ps∧bs'=bs++bE ps∧k'=k+ps.length∧bs'.length≤bs.length+2000*i∧k'≤k+2000*i∧Own B [box b [p',v',.int .i64 k'] 58,row v' 5 1 bs'.length (bytes bs')] hh) (fun vs' _=>match vs' with|[_,.int _ i]=>l.length - i.toNat|_=>0) ?_ ?_
 ·exact⟨0,p,v,bs,_,k,[],by omega,rfl,rfl,hp,rfl,by simp[bE],by simp,by omega,by omega,oq⟩
 ·rintro vs' junk hh ⟨i,p',v',bs',be,k',ps,hi,hbe,rfl,hp',hQ,hb',hk',hl',hk2,oh⟩
  clear oq;by_cases hlt:i<l.length
  ·obtain⟨x,hx⟩:=getx hlt
   have hxOK:=hOK x (List.mem_of_getElem? hx)
   obtain⟨hL,hop,hR,hadd⟩:=hxOK
   have hbl:be.length≤6:=by rw[hbe];split<;>simp
   have hkk:0≤k':=by omega
   have hm:2000*i+2000≤2000*l.length:=by omega
   refine Br.dec (fun c50=>?_) (fun hc=>absurd (by omega) hc);refine run (aBJ mZ fY (hA.ext oh.ext) rfl (by omega) (by omega) ?_);refine run (aBN fY (hA.ext oh.ext) (fun _=>rfl) (by decide) rfl ‹_› ?_);(refine RunVC.alloc oh fY ?_;intro b53 m53 o53);(refine RunVC.aBA o53 2 rfl fY rfl (by decide) (aI ⟨rfl,rfl⟩ ?_);intro m54 o54);refine run (nC rfl ?_);refine run (fA bM rfl rfl rfl ?_);(refine RunVC.lit o54 aH aN rfl rfl (by decide) (aI rfl ?_);intro b57 m57 o57);refine aE [be] 1 30 [2] (i:=3) ‹_› rfl rfl rfl hp' rfl (by omega) (by omega) (by simp;omega) (by omega) (by omega) (fun p1 v1 bs1 k1 m1 hp1 hb1 hk1 hl1 oq=>?_);have o1:=oq
   simp only[pick,lgS,lgZ]at o1
   clear oq;have hone:tQ i x=(aF [fP x.left,opQ x.op,fP x.right,sK x.add]).map ((if i=0 then aG [32] [119,104,101,114,101] else aG [32] [97,110,100])::·):=rfl;generalize hw:(if i=0 then aG [32] [119,104,101,114,101] else aG [32] [97,110,100])=w at hone;have hwb:fR w=be:=by rw[hbe,← hw];split<;>rfl
   refine run (fA jY rfl rfl rfl ?_);refine run (aBB o1 2 rfl lE rfl rfl rfl ?_);refine WEnds.callJ [2] ‹_› rfl rfl (fun J oj=>vM _ b p1 v1 k1 bs1 x.left _ hp1 hT oj (by omega) hL (by omega)) (fun ps2 p2 v2 bs2 k2 m2 hq2 hp2 hb2 hk2' hl2 _ hj2 oq=>?_) (fun m2 hq2 oq=>?_)
   case refine_2 =>
    have:tQ i x=none:=by rw[hone];simp only[hq2,aF,oMN]
    exact⟨aR hx hQ this,rfl,oq⟩
   have o2:=oq
   simp only[pick,lgS,lgZ]at o2
   clear oq o1;refine DrawVC.intro [0,1,2,3] [4] [6,7,8] [0,1,2,3,4,5,6,7,8] mixed (by kernel_rfl) rfl (fun _ _ _ _ h=>h) ?_;refine nC rfl ?_;refine fA bM rfl rfl rfl ?_;refine fA jY rfl rfl rfl ?_;refine aBx o2 2 rfl aW rfl rfl ?_;(refine RunVC.lit (Own.refl _) aH aN rfl rfl (by decide) (aI rfl ?_);intro b124 m124 o124);(refine aI o124.ext ?_;have o125:=Own.call o2 o124;simp only[lcA,lnA]at o125;clear o124);refine MEnds.aBC ‹_› (dN _ [[61],[33,61],[60],[60,61]] _ _ (by omega) (by omega) (Own.boxArr ‹_› 3 rfl rfl (by decide)) (by simp) (by simp)) (fun e3 m3 _ oq=>?_) fun e3 m3 oq=>?_
   case refine_2 =>
    have e3:=of_decide_eq_false e3
    simp only[List.length_cons,List.length_nil]at e3
    have:tQ i x=none:=by rw[hone];simp only[hq2,show opQ x.op=none from if_neg (by omega),aF,oMN]
    exact⟨aR hx hQ this,rfl,oq⟩
   have e3:=of_decide_eq_true e3
   simp only[List.length_cons,List.length_nil]at e3
   have hq3:opQ x.op=some [aP [32] (([[61],[33,61],[60],[60,61]]:List (List UInt8)).getD (x.op - 1).toNat [])]:=if_pos (by omega);have hwl:(([[61],[33,61],[60],[60,61]]:List (List UInt8)).getD (x.op - 1).toNat []).length≤2:=by
    have:x.op=1∨x.op=2∨x.op=3∨x.op=4:=by omega
    rcases this with h|h|h|h<;>rw[h]<;>decide
   generalize (([[61],[33,61],[60],[60,61]]:List (List UInt8)).getD (x.op - 1).toNat [])=opw at hq3 hwl
   (refine RunVC.lit oq aH aN rfl rfl (by decide) (aI rfl ?_);intro b140 m140 o140);refine aE [32::opw] 1 30 [2] (i:=4) ‹_› rfl rfl rfl hp2 rfl (by omega) (by omega) (by simp;omega) (by omega) (by omega) (fun p4 v4 bs4 k4 m4 hp4 hb4 hk4 hl4 oq=>?_);have o4:=oq
   simp only[pick,lgS,lgZ]at o4
   clear oq o2;refine run (fA jY rfl rfl rfl ?_);refine run (aBB o4 2 rfl lE rfl rfl rfl ?_);refine WEnds.callJ [2] ‹_› rfl rfl (fun J oj=>vM _ b p4 v4 k4 bs4 x.right _ hp4 hT oj (by omega) hR (by omega)) (fun ps5 p5 v5 bs5 k5 m5 hq5 hp5 hb5 hk5 hl5 _ hj5 oq=>?_) (fun m5 hq5 oq=>?_)
   case refine_2 =>
    have:tQ i x=none:=by rw[hone];simp only[hq2,hq3,hq5,aF,oMN]
    exact⟨aR hx hQ this,rfl,oq⟩
   have o5:=oq
   simp only[pick,lgS,lgZ]at o5
   clear oq o4;by_cases hr:-9999999999≤x.add∧x.add≤9999999999
   case neg =>
    have hq6:sK x.add=none:=if_pos hr;have hn:tQ i x=none:=by rw[hone];simp only[hq2,hq3,hq5,hq6,aF,oMN]
    by_cases hr1:-9999999999≤x.add
    ·refine run (fA jY rfl rfl rfl ?_)
     refine run (aBx o5 2 rfl aW rfl rfl ?_);refine Br.dec (fun c202=>?_) (fun hc=>absurd (by omega) hc);refine run (fA jY rfl rfl rfl ?_);refine run (aBx o5 2 rfl aW rfl rfl ?_);refine MEnds.aBC ‹_› (aC _ _) (fun e6 m6 _ oq=>absurd (of_decide_eq_true e6) (by omega)) fun e6 m6 oq=>?_
     exact⟨aR hx hQ hn,rfl,oq⟩
    ·refine run (fA jY rfl rfl rfl ?_)
     refine run (aBx o5 2 rfl aW rfl rfl ?_);refine Br.dec (fun hc=>absurd hc (by omega)) (fun c222=>?_);refine MEnds.aBC ‹_› (aC _ _) (fun e6 m6 _ oq=>by cases e6) fun e6 m6 oq=>?_
     exact⟨aR hx hQ hn,rfl,oq⟩
   refine run (fA jY rfl rfl rfl ?_);refine run (aBx o5 2 rfl aW rfl rfl ?_);refine Br.dec (fun c242=>?_) (fun hc=>absurd (by omega) hc);refine run (fA jY rfl rfl rfl ?_);refine run (aBx o5 2 rfl aW rfl rfl ?_);refine MEnds.aBC ‹_› (aC _ _) (fun e6 m6 _ oq=>?_) fun e6 m6 oq=>absurd (of_decide_eq_false e6) (by omega);clear o5;have hend:∀ ps6,sK x.add=some ps6→tQ i x=some (w::(ps2++([aP [32] opw]++(ps5++(ps6++[]))))):=fun ps6 h=>by
    rw[hone];simp only[hq2,hq3,hq5,h,aF,oMS]
   have hbs:bs5=bs++bE (ps++(w::(ps2++([aP [32] opw]++ps5)))):=by
    rw[hb5,hb4,hb2,hb1,hb',← hwb]
    simp[bE,fR,wr,aP]
   have hks:k5=k+(ps++(w::(ps2++([aP [32] opw]++ps5)))).length:=by
    rw[hk5,hk4,hk2',hk1,hk']
    simp
    omega
   by_cases hpos:0<x.add
   ·have hno:gZ x.add=true:=decide_eq_true (by omega)
    have hil:=bV hno;have hq6:sK x.add=some [aP [32] [43],bQ [32] x.add]:=by unfold sK;rw[if_neg (by omega),if_pos hpos]
    refine run (fA jY rfl rfl rfl ?_);refine run (aBx oq 2 rfl aW rfl rfl ?_);refine Br.dec (fun c262=>?_) (fun hc=>absurd (by omega) hc);refine DrawVC.intro [0,1,2,3,6] [4] [5,7,8] [0,1,2,3,4,5,6,7,8] mixed (by kernel_rfl) rfl (fun _ _ _ _ h=>h) ?_;refine nC rfl ?_;refine fA bM rfl rfl rfl ?_;refine fA jY rfl rfl rfl ?_;refine aBx oq 2 rfl aW rfl rfl ?_;refine MEnds.aBC ‹_› (bH _ _ (by omega) (by omega) (hT.ext (Own.ext (B:=B) ‹_›))) (fun e7 m7 _ oq=>?_) fun e7 m7 oq=>(by rw[hno]at e7;cases e7);refine aBF rfl rfl (by first|omega|(simp;omega)) ?_;(refine RunVC.lit oq aH aN rfl rfl (by decide) (aI rfl ?_);intro b281 m281 o281);refine aE [[32,43],[32]++Lib.itoa x.add] 2 30 [2] (i:=3) ‹_› rfl rfl rfl hp5 rfl (by omega) (by omega) (by simp;omega) (by omega) (by omega) (fun p8 v8 bs8 k8 m8 hp8 hb8 hk8 hl8 oq=>?_);have o8:=oq
    simp only[pick,lgS,lgZ]at o8
    clear oq;refine Ar.i64 (by omega) (by omega) ?_
    refine⟨rfl,?_⟩
    refine⟨⟨i+1,p8,v8,bs8,_,k8,ps++(w::(ps2++([aP [32] opw]++(ps5++([aP [32] [43],bQ [32] x.add]++[]))))),by omega,?_,rfl,hp8,aZ hx hQ (hend _ hq6),by rw[hb8,hbs];simp[bE,fR,wr,aP,bQ],by rw[hk8,hks];simp;omega,by omega,by omega,Own.sel ‹_› [0,1] rfl⟩,by simp;omega⟩
    rw[if_neg (by omega)]
   by_cases hneg:x.add<0
   ·have hno:gZ (-x.add)=true:=decide_eq_true (by omega)
    have hil:=bV hno;have hq6:sK x.add=some [aP [32] [45],bQ [32] (-x.add)]:=by unfold sK;rw[if_neg (by omega),if_neg hpos,if_pos hneg]
    refine run (fA jY rfl rfl rfl ?_);refine run (aBx oq 2 rfl aW rfl rfl ?_);refine Br.dec (fun hc=>absurd hc (by omega)) (fun c312=>?_);refine run (fA jY rfl rfl rfl ?_);refine run (aBx oq 2 rfl aW rfl rfl ?_);refine Br.dec (fun c315=>?_) (fun hc=>absurd (by omega) hc);refine DrawVC.intro [0,1,2,3,5,7] [4] [6,8,9] [0,1,2,3,4,5,6,7,8,9] mixed (by kernel_rfl) rfl (fun _ _ _ _ h=>h) ?_;refine nC rfl ?_;refine fA bM rfl rfl rfl ?_;refine fA jY rfl rfl rfl ?_;refine aBx oq 2 rfl aW rfl rfl ?_;refine Ar.i64 (by omega) (by omega) ?_
    rw[Int.zero_sub]
    refine MEnds.aBC ‹_› (bH _ _ (by omega) (by omega) (hT.ext (Own.ext (B:=B) ‹_›))) (fun e7 m7 _ oq=>?_) fun e7 m7 oq=>(by rw[hno]at e7;cases e7);refine aBF rfl rfl (by first|omega|(simp;omega)) ?_;(refine RunVC.lit oq aH aN rfl rfl (by decide) (aI rfl ?_);intro b331 m331 o331);refine aE [[32,45],[32]++Lib.itoa (-x.add)] 2 30 [2] (i:=3) ‹_› rfl rfl rfl hp5 rfl (by omega) (by omega) (by simp;omega) (by omega) (by omega) (fun p8 v8 bs8 k8 m8 hp8 hb8 hk8 hl8 oq=>?_);have o8:=oq
    simp only[pick,lgS,lgZ]at o8
    clear oq;refine Ar.i64 (by omega) (by omega) ?_
    refine⟨rfl,?_⟩
    refine⟨⟨i+1,p8,v8,bs8,_,k8,ps++(w::(ps2++([aP [32] opw]++(ps5++([aP [32] [45],bQ [32] (-x.add)]++[]))))),by omega,?_,rfl,hp8,aZ hx hQ (hend _ hq6),by rw[hb8,hbs];simp[bE,fR,wr,aP,bQ],by rw[hk8,hks];simp;omega,by omega,by omega,Own.sel ‹_› [0,1] rfl⟩,by simp;omega⟩
    rw[if_neg (by omega)]
   ·have hq6:sK x.add=some []:=by unfold sK;rw[if_neg (by omega),if_neg hpos,if_neg hneg]
    refine run (fA jY rfl rfl rfl ?_);refine run (aBx oq 2 rfl aW rfl rfl ?_);refine Br.dec (fun hc=>absurd hc (by omega)) (fun c362=>?_);refine run (fA jY rfl rfl rfl ?_);refine run (aBx oq 2 rfl aW rfl rfl ?_);refine Br.dec (fun hc=>absurd hc (by omega)) (fun c365=>?_);refine Ar.i64 (by omega) (by omega) ?_
    refine⟨rfl,?_⟩
    refine⟨⟨i+1,p5,v5,bs5,_,k5,ps++(w::(ps2++([aP [32] opw]++(ps5++([]++[]))))),by omega,?_,rfl,hp5,aZ hx hQ (hend _ hq6),by rw[hbs];simp,by rw[hks];simp,by omega,by omega,Own.sel ‹_› [0,1] rfl⟩,by simp;omega⟩
    rw[if_neg (by omega)]
  ·refine Br.dec (fun hc=>absurd hc (by omega)) (fun c400=>?_)
   refine RetVC.zero rfl ?_;have hQ2:=fO (Nat.le_of_not_lt hlt) hQ;exact WEnds.done hQ2 oh hp' hb' hk' (by omega) (by omega)
theorem yG:∀(r:List Ex)(b:List UInt8)(x:Ex),kU b (x::r)=aF (gJ b x::r.map fun y=>(gJ [32] y).map (aP [] [44]::·))
 | [],b,x=>by
  show(match gJ b x,kU [32] [] with
   | some p,some q=>some (p++(if ([]:List Ex).isEmpty then[] else[aP [] [44]])++q)
   | _,_=>none)=_
  cases gJ b x<;>simp[aF,kU]
 | y::r,b,x=>by
  show(match gJ b x,kU [32] (y::r) with
   | some p,some q=>some (p++(if (y::r).isEmpty then[] else[aP [] [44]])++q)
   | _,_=>none)=_
  rw[yG r [32] y,List.map_cons]
  cases gJ b x with
  | none=>rfl
  | some p =>
   cases gJ [32] y with
   | none=>rfl
   | some q =>
    cases h:aF (r.map fun y=>(gJ [32] y).map (aP [] [44]::·))<;>simp[aF,h]
theorem mH (ks:List Ex):kU [] ks=cT (dV gJ) ks:=by
 cases ks with
 | nil=>rfl
 | cons x r =>
  rw[yG]
  unfold cT
  rw[show(x::r).mapIdx (dV gJ)=_ from oM (gJ []) (fun y=>(gJ [32] y).map (aP [] [44]::·)) x r]
theorem jM:∀ {l:List Ex}{i:Nat}{x:Ex},l[i]?=some x→cI (l.take (i+1))=max (cI (l.take i)) (cC x)
 | [],_,_,h=>by simp at h
 | y::l,0,x,h=>by simp at h;subst h;simp[cI]
 | y::l,i+1,x,h=>by
  have:=jM (l:=l) (i:=i) (x:=x) (by simpa using h)
  rw[List.take_succ_cons,List.take_succ_cons,cI,cI,this]
  omega
theorem kH:∀ {l:List Ex}{i:Nat}{x:Ex},l[i]?=some x→eW (l.take (i+1))=eW (l.take i)+eU x
 | [],_,_,h=>by simp at h
 | y::l,0,x,h=>by simp at h;subst h;simp[eW]
 | y::l,i+1,x,h=>by
  have:=kH (l:=l) (i:=i) (x:=x) (by simpa using h)
  rw[List.take_succ_cons,List.take_succ_cons,eW,eW,this]
  omega
theorem dY (l:List Ex)(i:Nat):eW (l.take i)≤eW l:=by
 induction l generalizing i with
 | nil=>simp
 | cons x l ih =>
  cases i with
  | zero=>simp[eW]
  | succ i=>rw[List.take_succ_cons,eW,eW];have:=ih i;omega
def aBm:List Value:=[.string ⟨⟨[]⟩⟩,.int .i64 0,.string ⟨⟨[]⟩⟩,.int .i64 0,.string ⟨⟨[115,101,108,101,99,116]⟩⟩,.int .i64 1,.string ⟨⟨[112,114,111,106,101,99,116]⟩⟩,.int .i64 1,.string ⟨⟨[106,111,105,110]⟩⟩,.int .i64 2,
 .string ⟨⟨[117,110,105,111,110]⟩⟩,.int .i64 2,.string ⟨⟨[109,105,110,117,115]⟩⟩,.int .i64 2,.string ⟨⟨[114,101,110,97,109,101]⟩⟩,.int .i64 1,.string ⟨⟨[103,114,111,117,112]⟩⟩,.int .i64 1]
def fW (h:Heap):Prop:=∀ i,i<18→aX h ⟨1,i,none⟩=aBm[i]?
theorem fW.ext {h h':Heap}(w:fW h)(e:Ext h h'):fW h':=fun i hi=>by
 obtain⟨v,hv⟩:=getx (l:=aBm) (show i<aBm.length from hi)
 rw[hv]
 exact e.cell ((w i hi).trans hv)
theorem nV {h:Heap}(w:fW h)(k:Int)(h1:1≤k)(h8:k≤8):aX h ⟨1,0+k.toNat*2+1,none⟩=some (.int .i64 (gD k))∧(k≠1→aX h ⟨1,0+k.toNat*2+0,none⟩=some (.string ⟨⟨dB.getD (k - 2).toNat []⟩⟩)):=by
 have:k=1∨k=2∨k=3∨k=4∨k=5∨k=6∨k=7∨k=8:=by omega
 rcases this with rfl|rfl|rfl|rfl|rfl|rfl|rfl|rfl
 ·exact⟨w 3 (by decide),fun h=>absurd rfl h⟩
 ·exact⟨w 5 (by decide),fun _=>w 4 (by decide)⟩
 ·exact⟨w 7 (by decide),fun _=>w 6 (by decide)⟩
 ·exact⟨w 9 (by decide),fun _=>w 8 (by decide)⟩
 ·exact⟨w 11 (by decide),fun _=>w 10 (by decide)⟩
 ·exact⟨w 13 (by decide),fun _=>w 12 (by decide)⟩
 ·exact⟨w 15 (by decide),fun _=>w 14 (by decide)⟩
 ·exact⟨w 17 (by decide),fun _=>w 16 (by decide)⟩
def XEnds (B:Base)(b:Nat)(bs:List UInt8)(k:Int)(c:Nat)(o:Option (List Pc))(lev:Int):Ending→Heap→Prop :=
 Ends (fun r h'=>∃ ps p' v',o=some ps∧r=.int .i64 lev∧cN b p'∧(bE ps).length≤c∧ps.length≤c∧Own B [box b [p',v',.int .i64 (k+ps.length)] 58,row v' 5 1 (bs++bE ps).length (bytes (bs++bE ps))] h')
  fun q h'=>o=none∧q=uZ∧Own B [] h'
section
variable {g : FuncId} {args s : List Value} {B : Base} {L : List Item} {b i : Nat} {p v : Value} {k lev : Int} {bs : List UInt8} {h : Heap} {K : KK} {Q : QQ}
theorem XEnds.callJ {c:Nat}{opt:Option (List Pc)}(js:List Nat)(o:Own B L h)(e:pick L [0,1]=[box b [p,v,.int .i64 k] 58,row v 5 1 bs.length (bytes bs)])(hd:dst ([0,1]++js)=true)
  (sp:∀ J,Own ⟨B.h,J++B.T⟩ [box b [p,v,.int .i64 k] 58,row v 5 1 bs.length (bytes bs)] h→Spec Tryz.prog g args h (XEnds ⟨B.h,J++B.T⟩ b bs k c opt lev))
  (hret:∀ ps p' v' bs' k' h',opt=some ps→cN b p'→bs'=bs++bE ps→k'=k+ps.length→bs'.length≤bs.length+c→k≤k'→k'≤k+c→Own B (box b [p',v',.int .i64 k'] 58::row v' 5 1 bs'.length (bytes bs')::pick L js) h'→K (.int .i64 lev) false h')
  (hpan:∀ h',opt=none→Own B [] h'→Q (.panic uZ) s h'):CallVC Tryz.prog g args s h K Q:=by
 have o1:=o.lend [0,1] js hd
 rw[e]at o1
 exact CallVC.ends (sp _ o1) (fun _ _ ⟨ps,p',v',h1,h2,h3,h4,h5,o2⟩=>by
  subst h2;exact hret ps p' v' (bs++bE ps) _ _ h1 h3 rfl rfl (by rw[List.length_append];omega) (by omega) (by omega) o2.back) (fun _ _ ⟨h1,h2,o2⟩=>by subst h2;exact hpan _ h1 (o2.back.sel [] rfl))
theorem XEnds.done {c:Nat}{opt:Option (List Pc)}{ps:List Pc}{bs':List UInt8}{k':Int}(hq:opt=some ps)(o:Own B [box b [p,v,.int .i64 k'] 58,row v 5 1 bs'.length (bytes bs')] h)(hp:cN b p)(hb:bs'=bs++bE ps)(hk:k'=k+ps.length)
  (hc:bs'.length≤bs.length+c) (hc2:k'≤k+c):XEnds B b bs k c opt lev (.returned (.int .i64 lev)) h:=by
 subst hb;subst hk
 rw[List.length_append]at hc
 exact⟨ps,p,v,hq,rfl,hp,by omega,by omega,o⟩
end
end Go.Proofs.YtohlogbnpfofpaaGreatDoor
namespace Go.Proofs.YtohlogbnpfofpaaGreatDoor
open Go Go.ChangeShapes Go.WideShapes Go.ChangeAt Go.RowKit
abbrev laid3:List (String×DataW Unit):=Rows.printerInverseRow.laid
theorem laidOut:laidOutB Tryz.prog=true:=by kernel_rfl
theorem own:ownKnob Tryz.prog.godebug=none:=by kernel_rfl
theorem gPow:Tryz.prog.globalNamed "internal/strconv.uint64pow10"=some 5:=by kernel_rfl
theorem tPow:(Tryz.prog.globals[5]?).map (·.type)=some 271:=by kernel_rfl
theorem cPow:Tryz.prog.cellsOf 271=20:=by kernel_rfl
theorem cU64:Tryz.prog.cellsOf 178=1:=by kernel_rfl
theorem gWords:Tryz.prog.globalNamed "cleanse/parser.words"=some 0:=by kernel_rfl
theorem tWords:(Tryz.prog.globals[0]?).map (·.type)=some 115:=by kernel_rfl
theorem cWords:Tryz.prog.cellsOf 115=10:=by kernel_rfl
theorem cStr:Tryz.prog.cellsOf 9=1:=by kernel_rfl
theorem gForms:Tryz.prog.globalNamed "cleanse/printer.forms"=some 1:=by kernel_rfl
theorem tForms:(Tryz.prog.globals[1]?).map (·.type)=some 195:=by kernel_rfl
theorem cInt:Tryz.prog.cellsOf 3=1:=by kernel_rfl
theorem cForms:Tryz.prog.cellsOf 195=18:=by kernel_rfl
theorem cForm:Tryz.prog.cellsOf 194=2:=by kernel_rfl
theorem tab_of_laid {W:World}(h:laidMetH Tryz.prog laid3 W):iQ W.heap:=by
 rw[MakeChecks.laidMetH_plain _ _ _ (by kernel_rfl)]at h
 have h2:=laidMet.tail (laidMet.tail h);have e:Rows.laid_internal_strconv_uint64pow10 (H:=Unit)=Lib.tabData .u64 Lib.pow10Tab:=by rfl
 rw[e]at h2
 have key:=Lib.tabIs_of_head gPow tPow Tryz.underlying271 Tryz.underlying178 cU64 cPow h2;intro w hw;unfold Lib.TabIs World.var? at key ⊢
 rw[hw]
 exact key
theorem zZ {H:Type}{enc:TypeId×Value→H}{P:Program}{w:World}{base:Nat}{sp:Nat→Bool}{held:Bool}{fuel:Nat}{t e:TypeId}{n:Nat}{cs:List Value}{zs:List (List UInt8)}{p:List MemPlace}
  (ht:P.underlying t=some (.array n e)) (he:P.underlying e=some .string) (hce:P.cellsOf e=1) (hct:P.cellsOf t=n)
  (h:DataW.trod enc P w base sp held fuel t cs=some (.agg (zs.map fun z=>.lit (.string z)),p)):cs=strs zs:=by
 obtain⟨xs,m,_,hx,hl,hxl,hi⟩:=DataW.trod_array ht h
 have hxs:xs.map (·.1)=zs.map fun z=>(DataW.lit (.string z):DataW H):=by
  have:=congrArg Prod.fst hx
  simpa using this.symm
 have hzl:zs.length=n:=by
  have:=congrArg List.length hxs
  simp at this
  omega
 rw[hct]at hl
 apply List.ext_getElem?
 intro i;by_cases hin:i<n
 ·have h1:=hi i hin
  rw[hce,Nat.mul_one]at h1
  cases hy:xs[i]? with
  | none=>rw[List.getElem?_eq_none_iff]at hy;omega
  | some y =>
   rw[hy]at h1
   obtain⟨s,hc,hz,_⟩:=DataW.trod_string he h1
   have hci:cs[i]?=some (.string s):=by
    have:=congrArg (·[0]?) hc
    simpa[List.getElem?_take,List.getElem?_drop] using this
   have h2:(xs.map (·.1))[i]?=some y.1:=by simp[hy]
   rw[hxs,hz]at h2
   simp only[List.getElem?_map,Option.map_eq_some_iff,DataW.lit.injEq,Lit.string.injEq]at h2
   obtain⟨z,hzi,hzs⟩:=h2
   rw[hci]
   simp only[strs,List.getElem?_map,hzi,oMS,Option.some.injEq]
   obtain⟨⟨sd⟩⟩:=s
   simp only at hzs
   rw[hzs]
 ·rw[List.getElem?_eq_none (by omega),List.getElem?_eq_none (by simp[strs];omega)]
theorem words_of_laid {W:World}(h:laidMetH Tryz.prog laid3 W):jE W.heap:=by
 rw[MakeChecks.laidMetH_plain _ _ _ (by kernel_rfl)]at h
 have h2:=laidMet.tail (laidMet.tail (laidMet.tail (laidMet.tail (laidMet.tail h))))
 obtain⟨ps,⟨g',t',cs,fuel,p,q,hg',ht',hvar,hd,_,_⟩,_⟩:=h2
 obtain rfl:=Option.some.inj (gWords.symm.trans hg');obtain rfl:=Option.some.inj (tWords.symm.trans ht');have e:Rows.laid_cleanse_parser_words (H:=Unit)=.agg (eM.map fun z=>.lit (.string z)):=by rfl
 rw[e]at hd
 have hc:=zZ Tryz.underlying115 Tryz.underlying9 cStr cWords hd;intro i hi
 have:=World.var?_cell gWords hvar i
 rw[fK]at this
 rw[this,← hc]
 simp
def formsL:List (List UInt8×Int):=[([],0),([],0),([115,101,108,101,99,116],1),([112,114,111,106,101,99,116],1),([106,111,105,110],2),([117,110,105,111,110],2),([109,105,110,117,115],2),([114,101,110,97,109,101],1),([103,114,111,117,112],1)]
def formFs (fs:Array Field)(s i:TypeId):Prop:=∃ a b:Field,fs[0]?=some a∧fs[1]?=some b∧fs.size=2∧a.type=s∧a.offset=0∧b.type=i∧b.offset=1
theorem yQ:∀(zs:List (List UInt8×Int))(cs:List Value),cs.length=zs.length*2→(∀(i:Nat)(z:List UInt8×Int),zs[i]?=some z→(cs.drop (i*2)).take 2=[.string ⟨⟨z.1⟩⟩,.int .i64 z.2])→cs=zs.flatMap fun z=>[.string ⟨⟨z.1⟩⟩,.int .i64 z.2]
 | [],cs,h,_=>by
  rw[List.length_nil,Nat.zero_mul]at h
  exact List.length_eq_zero_iff.1 h
 | z::zs,cs,h,e=>by
  rw[List.length_cons]at h
  match cs,h with
  | c0::c1::cs',h =>
   have e0:=e 0 z rfl
   simp at e0
   have:=yQ zs cs' (by simp only[List.length_cons]at h;omega) (fun i y hy=>by
    have:=e (i+1) y (by simpa using hy)
    rw[show(i+1)*2=i*2+2 by omega]at this
    simpa using this)
   rw[List.flatMap_cons,e0.1,e0.2,← this]
   rfl
  | [c0],h=>simp at h;omega
  | [],h=>simp at h
theorem zG {H:Type}{enc:TypeId×Value→H}{P:Program}{w:World}{base:Nat}{sp:Nat→Bool}{held:Bool}{fuel:Nat}{t e ts ti:TypeId}{n:Nat}{fs:Array Field}{cs:List Value}{zs:List (List UInt8×Int)}{p:List MemPlace}
  (ht:P.underlying t=some (.array n e)) (he:P.underlying e=some (.struct fs)) (hfs:formFs fs ts ti) (hs:P.underlying ts=some .string) (hi:P.underlying ti=some (.int .i64)) (hcs:P.cellsOf ts=1) (hci:P.cellsOf ti=1) (hce:P.cellsOf e=2) (hct:P.cellsOf t=n*2)
  (h:DataW.trod enc P w base sp held fuel t cs=some (.agg (zs.map fun z=>.agg [.lit (.string z.1),.lit (.int .i64 z.2)]),p)):cs=zs.flatMap fun z=>[.string ⟨⟨z.1⟩⟩,.int .i64 z.2]:=by
 obtain⟨a,b,ha,hb,hsz,a1,a2,b1,b2⟩:=hfs
 obtain⟨xs,m,_,hx,hl,hxl,hel⟩:=DataW.trod_array ht h
 have hxs:xs.map (·.1)=zs.map fun z=>(DataW.agg [.lit (.string z.1),.lit (.int .i64 z.2)]:DataW H):=by
  have:=congrArg Prod.fst hx
  simpa using this.symm
 have hzl:zs.length=n:=by
  have:=congrArg List.length hxs
  simp at this
  omega
 rw[hct]at hl
 have each:∀(i:Nat) (z:List UInt8×Int),zs[i]?=some z→(cs.drop (i*2)).take 2=[.string ⟨⟨z.1⟩⟩,.int .i64 z.2]:=by
  intro i z hz;have hin:i<n:=by have:=(List.getElem?_eq_some_iff.1 hz).1;omega
  have h1:=hel i hin
  rw[hce]at h1
  obtain⟨y,hy⟩:=getx (l:=xs) (i:=i) (by omega)
  rw[hy]at h1
  have h2:(xs.map (·.1))[i]?=some y.1:=by simp[hy]
  rw[hxs,List.getElem?_map,hz]at h2
  have h2:y.1=.agg [.lit (.string z.1),.lit (.int .i64 z.2)]:=(Option.some.inj h2).symm
  obtain⟨ws,k,_,hw,hlw,hws,hf⟩:=DataW.trod_struct he h1
  have hw1:ws.map (·.1)=[.lit (.string z.1),.lit (.int .i64 z.2)]:=by
   have:=congrArg Prod.fst hw
   rw[h2]at this
   simpa using this.symm
  have f0:=hf 0 a ha;have f1:=hf 1 b hb
  rw[a1,a2,hcs]at f0
  rw[b1,b2,hci]at f1
  rw[hce]at hlw
  obtain⟨u,v,rfl⟩:∃ u v,ws=[u,v]:=by
   match ws,hws.trans hsz with
   | [u,v],_=>exact⟨u,v,rfl⟩
  simp only[List.map_cons,List.map_nil,List.cons.injEq,and_true]at hw1
  obtain⟨⟨⟨s0⟩⟩,c0,x0,_⟩:=DataW.trod_string hs f0
  obtain⟨n0,c1,x1,_⟩:=DataW.trod_int hi f1
  have e0:s0=z.1:=by
   have q:=hw1.1
   rw[show u.1=.lit (.string s0) from congrArg Prod.fst x0]at q
   simpa using q
  have e1:n0=z.2:=by
   have q:=hw1.2
   rw[show v.1=.lit (.int .i64 n0) from congrArg Prod.fst x1]at q
   simpa using q
  subst e0;subst e1;generalize (cs.drop (i*2)).take 2=l at hlw c0 c1
  match l,hlw with
  | [g0,g1],_ =>
   simp at c0 c1
   rw[c0,c1]
 exact yQ zs cs (by omega) each
theorem forms_of_laid {W:World}(h:laidMetH Tryz.prog laid3 W):fW W.heap:=by
 rw[MakeChecks.laidMetH_plain _ _ _ (by kernel_rfl)]at h
 have h2:=laidMet.tail (laidMet.tail (laidMet.tail (laidMet.tail (laidMet.tail (laidMet.tail h)))))
 obtain⟨ps,⟨g',t',cs,fuel,p,q,hg',ht',hvar,hd,_,_⟩,_⟩:=h2
 obtain rfl:=Option.some.inj (gForms.symm.trans hg');obtain rfl:=Option.some.inj (tForms.symm.trans ht');have e:Rows.laid_cleanse_printer_forms (H:=Unit)=.agg (formsL.map fun z=>.agg [.lit (.string z.1),.lit (.int .i64 z.2)]):=by rfl
 rw[e]at hd
 have hc:=zG Tryz.underlying195 Tryz.underlying194 ⟨_,_,rfl,rfl,rfl,rfl,rfl,rfl,rfl⟩ Tryz.underlying9 Tryz.underlying3 cStr cInt cForm cForms hd;intro i hi
 have:=World.var?_cell gForms hvar i
 rw[fK]at this
 rw[this,← (show cs.toList=aBm from hc)]
 simp
theorem door_met (os:Os)(args:Array Value):laidMetH Tryz.prog laid3 ((World.doorLaid Tryz.prog 400 os).forCall (fun _ _=>0) ⟨#[],args,[]⟩).memory :=
 laidMetH_of_parts3 (fuel:=8) (laidMet_of_run' 8 (by kernel_rfl) (by kernel_rfl)) (by kernel_rfl) (by kernel_rfl)
end Go.Proofs.YtohlogbnpfofpaaGreatDoor
