/- Part 8 of the proof of inverse: FnWc, FnWd, FnWe, FnWf, FnQb, FnQc, FnQd, FnQe, FnQf, FnQg, FnXa, FnRepS, FnRepO, FnRepB, FnRepN. -/
import Derived.Test.YtohlogbnpfofpaaGreatDoorPV07
set_option linter.all false
set_option maxHeartbeats 100000000
set_option maxRecDepth 100000
namespace Go.Proofs.YtohlogbnpfofpaaGreatDoor
open Go StillVC
def jO (h:Heap):Prop:=∀ w:World,w.heap=h→Lib.TabIs Tryz.prog w "internal/strconv.uint64pow10" .u64 Lib.pow10Tab
theorem jO.ext {h h':Heap}(t:jO h)(e:Ext h h'):jO h':=by
 intro w hw
 have:=t { w with heap:=h } rfl
 unfold Lib.TabIs World.var? at this ⊢;cases hg:Tryz.prog.globalNamed "internal/strconv.uint64pow10" with
 | none=>rw[hg]at this;simp at this
 | some g =>
  rw[hg]at this
  simp only[Option.bind_some]at this ⊢
  rw[hw]
  by_cases hb:g<h.size
  ·rw[e.old g hb];exact this
  ·have hn:h[g]?=none:=Array.getElem?_eq_none (by omega)
   rw[hn]at this;simp at this
theorem itoa_spec (n:Int)(h:Heap)(h0:-9223372036854775808≤n)(h1:n≤9223372036854775807)(ht:jO h) :
  bZ Tryz.prog 150 [.int .i64 n] h fun r h'=>r=.string ⟨⟨Lib.itoa n⟩⟩∧Own h [] h':=by
 refine⟨⟨_,Tryz.func150,rfl,by kernel_rfl⟩,fun w hw=>?_⟩
 refine(Tryz.strconv_Itoa n h0 h1 w (ht w hw)).mono ?_
 rintro e w' ⟨rfl,k,os,rfl⟩
 refine⟨⟨rfl,rfl,rfl,by simp[Sort.grow,World.drewN]⟩,rfl,Own.of_ext ⟨?_,fun b hb=>?_⟩⟩
 ·subst hw
  simp[Sort.grow,World.drewN]
 ·subst hw
  simp[Sort.grow,World.drewN,Array.getElem?_append,hb]
theorem bK (n:Int)(h:Heap)(h0:-9223372036854775808≤n)(h1:n≤9223372036854775807)(hT:jO h):Spec Tryz.prog 125 [.int .i64 n] h (MEnds h (nZ n) (.string ⟨⟨Lib.itoa n⟩⟩)):=by
 refine aCV Tryz.func125 rfl Tryz.ntmps125 (by kernel_rfl) ?_;have o0:=Own.refl h;by_cases hn:0≤n
 ·by_cases hg:n≤9999999999
  ·have hok:nZ n=true:=decide_eq_true ⟨hn,hg⟩
   refine aCP (fun c10=>?_) (fun hc=>absurd (by omega) hc);refine aC2 (aE _ _) (fun e1 h2 o2=>?_) fun e1 h2 o2=>?_
   ·skip
    refine aCT (itoa_spec n _ h0 h1 (hT.ext o2.ext)) ?_;rintro _ h3 ⟨rfl,o3⟩;have o4:=o2.ext' o3;refine aCX rfl ?_
    exact⟨hok,rfl,o4⟩
   ·have:=of_decide_eq_false e1
    omega
  ·have hno:nZ n=false:=decide_eq_false (by omega)
   refine aCP (fun c40=>?_) (fun hc=>absurd (by omega) hc);refine aC2 (aE _ _) (fun e1 h2 o2=>?_) fun e1 h2 o2=>?_
   ·have:=of_decide_eq_true e1
    omega
   ·exact⟨hno,rfl,o2⟩
 ·have hno:nZ n=false:=decide_eq_false (by omega)
  refine aCP (fun hc=>absurd hc (by omega)) (fun c60=>?_);refine aC2 (aE _ _) (fun e1 h2 o2=>by cases e1) fun e1 h2 o2=>?_
  exact⟨hno,rfl,o2⟩
theorem dO (n:Int)(ws:List aBs)(vs:Value)(h:Heap)(h0:-9223372036854775808≤n)(h1:n≤9223372036854775807)(hA:Arr h vs (strs ws))(hl:ws.length≤100)(hw:∀ s∈ws,s.length≤100):Spec Tryz.prog 32 [.int .i64 n,vs] h (MEnds h (decide (1≤n∧n≤ws.length)) (.string ⟨⟨32::ws.getD (n - 1).toNat []⟩⟩)):=by
 refine aCV Tryz.func32 rfl Tryz.ntmps32 (by kernel_rfl) ?_;have o0:=Own.refl h;have hsl:(strs ws).length=ws.length:=by simp[strs]
 by_cases hn:1≤n
 ·refine aCP (fun c10=>?_) (fun hc=>absurd (by omega) hc)
  refine rR (aCC hA ‹_› aK ?_);refine aC2 (aE _ _) (fun e1 h2 o2=>?_) fun e1 h2 o2=>?_
  ·have e1:=of_decide_eq_true e1
   obtain⟨s,hs⟩:=getx (show(n - 1).toNat<ws.length by omega)
   have hss:(strs ws)[(n - 1).toNat]?=some (.string ⟨⟨s⟩⟩):=by
    show(ws.map _)[(n - 1).toNat]?=_
    rw[aDH,hs]
    rfl
   have hsl2:=hw s (aC7 hs);have hA2:=hA.ext o2.ext;have hd:ws.getD (n - 1).toNat []=s:=by rw[aDw,hs];rfl
   rw[hd]
   refine aCW (by omega) (by omega) ?_;refine rR (idx aK aL hA2 rfl (by omega) (by omega) ?_);refine rR (aCE hA2 aL rfl (by first|assumption|rfl) ?_);refine rR (aCm rfl rfl (by first|omega|(simp;omega)) ?_);refine aCX rfl ?_
   exact⟨decide_eq_true (by omega),rfl,o2⟩
  ·have e1:=of_decide_eq_false e1
   exact⟨decide_eq_false (by omega),rfl,o2⟩
 ·refine aCP (fun hc=>absurd hc (by omega)) (fun c60=>?_)
  refine aC2 (aE _ _) (fun e1 h2 o2=>by cases e1) fun e1 h2 o2=>?_
  exact⟨decide_eq_false (by omega),rfl,o2⟩
theorem put_spec (B:Base)(b:Nat)(p v:Value)(k:Int)(bs:aBs)(ls:List aBs)(vs:Value)(h:Heap)(hp:cO b p)(hS:rU B vs ls)
  (o:Own B [box b [p,v,.int .i64 k] 58,row v 5 1 bs.length (bytes bs)] h) (hl:bs.length≤100000000000000) (hs:∀ s∈ls,s.length≤1000) (hln:ls.length≤100) (hk:0≤k∧k≤100000000000000) :
  bZ Tryz.prog 31 [.pointer (some ⟨b,0,none⟩),vs] h fun r h'=>r=.tuple #[]∧∃ p' v',cO b p'∧Own B [box b [p',v',.int .i64 (k+ls.length)] 58,row v' 5 1 (bs++ls.flatten).length (bytes (bs++ls.flatten))] h':=by
 refine aCV Tryz.func31 rfl Tryz.ntmps31 (by kernel_rfl) ?_;have hA:=hS _ _ o;have hsl:(strs ls).length=ls.length:=by simp[strs]
 have hK:=hS;clear hS;refine rR (aCC hA ‹_› aK ?_);refine aCZ [5,8,9,10,11,12,13,14,15,16,17,18,19,20,21,22,23,24] [8] (fun vs' hh=>∃(i:Nat) (p' v':Value),i≤ls.length∧vs'=[.int .i64 i]∧cO b p'∧(ls.take i).flatten.length≤1000*i∧Own B [box b [p',v',.int .i64 (k+i)] 58,row v' 5 1 (bs++(ls.take i).flatten).length (bytes (bs++(ls.take i).flatten))] hh) (fun vs' _=>match vs' with|[.int _ i]=>ls.length - i.toNat|_=>0) ?_ ?_
 ·exact⟨0,p,v,by omega,rfl,hp,by simp,by simpa using o⟩
 ·rintro vs' junk hh ⟨i,p',v',hi,rfl,hp',hcl,oh⟩
  have hA:=hK _ _ oh;by_cases hlt:i<ls.length
  ·obtain⟨s,hs1⟩:=getx hlt
   have hss:(strs ls)[i]?=some (.string ⟨⟨s⟩⟩):=by simp[strs,hs1]
   have hs2:=hs s (aC7 hs1);have ht:(ls.take (i+1)).flatten=(ls.take i).flatten++s:=by rw[aDN,hs1];simp
   have hbl:(bs++(ls.take i).flatten).length+s.length≤140000000000000:=by rw[aDa];omega
   refine aCP (fun c20=>?_) (fun hc=>absurd (by omega) hc);refine rR (idx aK aL hA rfl (by omega) (by omega) ?_);refine rR (aCE hA aL rfl (by first|assumption|rfl) ?_);refine rR (nC rfl ?_);refine rR (fA yV rfl rfl rfl ?_);refine aCT (aBL b p' v' (k+i) (bs++(ls.take i).flatten) s _ B hp' oh hbl) ?_;rintro _ h2 ⟨rfl,v2,o2⟩;clear oh hA;have o3:Own B [box b [.pointer (some ⟨b,0,none⟩),v2,.int .i64 (k+i)] 58,row v2 5 1 (bs++(ls.take i).flatten++s).length (bytes (bs++(ls.take i).flatten++s))] h2:=o2;clear o2;refine rR (nC rfl ?_);refine rR (fA yV rfl rfl rfl ?_);refine rR (aCc o3 0 rfl aT rfl rfl ?_);refine aCW (by omega) (by omega) ?_;refine rR (nC rfl ?_);refine rR (fA yV rfl rfl rfl ?_);(refine aCL o3 0 rfl aT rfl (by simp) (aI ⟨rfl,rfl⟩ ?_);intro m35 o35);refine aCW (by omega) (by omega) ?_
   refine⟨rfl,?_⟩
   refine⟨⟨i+1,_,v2,by omega,rfl,.inr rfl,by rw[ht,aDa];omega,?_⟩,by simp;omega⟩
   rw[ht,← aC9,show k+((i+1:Nat):Int)=k+i+1 by omega]
   exact o35
  ·have hd:ls.take i=ls:=aDm (by omega)
   obtain rfl:i=ls.length:=by omega
   refine aCP (fun hc=>absurd hc (by omega)) (fun c60=>?_);refine aCY rfl ?_
   rw[hd]at oh
   exact⟨rfl,p',v',hp',oh⟩
def WEnds (B:Base)(b:Nat)(bs:aBs)(k:Int)(c:Nat)(o:Option (List Pc)):Ending→Heap→Prop :=
 Ends (fun r h'=>∃ ps p' v',o=some ps∧r=.tuple #[]∧cO b p'∧(bG ps).length≤c∧ps.length≤c∧Own B [box b [p',v',.int .i64 (k+ps.length)] 58,row v' 5 1 (bs++bG ps).length (bytes (bs++bG ps))] h')
  fun q h'=>o=none∧q=wG∧Own B [] h'
theorem keep1 {B:Base}{c:Nat}{t:TypeId}{ss:List aBs}:rU ⟨B.h,[box c (strs ss) t]++B.T⟩ (.slice (some ⟨c,0,none⟩) ss.length ss.length) ss:=fun L h o=>by
 have hs:(box c (strs ss) t).sat h:=OwnR.sat o _ (by simp)
 exact(wF (sz:=1) (by simp[strs]) (aDg _) h hs).to1
theorem yA (B:Base)(b c:Nat)(p v:Value)(k:Int)(bs:aBs)(ls:List aBs)(h:Heap)(hp:cO b p)(o:Own B [box b [p,v,.int .i64 k] 58,row v 5 1 bs.length (bytes bs),box c (strs ls) 9] h)
  (hl:bs.length≤100000000000000) (hs:∀ s∈ls,s.length≤1000) (hln:ls.length≤100) (hk:0≤k∧k≤100000000000000) :
  bZ Tryz.prog 31 [.pointer (some ⟨b,0,none⟩),.slice (some ⟨c,0,none⟩) ls.length ls.length] h fun r h'=>r=.tuple #[]∧∃ p' v',cO b p'∧Own B [box b [p',v',.int .i64 (k+ls.length)] 58,row v' 5 1 (bs++ls.flatten).length (bytes (bs++ls.flatten))] h':=by
 have o2:=o.lend [0,1] [2] rfl;have sp:=put_spec _ b p v k bs ls _ h hp keep1 o2 hl hs hln hk;refine sp.mono ?_;rintro r h' ⟨e,p',v',h1,h2⟩
 exact⟨e,p',v',h1,h2.back.sel [0,1] rfl⟩
theorem iH:∀(a b:List (Option (List Pc))),aJ (a++b)=match aJ a,aJ b with
  | some p,some q=>some (p++q)
  | _,_=>none
 | [],b=>by show aJ b=_;cases h:aJ b<;>simp[aJ]
 | none::a,b=>rfl
 | some p::a,b=>by
  show(aJ (a++b)).map (p++·)=_
  rw[iH a b]
  show _=match (aJ a).map (p++·),aJ b with
   | some p,some q=>some (p++q)
   | _,_=>none
  cases aJ a<;>cases aJ b<;>simp
theorem listQ_snoc {α:Type}{one:aBs→α→Option (List Pc)}{b:aBs}{l:List α}{x:α}{p:List Pc}(hn:l≠[])(hp:hH one b l=some p):hH one b (l++[x])=(one [32] x).map fun q=>p++aO [] [44]::q:=by
 cases l with
 | nil=>exact absurd rfl hn
 | cons y r =>
  have e:hH one b (y::r++[x])=aJ ((one b y::r.map fun y=>(one [32] y).map (aO [] [44]::·))++[(one [32] x).map (aO [] [44]::·)]):=by
   show aJ (_::(r++[x]).map _)=_
   rw[List.map_append]
   rfl
  rw[e,iH]
  rw[show aJ (one b y::r.map fun y=>(one [32] y).map (aO [] [44]::·))=some p from hp]
  cases one [32] x<;>simp[aJ]
theorem zW {α:Type}{one:aBs→α→Option (List Pc)}{b:aBs}{l m:List α}(hp:hH one b l=none):hH one b (l++m)=none:=by
 cases l with
 | nil=>cases hp
 | cons y r =>
  have e:hH one b (y::r++m)=aJ ((one b y::r.map fun y=>(one [32] y).map (aO [] [44]::·))++m.map fun y=>(one [32] y).map (aO [] [44]::·)):=by
   show aJ (_::(r++m).map _)=_
   rw[List.map_append]
   rfl
  rw[e,iH]
  rw[show aJ (one b y::r.map fun y=>(one [32] y).map (aO [] [44]::·))=none from hp]
theorem mO (B:Base)(b:Nat)(p v:Value)(k:Int)(bs bf:aBs)(ls:List aBs)(vs:Value)(h:Heap)(hp:cO b p)(hS:rU B vs ls)
  (o:Own B [box b [p,v,.int .i64 k] 58,row v 5 1 bs.length (bytes bs)] h) (hl:bs.length≤50000000000000) (hs:∀ s∈ls,s.length≤1000000000000000) (hln:ls.length≤100000000000) (hk:0≤k∧k≤50000000000000) (hbf:bf=[]∨bf=[32]) :
  Spec Tryz.prog 149 [.pointer (some ⟨b,0,none⟩),.string ⟨⟨bf⟩⟩,vs] h (WEnds B b bs k (100*ls.length) (hH aZ bf ls)):=by
 refine aCV Tryz.func149 rfl Tryz.ntmps149 (by kernel_rfl) ?_;have hA:=hS _ _ o;have hsl:(strs ls).length=ls.length:=by simp[strs]
 have hK:=hS;clear hS;refine rR (aCC hA ‹_› aK ?_);refine aCZ [1,6,7,10,11,12,13,14,15,16,17,18,19,20,21,22,23,24,25,26,27,28,29,30,31] [1,10] (fun vs' hh=>∃(i:Nat) (p' v':Value) (be:aBs) (ps:List Pc),i≤ls.length∧vs'=[.string ⟨⟨be⟩⟩,.int .i64 i]∧(i=0→be=bf)∧be.length≤1∧cO b p'∧hH aZ bf (ls.take i)=some ps∧(bG ps).length≤100*i∧ps.length≤2*i∧Own B [box b [p',v',.int .i64 (k+ps.length)] 58,row v' 5 1 (bs++bG ps).length (bytes (bs++bG ps))] hh) (fun vs' _=>match vs' with|[_,.int _ i]=>ls.length - i.toNat|_=>0) ?_ ?_
 ·exact⟨0,p,v,bf,[],by omega,rfl,fun _=>rfl,by rcases hbf with rfl|rfl<;>simp,hp,rfl,by simp[bG],by simp,by simpa[bG] using o⟩
 ·rintro vs' junk hh ⟨i,p',v',be,ps,hi,rfl,hbe,hbl,hp',hQ,hc1,hc2,oh⟩
  have hA:=hK _ _ oh;by_cases hlt:i<ls.length
  ·obtain⟨s,hs1⟩:=getx hlt
   have hss:(strs ls)[i]?=some (.string ⟨⟨s⟩⟩):=by simp[strs,hs1]
   have hs2:=hs s (aC7 hs1);have ht:ls.take (i+1)=ls.take i++[s]:=by rw[aDN,hs1];simp
   by_cases h0:i=0
   ·have e0:=hbe h0
    subst h0;subst be;have hps:ps=[]:=by cases hQ;rfl
    subst hps;have hnx:∀ o,aZ bf s=o→hH aZ bf (ls.take (0+1))=o:=fun o e=>by
     rw[ht,← e]
     show aJ [aZ bf s]=_
     cases aZ bf s<;>simp[aJ]
    refine aCP (fun c20=>?_) (fun hc=>absurd (by omega) hc);refine rR (idx aK aL hA rfl (by omega) (by omega) ?_);refine rR (aCE hA aL rfl (by first|assumption|rfl) ?_);refine aCR ?_;refine aCS [0,1,2,3,4,6] [] [5,7,8] [0,1,2,3,4,5,6,7,8] mixed (by kernel_rfl) rfl (fun _ _ _ _ h=>h) ?_;refine nC rfl ?_;refine fA bO rfl rfl rfl ?_;refine aC2 (bJ s _ (by omega)) (fun e1 h2 o2=>?_) fun e1 h2 o2=>?_
    ·have o3:=oh.ext' o2
     clear o2;have h24:=((iK s).1 e1).2.1;have hq:aZ bf s=some [aD bf s]:=by unfold aZ;rw[if_pos e1]
     refine aCm rfl rfl (by first|omega|(simp;omega)) ?_;(refine aCM o3 aK aL rfl rfl (by decide) (aI rfl ?_);intro b31 m31 o31);refine aCT (yA B b b31 p' v' (k+([]:List Pc).length) (bs++bG []) [bf++s] _ hp' o31 (by rw[aDa];omega) (by simp;omega) (by simp) (by simp;omega)) ?_;rintro _ h4 ⟨rfl,p4,v4,hp4,o4⟩;clear o31 o3 oh hA;refine aCW (by omega) (by omega) ?_
     refine⟨rfl,?_⟩
     have e4:bG [aD bf s]=bf++s:=by simp[bG,fL,wr,aD]
     refine⟨⟨0+1,p4,v4,bf,[aD bf s],by omega,rfl,(fun e=>by omega),hbl,hp4,hnx _ hq,by rw[e4,aDa];omega,by simp,?_⟩,by simp;omega⟩
     rw[e4]
     simpa[bG] using o4
    ·have hq:aZ bf s=none:=by unfold aZ;rw[if_neg (by rw[e1];decide)]
     have:=zW (m:=ls.drop (0+1)) (hnx _ hq)
     rw[aDJ]at this
     exact⟨this,rfl,(oh.ext' o2).sel [] rfl⟩
   ·have hnx:∀ q,aZ [32] s=q→hH aZ bf (ls.take (i+1))=q.map fun q=>ps++aO [] [44]::q:=fun q e=>by
     rw[ht,listQ_snoc (by intro e;have:=congrArg List.length e;rw[aDE,aDn]at this;omega) hQ,e]
    refine aCP (fun c40=>?_) (fun hc=>absurd (by omega) hc);refine rR (idx aK aL hA rfl (by omega) (by omega) ?_);refine rR (aCE hA aL rfl (by first|assumption|rfl) ?_);refine aCP (fun c43=>?_) (fun hc=>absurd (by omega) hc);refine rR (nC rfl ?_);refine rR (fA bO rfl rfl rfl ?_);(refine aCM oh aK aL rfl rfl (by decide) (aI rfl ?_);intro b46 m46 o46);refine aCT (yA B b b46 p' v' (k+ps.length) (bs++bG ps) [[44]] _ hp' o46 (by rw[aDa];omega) (by simp) (by simp) (by omega)) ?_;rintro _ h4 ⟨rfl,p4,v4,hp4,o4⟩;clear o46 oh hA;have hA:=hK _ _ o4;refine aCS [0,1,2,3,4,6] [] [5,7,8] [0,1,2,3,4,5,6,7,8] mixed (by kernel_rfl) rfl (fun _ _ _ _ h=>h) ?_;refine nC rfl ?_;refine fA bO rfl rfl rfl ?_;refine aC2 (bJ s _ (by omega)) (fun e1 h2 o2=>?_) fun e1 h2 o2=>?_
    ·have o5:=o4.ext' o2
     clear o2 o4;have h24:=((iK s).1 e1).2.1;have hq:aZ [32] s=some [aD [32] s]:=by unfold aZ;rw[if_pos e1]
     refine aCm rfl rfl (by first|omega|(simp;omega)) ?_;(refine aCM o5 aK aL rfl rfl (by decide) (aI rfl ?_);intro b71 m71 o71);refine aCT (yA B b b71 p4 v4 (k+ps.length+([[44]]:List aBs).length) (bs++bG ps++([[44]]:List aBs).flatten) [[32]++s] _ hp4 o71 (by simp only[aDa];simp;omega) (by simp;omega) (by simp) (by simp;omega)) ?_;rintro _ h6 ⟨rfl,p6,v6,hp6,o6⟩;clear o71 o5 hA;refine aCW (by omega) (by omega) ?_
     refine⟨rfl,?_⟩
     have e4:bG (ps++aO [] [44]::[aD [32] s])=bG ps++[44]++([32]++s):=by simp[bG,fL,wr,aD,aO]
     have e5:((ps++aO [] [44]::[aD [32] s]).length:Int)=ps.length+1+1:=by simp;omega
     refine⟨⟨i+1,p6,v6,[32],ps++aO [] [44]::[aD [32] s],by omega,rfl,(fun e=>by omega),by simp,hp6,hnx _ hq,by rw[e4];simp;omega,by simp;omega,?_⟩,by simp;omega⟩
     rw[e4,e5]
     simpa[Int.add_assoc] using o6
    ·have hq:aZ [32] s=none:=by unfold aZ;rw[if_neg (by rw[e1];decide)]
     have:=zW (m:=ls.drop (i+1)) (hnx _ hq)
     rw[aDJ]at this
     exact⟨this,rfl,(o4.ext' o2).sel [] rfl⟩
  ·have hd:ls.take i=ls:=aDm (by omega)
   obtain rfl:i=ls.length:=by omega
   rw[hd]at hQ
   refine aCP (fun hc=>absurd hc (by omega)) (fun c60=>?_);refine aCY rfl ?_
   exact⟨ps,p',v',hQ,rfl,hp',hc1,by omega,oh⟩
theorem WEnds.call {g:FuncId}{args s:aVs}{B:Base}{b:Nat}{bs:aBs}{k:Int}{c:Nat}{o:Option (List Pc)}{h:Heap}{K:KK}{Q:QQ}(sp:Spec Tryz.prog g args h (WEnds B b bs k c o))
  (hret:∀ ps p' v' h',o=some ps→cO b p'→(bG ps).length≤c→ps.length≤c→Own B [box b [p',v',.int .i64 (k+ps.length)] 58,row v' 5 1 (bs++bG ps).length (bytes (bs++bG ps))] h'→K (.tuple #[]) false h')
  (hpan:∀ h',o=none→Own B [] h'→Q (.panic wG) s h'):CallVC Tryz.prog g args s h K Q :=
 aCU sp (fun _ _ ⟨ps,p',v',h1,h2,h3,h4,h5,h6⟩=>by subst h2;exact hret ps p' v' _ h1 h3 h4 h5 h6) (fun _ _ ⟨h1,h2,h3⟩=>by subst h2;exact hpan _ h1 h3)
theorem qU (B:Base)(b:Nat)(p v:Value)(k:Int)(bs bf:aBs)(ls:List aBs)(vs:Value)(h:Heap)(hp:cO b p)(hS:rU B vs ls)
  (o:Own B [box b [p,v,.int .i64 k] 58,row v 5 1 bs.length (bytes bs)] h) (hl:bs.length≤50000000000000) (hs:∀ s∈ls,s.length≤1000000000000000) (hln:ls.length≤100000000000) (hk:0≤k∧k≤50000000000000) (hbf:bf=[]∨bf=[32]) :
  Spec Tryz.prog 124 [.pointer (some ⟨b,0,none⟩),.string ⟨⟨bf⟩⟩,vs] h (WEnds B b bs k (100*ls.length) (dJ aZ bf ls)):=by
 refine aCV Tryz.func124 rfl Tryz.ntmps124 (by kernel_rfl) ?_;have hA:=hS _ _ o;have hsl:(strs ls).length=ls.length:=by simp[strs]
 cases ls with
 | nil =>
  refine rR (aCC hA ‹_› aK ?_);refine aC2 (aE _ _) (fun e1 h2 o2=>by cases e1) fun e1 h2 o2=>?_
  exact⟨rfl,rfl,(o.ext' o2).sel [] rfl⟩
 | cons x xs =>
  refine rR (aCC hA ‹_› aK ?_);refine aC2 (aE _ _) (fun e1 h2 o2=>?_) fun e1 h2 o2=>?_
  ·have o3:=o.ext' o2
   refine WEnds.call (mO B b p v k bs bf (x::xs) vs _ hp hS o3 hl hs hln hk hbf) (fun ps p' v' h4 h5 h6 h7 h8 o4=>?_) fun h4 h5 o4=>?_
   ·refine aCY rfl ?_
    exact⟨ps,p',v',h5,rfl,h6,h7,h8,o4⟩
   ·exact⟨h5,rfl,o4⟩
  ·have:=of_decide_eq_false e1
   exact absurd this (by simp)
theorem mN (B:Base)(b:Nat)(p v:Value)(k:Int)(bs t a:aBs)(h:Heap)(hp:cO b p)
  (o:Own B [box b [p,v,.int .i64 k] 58,row v 5 1 bs.length (bytes bs)] h) (hl:bs.length≤50000000000000) (ht:t.length≤1000000000000000) (ha:a.length≤1000000000000000) (hk:0≤k∧k≤50000000000000) :
  Spec Tryz.prog 126 [.pointer (some ⟨b,0,none⟩),.string ⟨⟨t⟩⟩,.string ⟨⟨a⟩⟩] h (WEnds B b bs k 100 (dW t a)):=by
 refine aCV Tryz.func126 rfl Tryz.ntmps126 (by kernel_rfl) ?_;refine aCS [0,1,2,3,5,6] [] [4,7,8,9] [0,1,2,3,6,4,5,7,8,9] mixed (by kernel_rfl) rfl (fun _ _ _ _ h=>h) ?_;refine nC rfl ?_;refine fA bO rfl rfl rfl ?_;refine aC2 (bJ t _ ht) (fun e1 h2 o2=>?_) fun e1 h2 o2=>?_
 ·have o3:=o.ext' o2
  have h24:=((iK t).1 e1).2.1;have hq1:aZ [32] t=some [aD [32] t]:=by unfold aZ;rw[if_pos e1]
  clear o2;refine aCm rfl rfl (by first|omega|(simp;omega)) ?_;refine aC2 (bJ a _ ha) (fun e2 h4 o4=>?_) fun e2 h4 o4=>?_
  ·have o5:=o3.ext' o4
   clear o4 o3;have h25:=((iK a).1 e2).2.1;have hq2:aZ [] a=some [aD [] a]:=by unfold aZ;rw[if_pos e2]
   have hq:dW t a=some [aD [32] t,aO [] [46],aD [] a]:=by unfold dW;rw[hq1,hq2];rfl
   have e4:bG [aD [32] t,aO [] [46],aD [] a]=([[32]++t,[46],a]:List aBs).flatten:=by simp[bG,fL,wr,aD,aO]
   (refine aCM o5 aK aL rfl rfl (by decide) (aI rfl ?_);intro b50 m50 o50);refine aCT (yA B b b50 p v k bs [[32]++t,[46],a] _ hp o50 (by omega) (by simp;omega) (by simp) (by omega)) ?_;rintro _ h6 ⟨rfl,p6,v6,hp6,o6⟩;clear o50 o5;refine aCY rfl ?_
   rw[← e4]at o6
   exact⟨_,p6,v6,hq,rfl,hp6,by rw[e4];simp;omega,by simp,o6⟩
  ·have hq:aZ [] a=none:=by unfold aZ;rw[if_neg (by rw[e2];decide)]
   have:dW t a=none:=by unfold dW;rw[hq1,hq];rfl
   exact⟨this,rfl,(o3.ext' o4).sel [] rfl⟩
 ·have hq:aZ [32] t=none:=by unfold aZ;rw[if_neg (by rw[e1];decide)]
  have:dW t a=none:=by unfold dW;rw[hq];rfl
  exact⟨this,rfl,(o.ext' o2).sel [] rfl⟩
def NS (l:List aBs)(r:List Tok):Prop:=∀ s∈l,bC [s] r=false
def Rdx {α:Type}(m:PM α)(ts:List Tok)(a:α)(l:List aBs):Prop:=∀ r,NS l r→m (ts++r)=.ok (a,r)
theorem NS.sub {k l:List aBs}{r:List Tok}(h:NS l r)(hs:∀ s∈k,s∈l):NS k r:=fun s hk=>h s (hs s hk)
theorem kT (s:aBs)(t:Tok)(r:List Tok):bC [s] (t::r)=dF t s:=by simp[bC]
theorem NS.cons {l:List aBs}{t:Tok}{r:List Tok}(h:∀ s∈l,dF t s=false):NS l (t::r):=fun s hs=>by rw[kT];exact h s hs
theorem NS.nil (r:List Tok):NS [] r:=fun _ h=>by cases h
section
variable {α β : Type} {m : PM α} {f : α → PM β} {ts us : List Tok} {a : α} {b : β} {k l : List aBs}
theorem Rdx.bind (h:Rdx m ts a l)(hn:∀ r,NS k r→NS l (us++r))(g:Rdx (f a) us b k):Rdx (m >>= f) (ts++us) b k:=fun r hr=>by
 rw[aC9,aCd (h _ (hn r hr))]
 exact g r hr
theorem Rdx.then (h:Rdx m ts a [])(g:Rdx (f a) us b k):Rdx (m >>= f) (ts++us) b k:=h.bind (fun _ _=>NS.nil _) g
theorem Rdx.last {b:β}(h:Rdx m ts a l)(e:f a=pure b):Rdx (m >>= f) ts b l:=fun r hr=>by
 rw[aCd (h r hr),e]
 rfl
end
theorem aG {x:Option (List Pc)}{r:List (Option (List Pc))}{ps:List Pc}(h:aJ (x::r)=some ps):∃ a b,x=some a∧aJ r=some b∧ps=a++b:=by
 cases x with
 | none=>cases h
 | some a =>
  obtain⟨b,hb,rfl⟩:=aDi.1 (show(aJ r).map (a++·)=some ps from h)
  exact⟨a,b,rfl,hb,rfl⟩
theorem dG {ps:List Pc}(h:aJ []=some ps):ps=[]:=by cases h;rfl
theorem bE (a b:List Pc):aX (a++b)=aX a++aX b:=by simp[aX]
theorem fQ {b s:aBs}{ps:List Pc}(h:aZ b s=some ps):eW s=true∧ps=[aD b s]:=by
 unfold aZ at h;split at h
 ·cases h;exact⟨by assumption,rfl⟩
 ·cases h
theorem vM {b:aBs}{n:Int}{ps:List Pc}(h:iD b n=some ps):nZ n=true∧ps=[bP b n]:=by
 unfold iD at h;split at h
 ·cases h;exact⟨by assumption,rfl⟩
 ·cases h
theorem Rdx.name (z:Nat) {b s:aBs}{ps:List Pc}(h:aZ b s=some ps):Rdx (cV z) (aX ps) s []:=by
 obtain⟨_,rfl⟩:=fQ h
 intro r _
 rfl
theorem Rdx.num (z:Nat) {b:aBs}{n:Int}{ps:List Pc}(h:iD b n=some ps):Rdx (lU z) (aX ps) n []:=by
 obtain⟨_,rfl⟩:=vM h
 intro r _
 rfl
theorem gN {s:aBs}{t:Tok}{r:List Tok}(h:dF t s=true):cM s (t::r)=.ok (true,r):=by
 rw[kR (by rw[kT];exact h)]
 rfl
theorem fF {s:aBs}{t:Tok}{r:List Tok}(h:dF t s=false):cM s (t::r)=.ok (false,t::r):=jZ (by rw[kT];exact h)
theorem need1_tk {z:Nat}{s:aBs}{t:Tok}{r:List Tok}(h:dF t s=true):need1 z s (t::r)=.ok ((),r):=by
 unfold need1
 rw[aCd (gN h)]
 rfl
theorem Rdx.need (z:Nat):∀(l:List (aBs×Tok)),(∀ p∈l,dF p.2 p.1=true)→Rdx (aW z (l.map (·.1))) (l.map (·.2)) () []
 | [],_=>fun _ _=>rfl
 | p::l,h=>fun r hr=>by
  show(need1 z p.1 >>= fun _=>aW z (l.map (·.1))) (p.2::(l.map (·.2)++r))=_
  rw[aCd (need1_tk (h p (by simp)))]
  exact Rdx.need z l (fun q hq=>h q (by simp[hq])) r hr
theorem Rdx.need1 (z:Nat) {s:aBs}{t:Tok}(h:dF t s=true):Rdx (aW z [s]) [t] () []:=Rdx.need z [(s,t)] (by simpa using h)
theorem Rdx.need2 (z:Nat) {s s':aBs}{t t':Tok}(h:dF t s=true)(h':dF t' s'=true):Rdx (aW z [s,s']) [t,t'] () []:=Rdx.need z [(s,t),(s',t')] (by simp[h,h'])
theorem rV (z:Nat):∀(ws:List aBs)(i:Int)(j:Nat)(t:Tok)(r:List Tok),ws.Nodup→ws[j]?=some t.text→(t.kind=1∨t.kind=4)→eC z ws i (t::r)=.ok (i+j,r)
 | [],_,j,_,_,_,h,_=>by simp at h
 | s::ws,i,0,t,r,_,h,hk=>by
  simp at h
  unfold eC
  rw[aCd (gN (show dF t s=true from decide_eq_true ⟨h.symm,hk⟩))]
  simp
  rfl
 | s::ws,i,j+1,t,r,hn,h,hk=>by
  have hn':=List.nodup_cons.1 hn;have hm:t.text∈ws:=aC7 (by simpa using h);unfold eC
  rw[aCd (fF (show dF t s=false from decide_eq_false fun e=>hn'.1 (e.1▸hm)))]
  have:=rV z ws (i+1) j t r hn'.2 (by simpa using h) hk
  simp only[aDe,if_false]
  rw[this]
  congr 2
  omega
theorem sT {n:Int}{ws:List aBs}{ps:List Pc}(h:gB n ws=some ps):∃ j:Nat,n=1+j∧∃ s,ws[j]?=some s∧ps=[aD [32] s]:=by
 unfold gB at h;split at h
 ·rename_i hn
  cases h
  refine⟨(n - 1).toNat,by omega,ws.getD (n - 1).toNat [],?_,rfl⟩
  rw[aDw,List.getElem?_eq_getElem (by omega)]
  rfl
 ·cases h
theorem Rdx.word (z:Nat) {n:Int}{ws:List aBs}{ps:List Pc}(hn:ws.Nodup)(h:gB n ws=some ps):Rdx (eC z ws 1) (aX ps) n []:=by
 obtain⟨j,rfl,s,hs,rfl⟩:=sT h
 exact fun r _=>rV z ws 1 j ⟨1,s,0,0⟩ r hn hs (.inl rfl)
theorem zM {n:Int}{ps:List Pc}(h:opQ n=some ps):∃ j:Nat,n=1+j∧∃ s,([[61],[33,61],[60],[60,61]]:List aBs)[j]?=some s∧ps=[aO [32] s]:=by
 unfold opQ at h;split at h
 ·rename_i hn
  cases h
  refine⟨(n - 1).toNat,by omega,_,?_,rfl⟩
  rw[aDw,List.getElem?_eq_getElem (by simp;omega)]
  rfl
 ·cases h
theorem Rdx.op (z:Nat) {n:Int}{ps:List Pc}(h:opQ n=some ps):Rdx (eC z [[61],[33,61],[60],[60,61]] 1) (aX ps) n []:=by
 obtain⟨j,rfl,s,hs,rfl⟩:=zM h
 exact fun r _=>rV z _ 1 j ⟨4,s,0,0⟩ r (by decide) hs (.inr rfl)
theorem NS.tok {l:List aBs}{c:Pc}{q:List Pc}{r:List Tok}(h:∀ s∈l,dF c.t s=false):NS l (aX (c::q)++r):=NS.cons h
theorem iJ (z:Nat)(b s:aBs)(R:List Tok):aW z [s] (aX [aD b s]++R)=.ok ((),R):=Rdx.need1 z (t:=⟨1,s,0,0⟩) (decide_eq_true ⟨rfl,.inl rfl⟩) R (NS.nil _)
theorem kC (z:Nat)(b s:aBs)(R:List Tok):aW z [s] (aX [aO b s]++R)=.ok ((),R):=Rdx.need1 z (t:=⟨4,s,0,0⟩) (decide_eq_true ⟨rfl,.inr rfl⟩) R (NS.nil _)
theorem need_ws (z:Nat)(b s b' s':aBs)(R:List Tok):aW z [s,s'] (aX [aD b s,aO b' s']++R)=.ok ((),R):=Rdx.need2 z (t:=⟨1,s,0,0⟩) (t':=⟨4,s',0,0⟩) (decide_eq_true ⟨rfl,.inl rfl⟩) (decide_eq_true ⟨rfl,.inr rfl⟩) R (NS.nil _)
theorem need_sw (z:Nat)(b s b' s':aBs)(R:List Tok):aW z [s,s'] (aX [aO b s,aD b' s']++R)=.ok ((),R):=Rdx.need2 z (t:=⟨4,s,0,0⟩) (t':=⟨1,s',0,0⟩) (decide_eq_true ⟨rfl,.inr rfl⟩) (decide_eq_true ⟨rfl,.inl rfl⟩) R (NS.nil _)
theorem aBM {s:aBs}{c:Pc}{q:List Pc}{r:List Tok}(h:dF c.t s=true):cM s (aX (c::q)++r)=.ok (true,aX q++r):=gN h
theorem take_f {s:aBs}{c:Pc}{q:List Pc}{r:List Tok}(h:dF c.t s=false):cM s (aX (c::q)++r)=.ok (false,aX (c::q)++r):=fF h
theorem zX {α:Type}{sep:aBs}{one:PM α}{l:List aBs}{c:Tok}(hc:dF c sep=true)(hcl:∀ s∈l,dF c s=false):∀(us:List (List Tok×α))(f:Nat)(acc:List α)(r:List Tok),us.length<f→(∀ p∈us,Rdx one p.1 p.2 l)→NS (sep::l) r →
  listA sep one f acc (us.flatMap (fun p=>c::p.1)++r)=.ok (acc++us.map (·.2),r)
 | [],f+1,acc,r,_,_,hr=>by
  unfold listA
  rw[aDV,lnA,aCd (jZ (hr sep (by simp)))]
  simp
  rfl
 | p::us,f+1,acc,r,hf,hu,hr=>by
  unfold listA
  rw[aDj,aC9,lcA,aCd (gN hc)]
  simp only[if_true]
  have h1:NS l (us.flatMap (fun p=>c::p.1)++r):=by
   cases us with
   | nil=>exact hr.sub fun s hs=>aDU _ hs
   | cons q us=>exact NS.cons hcl
  rw[aCd (hu p (by simp) _ h1)]
  rw[zX hc hcl us f (acc++[p.2]) r (by simp at hf;omega) (fun q hq=>hu q (by simp[hq])) hr]
  simp
 | _,0,_,_,h,_,_=>by omega
theorem aA8 {α:Type}{q:α→Option (List Pc)}{c:Pc}:∀ {l:List α}{ps:List Pc},aJ (l.map fun y=>(q y).map (c::·))=some ps→∃ us:List (List Tok×α),us.map (·.2)=l∧aX ps=us.flatMap (fun p=>c.t::p.1)∧∀ p∈us,∃ qs,q p.2=some qs∧p.1=aX qs
 | [],ps,h=>by
  obtain rfl:=dG h
  exact⟨[],rfl,rfl,by simp⟩
 | y::l,ps,h=>by
  obtain⟨a,b,ha,hb,rfl⟩:=aG h
  obtain⟨qs,hq,rfl⟩:=aDi.1 ha
  obtain⟨us,h1,h2,h3⟩:=aA8 hb
  refine⟨(aX qs,y)::us,by simp[h1],?_,?_⟩
  ·rw[bE,h2];rfl
  ·intro p hp
   rcases aDl.1 hp with rfl|hp
   ·exact⟨qs,hq,rfl⟩
   ·exact h3 p hp
theorem Rdx.listE {α:Type}{sep:aBs}{one:PM α}{l:List aBs}{c:Pc}{q:α→Option (List Pc)}{x:α}{xs:List α}{ts:List Tok}{ps:List Pc}(hc:dF c.t sep=true)(hcl:∀ s∈l,dF c.t s=false)
  (h0:Rdx one ts x l) (hq:∀(y:α) (qs:List Pc),q y=some qs→Rdx one (aX qs) y l) (h:aJ (xs.map fun y=>(q y).map (c::·))=some ps):Rdx (hO sep one) (ts++aX ps) (x::xs) (sep::l):=by
 obtain⟨us,h1,h2,h3⟩:=aA8 h
 intro r hr;have hl:NS l (aX ps++r):=by
  rw[h2]
  cases us with
  | nil=>exact hr.sub fun s hs=>aDU _ hs
  | cons p us=>exact NS.cons hcl
 unfold hO
 rw[aC9]
 refine(aCd (f:=fun a ts=>listA sep one (ts.length+1) [a] ts) (h0 _ hl)).trans ?_
 rw[h2]
 have hlen:us.length≤(us.flatMap (fun p=>c.t::p.1)).length:=by
  clear h1 h2 h3 hl hr
  induction us with
  | nil=>simp
  | cons p us ih=>simp only[aDj,aDa,aDb];omega
 have:=zX hc hcl us ((us.flatMap (fun p=>c.t::p.1)++r).length+1) [x] r (by simp only[aDa];omega) (fun p hp=>by obtain⟨qs,e1,e2⟩:=h3 p hp;rw[e2];exact hq _ _ e1) hr
 rw[h1]at this
 exact this
theorem pO {α:Type}{one:aBs→α→Option (List Pc)}{b:aBs}{x:α}{xs:List α}{ps:List Pc}(h:hH one b (x::xs)=some ps):∃ p q,one b x=some p∧aJ (xs.map fun y=>(one [32] y).map (aO [] [44]::·))=some q∧ps=p++q:=aG h
theorem Rdx.names (z:Nat) {b:aBs}{x:aBs}{xs:List aBs}{ps:List Pc}(h:hH aZ b (x::xs)=some ps):Rdx (nI z) (aX ps) (x::xs) [[44]]:=by
 obtain⟨p,q,hp,hq,rfl⟩:=pO h
 rw[bE]
 exact Rdx.listE (c:=aO [] [44]) (q:=aZ [32]) rfl (by simp) (Rdx.name z hp) (fun y qs hy=>Rdx.name z hy) hq
theorem oD {α:Type}{one:aBs→α→Option (List Pc)}{b:aBs}{l:List α}{ps:List Pc}(h:dJ one b l=some ps):∃ x xs,l=x::xs∧hH one b (x::xs)=some ps:=by
 cases l with
 | nil=>cases h
 | cons x xs=>exact⟨x,xs,rfl,h⟩
theorem name_first {s:aBs}(h:eW s=true):∃ c r,s=c::r∧cP c=true:=by
 cases s with
 | nil=>cases h
 | cons c r =>
  simp only[eW,aC8]at h
  exact⟨c,r,rfl,h.1.2⟩
theorem uF {s:aBs}(h:eW s=true) {c:UInt8}{w:aBs}(hc:cP c=false)(b:aBs):dF (aD b s).t (c::w)=false:=by
 obtain⟨d,r,rfl,hd⟩:=name_first h
 refine decide_eq_false fun e=>?_
 have:d::r=c::w:=e.1
 cases this
 rw[hc]at hd
 cases hd
theorem wM {v:Vl}{k n:Int}{t:aBs}(h1:v.k=k)(h2:v.n=n)(h3:v.t=t):v=⟨k,n,t⟩:=by cases v;simp_all
theorem oX (z:Nat) {t:Tok}{r:List Tok}(h3:t.kind≠3)(h2:t.kind≠2):dM z (t::r)=oK z (t::r):=by
 show(if t.kind=3 then _ else if t.kind=2 then _ else _)=_
 rw[if_neg h3,if_neg h2]
theorem litE_minus (z:Nat)(n:Int)(x:aBs)(r:List Tok):oK z (⟨4,[45],0,0⟩::⟨2,x,n,0⟩::r)=.ok (some ⟨2,-n,[]⟩,r):=by
 unfold oK
 rw[aCd (gN rfl)]
 rfl
theorem litE_at (z:Nat)(n:Int)(x:aBs)(r:List Tok):oK z (⟨4,[64],0,0⟩::⟨2,x,n,0⟩::r)=.ok (some ⟨3,n,[]⟩,r):=by
 unfold oK
 rw[aCd (fF (by decide))]
 simp only[aDe,if_false]
 rw[aCd (gN rfl)]
 rfl
theorem litE_true (z:Nat)(r:List Tok):oK z (⟨1,[116,114,117,101],0,0⟩::r)=.ok (some ⟨4,1,[]⟩,r):=by
 unfold oK
 rw[aCd (fF (by decide))]
 simp only[aDe,if_false]
 rw[aCd (fF (by decide))]
 simp only[aDe,if_false]
 rw[aCd (gN rfl)]
 rfl
theorem litE_false (z:Nat)(r:List Tok):oK z (⟨1,[102,97,108,115,101],0,0⟩::r)=.ok (some ⟨4,0,[]⟩,r):=by
 unfold oK
 rw[aCd (fF (by decide))]
 simp only[aDe,if_false]
 rw[aCd (fF (by decide))]
 simp only[aDe,if_false]
 rw[aCd (fF (by decide))]
 simp only[aDe,if_false]
 rw[aCd (gN rfl)]
 rfl
theorem litE_null (z:Nat)(r:List Tok):oK z (⟨1,[110,117,108,108],0,0⟩::r)=.ok (some vl0,r):=by
 unfold oK
 rw[aCd (fF (by decide))]
 simp only[aDe,if_false]
 rw[aCd (fF (by decide))]
 simp only[aDe,if_false]
 rw[aCd (fF (by decide))]
 simp only[aDe,if_false]
 rw[aCd (fF (by decide))]
 simp only[aDe,if_false]
 rw[aCd (gN rfl)]
 rfl
theorem litE_none (z:Nat) {t:Tok}{r:List Tok}(h1:dF t [45]=false)(h2:dF t [64]=false)(h3:dF t [116,114,117,101]=false)(h4:dF t [102,97,108,115,101]=false)(h5:dF t [110,117,108,108]=false):oK z (t::r)=.ok (none,t::r):=by
 unfold oK
 rw[aCd (fF h1)]
 simp only[aDe,if_false]
 rw[aCd (fF h2)]
 simp only[aDe,if_false]
 rw[aCd (fF h3)]
 simp only[aDe,if_false]
 rw[aCd (fF h4)]
 simp only[aDe,if_false]
 rw[aCd (fF h5)]
 rfl
theorem Rdx.literal (z:Nat) {v:Vl}{ps:List Pc}(h:bX v=some ps):Rdx (dM z) (aX ps) (some v) []:=by
 intro r _;unfold bX at h;split at h
 ·rename_i hk
  split at h
  ·rename_i hc
   cases h
   rw[wM hk hc.1 hc.2]
   exact(oX z (by decide) (by decide)).trans (litE_null z r)
  ·cases h
 ·split at h
  ·rename_i hk
   split at h
   ·rename_i hc
    cases h
    rw[wM (v:=v) hk hc.1 rfl]
    rfl
   ·cases h
  ·split at h
   ·rename_i hk
    split at h
    ·rename_i hc
     cases h
     rw[wM (v:=v) hk rfl hc.1]
     by_cases hn:v.n<0
     ·rw[if_pos hn]
      refine(oX z (by decide) (by decide)).trans ((litE_minus z (-v.n) _ r).trans ?_)
      rw[Int.neg_neg]
     ·rw[if_neg hn]
      rfl
    ·cases h
   ·split at h
    ·rename_i hk
     split at h
     ·rename_i hc
      cases h
      rw[wM (v:=v) hk rfl hc.1]
      exact(oX z (by decide) (by decide)).trans (litE_at z v.n _ r)
     ·cases h
    ·split at h
     ·rename_i hk
      split at h
      ·rename_i hc
       cases h
       rcases hc.2 with hn|hn
       ·rw[wM hk hn hc.1,if_pos rfl]
        exact(oX z (by decide) (by decide)).trans (litE_false z r)
       ·rw[wM hk hn hc.1,if_neg (by decide)]
        exact(oX z (by decide) (by decide)).trans (litE_true z r)
      ·cases h
     ·cases h
theorem Rdx.value (z:Nat) {v:Vl}{ps:List Pc}(h:bX v=some ps):Rdx (mX z) (aX ps) v []:=by
 have:=Rdx.last (f:=fun o:Option Vl=>match o with|some v=>(pure v:PM Vl)|none=>pZ z 4) (b:=v) (Rdx.literal z h) rfl
 exact this
theorem lit_name (z:Nat) {b s:aBs}(h:eW s=true)(hr:reserved s=false)(r:List Tok):dM z ((aD b s).t::r)=.ok (none,(aD b s).t::r):=by
 have hres:=of_decide_eq_false hr
 refine(oX z (show(1:Int)≠3 by decide) (show(1:Int)≠2 by decide)).trans (litE_none z (uF h (by decide) b) (uF h (by decide) b) ?_ ?_ ?_)
 ·exact decide_eq_false fun e=>hres (.inl e.1)
 ·exact decide_eq_false fun e=>hres (.inr (.inl e.1))
 ·exact decide_eq_false fun e=>hres (.inr (.inr e.1))
theorem opd_eq {x:Opd}{v a:aBs}{c:Bool}{w:Vl}(h1:x.var=v)(h2:x.attr=a)(h3:x.con=c)(h4:x.val=w):x=⟨v,a,c,w⟩:=by cases x;simp_all
theorem Rdx.side (z:Nat) {x:Opd}{ps:List Pc}(h:jS x=some ps):Rdx (nY z) (aX ps) x [[46]]:=by
 unfold jS at h;split at h
 ·rename_i hc
  split at h
  ·rename_i hva
   intro r _;unfold nY
   rw[aCd (Rdx.literal z h r (NS.nil _))]
   rw[opd_eq hva.1 hva.2 hc rfl]
   rfl
  ·cases h
 ·rename_i hc
  have hc:x.con=false:=by simpa using hc
  split at h
  ·cases h
  ·rename_i hv0
   have hv:x.val=vl0:=by
    have hv0:=Decidable.not_not.1 hv0;exact wM hv0.1 hv0.2.1 hv0.2.2
   split at h
   ·rename_i hvar
    split at h
    ·cases h
    ·rename_i hres
     have hres:reserved x.attr=false:=by simpa using hres
     obtain⟨hok,rfl⟩:=fQ h
     intro r hr;unfold nY
     show(dM z >>= _) ((aD [32] x.attr).t::r)=_
     rw[aCd (lit_name z hok hres r)]
     simp only
     rw[aCd (show cV z ((aD [32] x.attr).t::r)=.ok (x.attr,r) from rfl)]
     rw[aCd (jZ (hr [46] (by simp)))]
     rw[opd_eq hvar rfl hc hv]
     rfl
   ·split at h
    ·cases h
    ·rename_i hres
     have hres:reserved x.var=false:=by simpa using hres
     obtain⟨p1,q1,e1,h1,rfl⟩:=aG h
     obtain⟨p2,q2,e2,h2,rfl⟩:=aG h1
     obtain⟨p3,q3,e3,h3,rfl⟩:=aG h2
     obtain rfl:=dG h3
     obtain⟨hok,rfl⟩:=fQ e1
     obtain⟨hok3,rfl⟩:=fQ e3
     cases e2
     intro r hr;unfold nY
     show(dM z >>= _) ((aD [32] x.var).t::⟨4,[46],0,0⟩::(aD [] x.attr).t::r)=_
     rw[aCd (lit_name z hok hres _)]
     simp only
     rw[aCd (show cV z ((aD [32] x.var).t::⟨4,[46],0,0⟩::(aD [] x.attr).t::r)=.ok (x.var,⟨4,[46],0,0⟩::(aD [] x.attr).t::r) from rfl)]
     rw[aCd (gN rfl)]
     rw[opd_eq rfl rfl hc hv]
     rfl
theorem Rdx.cond (z:Nat) {x:Cnd}{ps:List Pc}(h:uQ x=some ps):Rdx (sR z) (aX ps) x [[46],[43],[45]]:=by
 obtain⟨p1,q1,e1,h1,rfl⟩:=aG h
 obtain⟨p2,q2,e2,h2,rfl⟩:=aG h1
 obtain⟨p3,q3,e3,h3,rfl⟩:=aG h2
 obtain⟨p4,q4,e4,h4,rfl⟩:=aG h3
 obtain rfl:=dG h4
 rw[aDc]
 obtain⟨l,op,rt,ad⟩:=x
 simp only at e1 e2 e3 e4
 simp only[bE]
 intro r hr;unfold sR
 obtain⟨j,hj,s,hs,hp2⟩:=zM e2
 have hs4:dF ⟨4,s,0,0⟩ [46]=false:=by
  have hm:=aC7 hs
  simp at hm
  rcases hm with rfl|rfl|rfl|rfl<;>decide
 rw[aC9,aCd (Rdx.side z e1 _ (by rw[hp2];exact NS.cons (t:=⟨4,s,0,0⟩) (fun s' hs'=>by rw[aDd.1 hs'];exact hs4)))]
 rw[aC9,aCd (Rdx.op z e2 _ (NS.nil _))]
 unfold wI at e4;split at e4
 ·cases e4
 ·split at e4
  ·cases e4
   rw[aC9,aCd (Rdx.side z e3 (aX [aO [32] [43],bP [32] ad]++r) (show NS _ (⟨4,[43],0,0⟩::⟨2,Lib.itoa ad,ad,0⟩::r) from NS.cons (by decide)))]
   show(cM [43] >>= _) (⟨4,[43],0,0⟩::⟨2,Lib.itoa ad,ad,0⟩::r)=_
   rw[aCd (gN rfl)]
   rfl
  ·split at e4
   ·cases e4
    rw[aC9,aCd (Rdx.side z e3 (aX [aO [32] [45],bP [32] (-ad)]++r) (show NS _ (⟨4,[45],0,0⟩::⟨2,Lib.itoa (-ad),-ad,0⟩::r) from NS.cons (by decide)))]
    show(cM [43] >>= _) (⟨4,[45],0,0⟩::⟨2,Lib.itoa (-ad),-ad,0⟩::r)=_
    rw[aCd (fF (by decide))]
    simp only[aDe,if_false]
    rw[aCd (gN rfl)]
    show Except.ok ((⟨l,op,rt,- -ad⟩:Cnd),r)=_
    rw[Int.neg_neg]
   ·cases e4
    obtain rfl:ad=0:=by omega
    rw[aC9,show aX []++r=r from rfl,aCd (Rdx.side z e3 r (hr.sub (by simp)))]
    rw[aCd (jZ (hr [43] (by simp)))]
    simp only[aDe,if_false]
    rw[aCd (jZ (hr [45] (by simp)))]
    rfl
theorem Rdx.conds (z:Nat) {l:List Cnd}{ps:List Pc}(h:nO l=some ps):Rdx (mC z) (aX ps) l [[97,110,100],[46],[43],[45]]:=by
 cases l with
 | nil=>cases h
 | cons x xs =>
  obtain⟨p1,q1,e1,h1,rfl⟩:=aG h
  obtain⟨p2,q2,e2,h2,rfl⟩:=aG h1
  cases e1
  rw[bE,bE]
  unfold mC;refine Rdx.then (Rdx.need1 z (t:=⟨1,[119,104,101,114,101],0,0⟩) rfl) ?_;exact Rdx.listE (c:=aD [32] [97,110,100]) rfl (by decide) (Rdx.cond z e2) (fun y qs hy=>Rdx.cond z hy) h2
mutual
def eS:Ex→Ex
 | .mk k tb ks cs ns a as_ g _=>.mk k tb (eQ ks) cs ns a as_ g 0
def eQ:List Ex→List Ex
 | []=>[]
 | x::r=>eS x::eQ r
end
theorem xB (z:Nat) {stop:Pc}{q0:List Pc}{s:aBs}{b:aBs}{l:List aBs}{ps:List Pc}(h:hH aZ b l=some ps)(hs:dF stop.t s=true)(hc:dF stop.t [44]=false)(hf:∀ x r,l=x::r→eW x=true→dF (aD b x).t s=false) :
  ∀ r,namesU z s (aX ps++(aX (stop::q0)++r))=.ok (l,aX (stop::q0)++r):=by
 intro r;cases l with
 | nil =>
  cases h
  exact nH (by show bC [s] (stop.t::(aX q0++r))=true;rw[kT];exact hs)
 | cons x xs =>
  obtain⟨p,q,hp,hq,rfl⟩:=pO h
  obtain⟨hok,rfl⟩:=fQ hp
  have hr:=Rdx.names z h (aX (stop::q0)++r) (NS.tok (fun s' hs'=>by rw[aDd.1 hs'];exact hc))
  rw[kV ?_]
  ·exact hr
  ·rw[bE]
   show bC [s] ((aD b x).t::(aX q++(aX (stop::q0)++r)))=false
   rw[kT]
   exact hf x xs rfl hok
theorem rest_read (z:Nat) {k g:Int}{cs:List Cnd}{ns:List aBs}{a as_:aBs}{ps:List Pc}(h1:2≤k)(h8:k≤8)(hb:gD k [] cs ns a as_ g=true)(h:dT k cs ns a as_ g=some ps)(kids:List Ex) :
  ∀ r,dZ z (k - 2).toNat 0 kids (aX ps++(aX [aO [] [41]]++r))=.ok (.mk k [] kids cs ns a as_ g 0,aX [aO [] [41]]++r):=by
 intro r;have hb:=of_decide_eq_true hb
 rcases(show k=2∨k=3∨k=4∨k=5∨k=6∨k=7∨k=8 by omega) with rfl|rfl|rfl|rfl|rfl|rfl|rfl
 ·simp at hb
  obtain⟨rfl,rfl,rfl,rfl⟩:=hb
  have h:nO cs=some ps:=h
  show(mC z >>= _) _=_
  rw[aCd (Rdx.conds z h _ (NS.tok (by decide)))]
  rfl
 ·simp at hb
  obtain⟨rfl,rfl,rfl,rfl⟩:=hb
  have h:aJ [some [aD [32] [111,110]],hH aZ [32] ns]=some ps:=h
  obtain⟨p1,q1,e1,h1,rfl⟩:=aG h
  obtain⟨p2,q2,e2,h2,rfl⟩:=aG h1
  obtain rfl:=dG h2;cases e1
  rw[aDc,bE,aC9]
  show(aW z [[111,110]] >>= _) _=_
  rw[aCd (iJ z _ [111,110] _)]
  rw[aCd (xB z e2 (stop:=aO [] [41]) (q0:=[]) rfl (by decide) (fun x r _ hx=>uF hx (by decide) _) r)]
  rfl
 ·simp at hb
  obtain⟨rfl,rfl,rfl,rfl,rfl⟩:=hb
  cases h
  rfl
 ·simp at hb
  obtain⟨rfl,rfl,rfl,rfl,rfl⟩:=hb
  cases h
  rfl
 ·simp at hb
  obtain⟨rfl,rfl,rfl,rfl,rfl⟩:=hb
  cases h
  rfl
 ·simp at hb
  obtain⟨rfl,rfl,rfl⟩:=hb
  have h:aJ [some [aO [] [44]],aZ [32] a,some [aD [32] [97,115]],aZ [32] as_]=some ps:=h
  obtain⟨p1,q1,e1,h1,rfl⟩:=aG h
  obtain⟨p2,q2,e2,h2,rfl⟩:=aG h1
  obtain⟨p3,q3,e3,h3,rfl⟩:=aG h2
  obtain⟨p4,q4,e4,h4,rfl⟩:=aG h3
  obtain rfl:=dG h4;cases e1;cases e3
  simp only[aDc,bE,aC9]
  show(aW z [[44]] >>= _) _=_
  rw[aCd (kC z _ [44] _)]
  rw[aCd (Rdx.name z e2 _ (NS.nil _))]
  rw[aCd (iJ z _ [97,115] _)]
  rw[aCd (Rdx.name z e4 _ (NS.nil _))]
  rfl
 ·simp at hb
  subst hb;have h:(if withQ ns=true then aJ [some [aD [32] [111,110]],hH aZ [32] ns,some [aD [32] [119,105,116,104]],gB g [[99,111,117,110,116],[115,117,109],[108,101,97,115,116],[103,114,101,97,116,101,115,116]],
   (if g=1 then(if a=[] then some [] else none) else aZ [32] a),some [aD [32] [97,115]],aZ [32] as_] else none)=some ps:=h
  split at h
  ·rename_i hw
   obtain⟨p1,q1,e1,h1,rfl⟩:=aG h
   obtain⟨p2,q2,e2,h2,rfl⟩:=aG h1
   obtain⟨p3,q3,e3,h3,rfl⟩:=aG h2
   obtain⟨p4,q4,e4,h4,rfl⟩:=aG h3
   obtain⟨p5,q5,e5,h5,rfl⟩:=aG h4
   obtain⟨p6,q6,e6,h6,rfl⟩:=aG h5
   obtain⟨p7,q7,e7,h7,rfl⟩:=aG h6
   obtain rfl:=dG h7;cases e1;cases e3;cases e6
   simp only[aDc,bE,aC9]
   show(aW z [[111,110]] >>= _) _=_
   rw[aCd (iJ z _ [111,110] _)]
   rw[aCd (xB z e2 (stop:=aD [32] [119,105,116,104]) (q0:=[]) rfl (by decide) (fun x r e hx=>by subst e;exact decide_eq_false fun y=>of_decide_eq_true hw y.1) _)]
   show(aW z [[119,105,116,104]] >>= _) _=_
   rw[aCd (iJ z _ [119,105,116,104] _)]
   rw[aCd (Rdx.word z (by decide) e4 _ (NS.nil _))]
   by_cases hg:g=1
   ·rw[if_pos hg]at e5
    split at e5
    ·rename_i ha
     cases e5
     rw[lX (by simp[hg]),aCd (PM.pure_eq _ _)]
     rw[show aX []++(aX [aD [32] [97,115]]++(aX p7++(aX [aO [] [41]]++r)))=aX [aD [32] [97,115]]++(aX p7++(aX [aO [] [41]]++r)) from rfl]
     rw[aCd (iJ z _ [97,115] _)]
     rw[aCd (Rdx.name z e7 _ (NS.nil _))]
     rw[ha]
     rfl
    ·cases e5
   ·rw[if_neg hg]at e5
    rw[jI (by simpa using hg)]
    rw[aCd (Rdx.name z e5 _ (NS.nil _))]
    rw[aCd (iJ z _ [97,115] _)]
    rw[aCd (Rdx.name z e7 _ (NS.nil _))]
    rfl
  ·cases h
theorem op_at {k:Int}(h2:2≤k)(h8:k≤8)(b:aBs)(r:List Tok):gP ((aD b (cG.getD (k - 2).toNat [])).t::⟨4,[40],0,0⟩::r)=some (k - 2).toNat:=by
 rcases(show k=2∨k=3∨k=4∨k=5∨k=6∨k=7∨k=8 by omega) with rfl|rfl|rfl|rfl|rfl|rfl|rfl<;>rfl
theorem op_none {t:Tok}{r:List Tok}(h:NS [[40]] r):gP (t::r)=none:=by
 unfold gP
 rw[List.find?_eq_none]
 intro i _;have h2:bC [[40]] r=false:=h [40] (by simp)
 simp only[bC,h2,Bool.and_false]
 decide
theorem exLev_kid {k:Int}{tb:aBs}{ks:List Ex}{cs:List Cnd}{ns:List aBs}{a as_:aBs}{g:Int}{o n:Nat}(h:bY (.mk k tb ks cs ns a as_ g o)≤n+1):cK ks≤n:=by
 simp only[bY]at h
 omega
theorem two_iff {k:Int}(h2:2≤k)(h8:k≤8):(iM k=2∧sH (k - 2).toNat=true)∨(iM k=1∧sH (k - 2).toNat=false):=by
 rcases(show k=2∨k=3∨k=4∨k=5∨k=6∨k=7∨k=8 by omega) with rfl|rfl|rfl|rfl|rfl|rfl|rfl<;>simp[iM,sH]
theorem rest_head {k g:Int}{cs:List Cnd}{ns:List aBs}{a as_:aBs}{ps:List Pc}(h:dT k cs ns a as_ g=some ps)(r:List Tok):NS [[40]] (aX ps++(aX [aO [] [41]]++r)):=by
 have hd:∀(c:Pc) (q:List Pc),dF c.t [40]=false→NS [[40]] (aX (c::q)++(aX [aO [] [41]]++r)):=fun c q hc=>NS.tok (fun s hs=>by rw[aDd.1 hs];exact hc);unfold dT at h;split at h
 ·cases cs with
  | nil=>cases h
  | cons x xs =>
   obtain⟨p1,q1,e1,_,rfl⟩:=aG h
   cases e1
   exact hd _ _ (by decide)
 ·split at h
  ·obtain⟨p1,q1,e1,_,rfl⟩:=aG h
   cases e1
   exact hd _ _ (by decide)
  ·split at h
   ·obtain⟨p1,q1,e1,_,rfl⟩:=aG h
    cases e1
    exact hd _ _ (by decide)
   ·split at h
    ·split at h
     ·obtain⟨p1,q1,e1,_,rfl⟩:=aG h
      cases e1
      exact hd _ _ (by decide)
     ·cases h
    ·cases h
     exact NS.tok (c:=aO [] [41]) (by decide)
theorem kids_one {b:aBs}{x:Ex}{ps:List Pc}(h:kE b [x]=some ps):fZ b x=some ps:=by
 simp only[kE]at h
 split at h
 ·rename_i p q e1 e2
  cases e2
  cases h
  simpa using e1
 ·cases h
theorem kids_two {b:aBs}{x y:Ex}{ps:List Pc}(h:kE b [x,y]=some ps):∃ p q,fZ b x=some p∧fZ [32] y=some q∧ps=p++[aO [] [44]]++q:=by
 unfold kE at h;split at h
 ·rename_i p q e1 e2
  cases h
  exact⟨p,q,e1,kids_one e2,rfl⟩
 ·cases h
theorem yD (z:Nat):∀(n:Nat)(x:Ex)(b:aBs)(ps:List Pc),fZ b x=some ps→bY x≤n→Rdx (bT z n) (aX ps) (eS x) [[40]]
 | 0,.mk _ _ _ _ _ _ _ _ _,_,_,_,hl=>by simp[bY]at hl
 | n+1,.mk k tb ks cs ns a as_ g o,b,ps,h,hl=>by
  have hkl:=exLev_kid hl;unfold fZ at h;split at h
  ·rename_i hc
   obtain⟨c1,c8,clen,cb⟩:=hc
   split at h
   ·rename_i hk1
    subst hk1;have cb:=of_decide_eq_true cb
    simp at cb
    obtain⟨rfl,rfl,rfl,rfl,rfl⟩:=cb
    have hks:ks=[]:=aDB.1 (by simpa[iM] using clen);subst hks
    obtain⟨_,rfl⟩:=fQ h
    intro r hr;unfold bT
    show(match gP ((aD b tb).t::r) with|none=>_|some i=>_)=_
    rw[op_none hr]
    rfl
   ·rename_i hk1
    have h2:2≤k:=by omega
    have cb':=of_decide_eq_true cb;have htb:tb=[]:=cb'.1.resolve_left hk1;subst htb
    obtain⟨p1,q1,e1,h1,rfl⟩:=aG h
    obtain⟨p2,q2,e2,h2',rfl⟩:=aG h1
    obtain⟨p3,q3,e3,h3,rfl⟩:=aG h2'
    obtain⟨p4,q4,e4,h4,rfl⟩:=aG h3
    obtain rfl:=dG h4;cases e1;cases e4;intro r hr
    simp only[aDc,bE,aC9]
    unfold bT;have hop:gP (aX [aD b (cG.getD (k - 2).toNat []),aO [] [40]]++(aX p2++(aX p3++(aX [aO [] [41]]++r))))=some (k - 2).toNat:=op_at h2 c8 b _;have hof:bF (aX [aD b (cG.getD (k - 2).toNat []),aO [] [40]]++(aX p2++(aX p3++(aX [aO [] [41]]++r))))=0:=rfl
    simp only[hop,hof]
    rw[aCd (need_ws z _ _ _ _ _)]
    have hre:=rest_read z h2 c8 cb e3;have hhead:=rest_head e3 r
    rcases two_iff h2 c8 with ⟨hk2,ht⟩|⟨hk2,ht⟩
    ·obtain⟨x,y,rfl⟩:∃ x y,ks=[x,y]:=by
      rw[hk2]at clen
      match ks,clen with
      | [x,y],_=>exact⟨x,y,rfl⟩
     obtain⟨u,v,eu,ev',rfl⟩:=kids_two e2
     have hlx:bY x≤n:=by simp only[cK]at hkl;omega
     have hly:bY y≤n:=by simp only[cK]at hkl;omega
     simp only[bE,aC9]
     rw[aCd (yD z n x [] u eu hlx _ (NS.tok (c:=aO [] [44]) (by decide)))]
     have hk:ifP (sH (k - 2).toNat) (do
       aW z [[44]]
       let b ← bT z n
       pure [eS x,b]:PM (List Ex)) [eS x] (aX [aO [] [44]]++(aX v++(aX p3++(aX [aO [] [41]]++r))))=.ok ([eS x,eS y],aX p3++(aX [aO [] [41]]++r)):=by
      rw[jI ht]
      rw[aCd (kC z _ [44] _)]
      rw[aCd (yD z n y [32] v ev' hly _ hhead)]
      rfl
     rw[aCd hk,aCd (hre [eS x,eS y] r)]
     show(aW z [[41]] >>= _) _=_
     rw[aCd (kC z _ [41] _)]
     simp only[eS,eQ]
     rfl
    ·obtain⟨x,rfl⟩:∃ x,ks=[x]:=by
      rw[hk2]at clen
      match ks,clen with
      | [x],_=>exact⟨x,rfl⟩
     have eu:=kids_one e2;have hlx:bY x≤n:=by simp only[cK]at hkl;omega
     rw[aCd (yD z n x [] p2 eu hlx _ hhead)]
     rw[lX ht,aCd (PM.pure_eq _ _),aCd (hre [eS x] r)]
     show(aW z [[41]] >>= _) _=_
     rw[aCd (kC z _ [41] _)]
     simp only[eS,eQ]
     rfl
  ·cases h
theorem Rdx.place (z:Nat) {t a:aBs}{ps:List Pc}(h:dW t a=some ps):Rdx (kA z) (aX ps) (t,a) []:=by
 obtain⟨p1,q1,e1,h1,rfl⟩:=aG h
 obtain⟨p2,q2,e2,h2,rfl⟩:=aG h1
 obtain⟨p3,q3,e3,h3,rfl⟩:=aG h2
 obtain rfl:=dG h3;cases e2;intro r _
 simp only[aDc,bE,aC9]
 unfold kA
 rw[aCd (Rdx.name z e1 _ (NS.nil _))]
 rw[aCd (kC z _ [46] _)]
 rw[aCd (Rdx.name z e3 _ (NS.nil _))]
 rfl
theorem Rdx.column (z:Nat) {b:aBs}{c:Col}{ps:List Pc}(h:mR b c=some ps):Rdx (lE z) (aX ps) c [[61]]:=by
 obtain⟨p1,q1,e1,h1,rfl⟩:=aG h
 obtain⟨p2,q2,e2,h2,rfl⟩:=aG h1
 obtain⟨p3,q3,e3,h3,rfl⟩:=aG h2
 obtain rfl:=dG h3
 obtain⟨nm,kd,df⟩:=c
 simp only at e1 e2 e3;intro r hr
 simp only[aDc,bE,aC9]
 unfold lE
 rw[aCd (Rdx.name z e1 _ (NS.nil _))]
 rw[aCd (Rdx.word z (by decide) e2 _ (NS.nil _))]
 split at e3
 ·rename_i hd
  cases e3
  rw[wM (v:=df) hd.1 hd.2.1 hd.2.2]
  rw[show aX []++r=r from rfl,aCd (jZ (hr [61] (by simp)))]
  rfl
 ·obtain⟨qs,hq,rfl⟩:=aDi.1 e3
  rw[aCd (aBM (c:=aO [32] [61]) rfl)]
  simp only[if_true]
  rw[aCd (Rdx.value z hq _ (NS.nil _))]
  rfl
theorem Rdx.term (z:Nat) {t:Trm}{ps:List Pc}(h:bI t=some ps):Rdx (mG z) (aX ps) t []:=by
 obtain⟨p1,q1,e1,h1,rfl⟩:=aG h
 obtain⟨p2,q2,e2,h2,rfl⟩:=aG h1
 obtain⟨p3,q3,e3,h3,rfl⟩:=aG h2
 obtain⟨p4,q4,e4,h4,rfl⟩:=aG h3
 obtain⟨p5,q5,e5,h5,rfl⟩:=aG h4
 obtain⟨p6,q6,e6,h6,rfl⟩:=aG h5
 obtain⟨p7,q7,e7,h7,rfl⟩:=aG h6
 obtain⟨p8,q8,e8,h8,rfl⟩:=aG h7
 obtain⟨p9,q9,e9,h9,rfl⟩:=aG h8
 obtain⟨p0,q0,e0,h0,rfl⟩:=aG h9
 obtain rfl:=dG h0;cases e4;cases e7;cases e0
 obtain⟨at_,ms,tl,nu,de,gv,tk⟩:=t
 simp only at e1 e2 e3 e5 e6 e8 e9;intro r _
 simp only[aDc,bE,aC9]
 unfold mG
 rw[aCd (Rdx.name z e1 _ (NS.nil _))]
 rw[aCd (Rdx.word z (by decide) e2 _ (NS.nil _))]
 have htol:∀ R,ifP (ms == 5) (lU z) 0 (aX p3++R)=.ok (tl,R):=by
  intro R;by_cases hm:ms=5
  ·rw[if_pos hm]at e3
   rw[jI (by simp[hm])]
   exact Rdx.num z e3 _ (NS.nil _)
  ·rw[if_neg hm]at e3
   split at e3
   ·rename_i ht
    cases e3
    rw[lX (by simp[hm]),ht]
    rfl
   ·cases e3
 rw[aCd (htol _)]
 show(aW z [[108,101,97,115,116]] >>= _) _=_
 rw[aCd (iJ z _ [108,101,97,115,116] _)]
 rw[aCd (Rdx.num z e5 _ (NS.nil _))]
 have hden:∀ R,(do if ← cM [47] then lU z else pure 1:PM Int) (aX p6++(aX [aD [32] [103,105,118,101,115]]++R))=.ok (de,aX [aD [32] [103,105,118,101,115]]++R):=by
  intro R;split at e6
  ·rename_i hd
   cases e6
   show(cM [47] >>= _) (aX [aD [32] [103,105,118,101,115]]++R)=_
   rw[aCd (take_f (c:=aD [32] [103,105,118,101,115]) (by decide)),hd]
   rfl
  ·obtain⟨qs,hq,rfl⟩:=aDi.1 e6
   rw[aCd (aBM (c:=aO [] [47]) rfl)]
   exact Rdx.num z hq _ (NS.nil _)
 rw[aCd (hden _)]
 show(aW z [[103,105,118,101,115]] >>= _) _=_
 rw[aCd (iJ z _ [103,105,118,101,115] _)]
 rw[aCd (Rdx.num z e8 _ (NS.nil _))]
 have htak:∀ R,(do if ← cM [116,97,107,101,115] then lU z else pure 0:PM Int) (aX p9++(aX [aO [] [59]]++R))=.ok (tk,aX [aO [] [59]]++R):=by
  intro R;split at e9
  ·rename_i hd
   cases e9
   show(cM [116,97,107,101,115] >>= _) (aX [aO [] [59]]++R)=_
   rw[aCd (take_f (c:=aO [] [59]) (by decide)),hd]
   rfl
  ·obtain⟨qs,hq,rfl⟩:=aDi.1 e9
   rw[aCd (aBM (c:=aD [32] [116,97,107,101,115]) rfl)]
   exact Rdx.num z hq _ (NS.nil _)
 rw[aCd (htak _)]
 show(aW z [[59]] >>= _) _=_
 rw[aCd (kC z _ [59] _)]
 rfl
theorem yQ (z:Nat):∀(l:List Trm)(f:Nat)(acc:List Trm)(ps:List Pc)(r:List Tok),l.length<f→aJ (l.map bI)=some ps→termsA z f acc (aX ps++(aX [aO [10] [125]]++r))=.ok (acc++l,aX [aO [10] [125]]++r)
 | [],f+1,acc,ps,r,_,h=>by
  obtain rfl:=dG h;unfold termsA;have hs:bC [[125]] (aX []++(aX [aO [10] [125]]++r))=true:=kT _ _ _
  simp only[hs,if_true,aDc]
  rfl
 | x::l,f+1,acc,ps,r,hf,h=>by
  obtain⟨a,b,ha,hb,rfl⟩:=aG h
  have hns:bC [[125]] (aX (a++b)++(aX [aO [10] [125]]++r))=false:=by
   obtain⟨p1,q1,e1,_,rfl⟩:=aG ha
   obtain⟨hok,rfl⟩:=fQ e1
   show bC [[125]] ((aD _ x.attr).t::_)=false
   rw[kT]
   exact uF hok (by decide) _
  unfold termsA
  simp only[hns,aDe,if_false]
  rw[bE,aC9,aCd (Rdx.term z ha _ (NS.nil _))]
  rw[yQ z l f (acc++[x]) b r (by simp at hf;omega) hb]
  simp
 | _,0,_,_,_,h,_=>by omega
theorem Rdx.fixed (z:Nat) {f:Nmd}{ps:List Pc}(h:aAR f=some ps):Rdx (lY z) (aX ps) f []:=by
 obtain⟨p1,q1,e1,h1,rfl⟩:=aG h
 obtain⟨p2,q2,e2,h2,rfl⟩:=aG h1
 obtain⟨p3,q3,e3,h3,rfl⟩:=aG h2
 obtain rfl:=dG h3;cases e2;intro r _
 simp only[aDc,bE,aC9]
 unfold lY
 rw[aCd (Rdx.name z e1 _ (NS.nil _))]
 rw[aCd (kC z _ [61] _)]
 rw[aCd (Rdx.value z e3 _ (NS.nil _))]
 rfl
theorem Rdx.var (z:Nat) {v:Vr}{ps:List Pc}(h:sV v=some ps):Rdx (yM z) (aX ps) v []:=by
 obtain⟨p1,q1,e1,h1,rfl⟩:=aG h
 obtain⟨p2,q2,e2,h2,rfl⟩:=aG h1
 obtain rfl:=dG h2;intro r _
 simp only[aDc,bE,aC9]
 unfold yM
 rw[aCd (Rdx.name z e1 _ (NS.nil _))]
 rw[aCd (Rdx.name z e2 _ (NS.nil _))]
 rfl
theorem wN (z:Nat)(x:It) {t:aBs}{ns:List aBs}{p2 p4:List Pc}(e2:aZ [32] t=some p2)(e4:dJ aZ [] ns=some p4)(r:List Tok) :
  jG z x (aX [aD [32] [111,110]]++(aX p2++(aX [aO [] [40]]++(aX p4++(aX [aO [] [41]]++r)))))=.ok ({ x with table:=t,names:=ns },r):=by
 obtain⟨y,ys,rfl,e4⟩:=oD e4
 unfold jG
 rw[aCd (iJ z _ [111,110] _)]
 rw[aCd (Rdx.name z e2 _ (NS.nil _))]
 rw[aCd (kC z _ [40] _)]
 rw[aCd (Rdx.names z e4 _ (NS.tok (c:=aO [] [41]) (by decide)))]
 rw[aCd (kC z _ [41] _)]
 rfl
def eE (x:It):It:={ x with off:=0,expr:=eS x.expr }
theorem gE {x:Ex}(h:aAU x=true):eS x=ex0:=by
 obtain⟨k,tb,ks,cs,ns,a,as_,g,o⟩:=x
 have h:=of_decide_eq_true h
 obtain⟨rfl,rfl,h1,h2,rfl,rfl,rfl,rfl⟩:=h
 obtain rfl:=aDB.1 h1;obtain rfl:=aDB.1 h2
 rfl
abbrev bare0 (x:It):It:={ it0 with kind:=x.kind,name:=x.name,off:=0 }
def wD (k:Int):Pc:=if k=4 then aO [10] [125] else aO [] [59]
theorem part_read (z:Nat)(x:It)(ps:List Pc)(h1:1≤x.kind)(h10:x.kind≤10)(hb:bareI x=true)(hz:x.kind=10∨aAU x.expr=true)(hl:x.kind=10→bY x.expr≤12)(h:jD x=some ps)(r:List Tok) :
  jU z x.kind (bare0 x) (aX ps++(aX [wD x.kind]++r))=.ok (eE x,aX [wD x.kind]++r):=by
 have hb:=of_decide_eq_true hb
 obtain⟨kind,name,off,table,attr,cols,names,by_,n,m,terms,other,oattr,fixed,vars,conds,expr⟩:=x
 unfold jD at h;simp only at h h1 h10 hb hz hl
 rcases(show kind=1∨kind=2∨kind=3∨kind=4∨kind=5∨kind=6∨kind=7∨kind=8∨kind=9∨kind=10 by omega) with rfl|rfl|rfl|rfl|rfl|rfl|rfl|rfl|rfl|rfl
 ·simp at hb
  obtain⟨rfl,rfl,rfl,rfl,rfl,rfl,rfl,rfl,rfl,rfl,rfl⟩:=hb
  have hz:=gE (hz.resolve_left (by decide));have h:aJ [some [aO [] [40]],dJ mR [] cols,some [aO [] [41],aD [32] [107,101,121]],dJ aZ [32] names]=some ps:=h
  obtain⟨p1,q1,e1,k1,rfl⟩:=aG h
  obtain⟨p2,q2,e2,k2,rfl⟩:=aG k1
  obtain⟨p3,q3,e3,k3,rfl⟩:=aG k2
  obtain⟨p4,q4,e4,k4,rfl⟩:=aG k3
  obtain rfl:=dG k4;cases e1;cases e3
  obtain⟨c,cs,rfl,e2⟩:=oD e2
  obtain⟨y,ys,rfl,e4⟩:=oD e4
  obtain⟨u,v,eu,ev',rfl⟩:=pO e2
  simp only[aDc,bE,aC9]
  have hcol:=Rdx.listE (sep:=[44]) (l:=[[61]]) (c:=aO [] [44]) (q:=mR [32]) rfl (by decide) (Rdx.column z eu) (fun y qs hy=>Rdx.column z hy) ev'
  show(aW z [[40]] >>= _) _=_
  rw[aCd (kC z _ [40] _)]
  rw[← aC9 (aX u),aCd (hcol _ (NS.tok (by decide)))]
  rw[aCd (need_sw z _ _ _ _ _)]
  rw[aCd (Rdx.names z e4 _ (NS.tok (by decide)))]
  unfold eE
  simp only[hz]
  rfl
 ·simp at hb
  obtain⟨rfl,rfl,rfl,rfl,rfl,rfl,rfl,rfl,rfl,rfl,rfl,rfl⟩:=hb
  have hz:=gE (hz.resolve_left (by decide));have h:aJ [some [aD [32] [116,114,117,115,116]],iD [32] n]=some ps:=h
  obtain⟨p1,q1,e1,k1,rfl⟩:=aG h
  obtain⟨p2,q2,e2,k2,rfl⟩:=aG k1
  obtain rfl:=dG k2;cases e1
  simp only[aDc,bE,aC9]
  show(aW z [[116,114,117,115,116]] >>= _) _=_
  rw[aCd (iJ z _ [116,114,117,115,116] _)]
  rw[aCd (Rdx.num z e2 _ (NS.nil _))]
  unfold eE
  simp only[hz]
  rfl
 ·simp at hb
  obtain⟨rfl,rfl,hn,hm,rfl,rfl,rfl,rfl,rfl,rfl⟩:=hb
  have hz:=gE (hz.resolve_left (by decide));have h:aJ [some [aD [32] [111,110]],dW table attr,some [aD [32] [98,121]],gB by_ [[101,120,97,99,116],[116,111,107,101,110],[112,114,101,102,105,120],[115,107,101,116,99,104]],(if 3≤by_ then iD [32] n else some []),(if by_=4 then iD [32] m else some [])]=some ps:=h
  obtain⟨p1,q1,e1,k1,rfl⟩:=aG h
  obtain⟨p2,q2,e2,k2,rfl⟩:=aG k1
  obtain⟨p3,q3,e3,k3,rfl⟩:=aG k2
  obtain⟨p4,q4,e4,k4,rfl⟩:=aG k3
  obtain⟨p5,q5,e5,k5,rfl⟩:=aG k4
  obtain⟨p6,q6,e6,k6,rfl⟩:=aG k5
  obtain rfl:=dG k6;cases e1;cases e3
  obtain⟨j,hj,w,hw,_⟩:=sT e4
  have hj4:j<4:=by have:=(aC6.1 hw).1;simpa using this
  simp only[aDc,bE,aC9]
  show(aW z [[111,110]] >>= _) _=_
  rw[aCd (iJ z _ [111,110] _)]
  rw[aCd (Rdx.place z e2 _ (NS.nil _))]
  show(aW z [[98,121]] >>= _) _=_
  rw[aCd (iJ z _ [98,121] _)]
  rw[aCd (Rdx.word z (by decide) e4 _ (NS.nil _))]
  by_cases h3:by_=3
  ·subst h3
   rw[if_pos (by decide)]at e5
   rw[if_neg (by decide)]at e6
   cases e6
   rw[if_pos rfl]
   rw[aCd (Rdx.num z e5 _ (NS.nil _))]
   obtain rfl:m=0:=by rcases hm with hm|hm;exact absurd hm (by decide);exact hm
   unfold eE
   simp only[hz]
   rfl
  ·by_cases h4:by_=4
   ·subst h4
    rw[if_pos (by decide)]at e5
    rw[if_pos rfl]at e6
    rw[if_neg (by decide),if_pos rfl]
    rw[aCd (Rdx.num z e5 _ (NS.nil _))]
    rw[aCd (Rdx.num z e6 _ (NS.nil _))]
    unfold eE
    simp only[hz]
    rfl
   ·rw[if_neg (by omega)]at e5
    rw[if_neg h4]at e6
    cases e5
    cases e6
    rw[if_neg h3,if_neg h4]
    obtain rfl:m=0:=by rcases hm with hm|hm;exact absurd hm h4;exact hm
    obtain rfl:n=0:=by rcases hn with hn|hn;omega;exact hn
    unfold eE
    simp only[hz]
    rfl
 ·simp at hb
  obtain⟨rfl,rfl,rfl,rfl,rfl,rfl,rfl,rfl,rfl,rfl⟩:=hb
  have hz:=gE (hz.resolve_left (by decide));have h:aJ (some [aD [32] [111,110]]::aZ [32] table::some [aD [32] [97,116]]::iD [32] n::some [aO [32] [123]]::terms.map bI)=some ps:=h
  obtain⟨p1,q1,e1,k1,rfl⟩:=aG h
  obtain⟨p2,q2,e2,k2,rfl⟩:=aG k1
  obtain⟨p3,q3,e3,k3,rfl⟩:=aG k2
  obtain⟨p4,q4,e4,k4,rfl⟩:=aG k3
  obtain⟨p5,q5,e5,k5,rfl⟩:=aG k4
  cases e1
  cases e3
  cases e5
  simp only[aDc,bE,aC9]
  show(aW z [[111,110]] >>= _) _=_
  rw[aCd (iJ z _ [111,110] _)]
  rw[aCd (Rdx.name z e2 _ (NS.nil _))]
  show(aW z [[97,116]] >>= _) _=_
  rw[aCd (iJ z _ [97,116] _)]
  rw[aCd (Rdx.num z e4 _ (NS.nil _))]
  show(aW z [[123]] >>= _) _=_
  rw[aCd (kC z _ [123] _)]
  have hlen:terms.length≤(aX q5).length:=by
   clear hz h;have key:∀(l:List Trm) (ps:List Pc),aJ (l.map bI)=some ps→l.length≤(aX ps).length:=by
    intro l
    induction l with
    | nil=>intro ps _;exact Nat.zero_le _
    | cons x l ih =>
     intro ps h
     obtain⟨a,b,ha,hb,rfl⟩:=aG h
     obtain⟨u,v,eu,_,rfl⟩:=aG ha
     obtain⟨_,rfl⟩:=fQ eu
     have:=ih b hb
     rw[bE]
     simp only[aDa,aDb,aX,List.map_append,aDx,List.length_map]at this ⊢
     omega
   exact key terms q5 k5
  have ht:=yQ z terms ((aX q5++(aX [aO [10] [125]]++r)).length+1) [] q5 r (by simp only[aDa];omega) k5
  rw[show wD 4=aO [10] [125] from rfl]
  rw[aCd (m:=fun ts=>termsA z (ts.length+1) [] ts) ht]
  unfold eE
  simp only[hz]
  rfl
 ·simp at hb
  obtain⟨rfl,rfl,rfl,rfl,rfl,rfl,rfl,rfl,rfl,rfl,rfl⟩:=hb
  have hz:=gE (hz.resolve_left (by decide));have h:aJ [dW table attr,some [aD [32] [98,121]],gB by_ [[108,97,116,101,115,116],[109,111,115,116],[116,114,117,115,116,101,100],[108,111,110,103,101,115,116],[108,101,97,115,116],[103,114,101,97,116,101,115,116]]]=some ps:=h
  obtain⟨p1,q1,e1,k1,rfl⟩:=aG h
  obtain⟨p2,q2,e2,k2,rfl⟩:=aG k1
  obtain⟨p3,q3,e3,k3,rfl⟩:=aG k2
  obtain rfl:=dG k3;cases e2
  simp only[aDc,bE,aC9]
  show(kA z >>= _) _=_
  rw[aCd (Rdx.place z e1 _ (NS.nil _))]
  show(aW z [[98,121]] >>= _) _=_
  rw[aCd (iJ z _ [98,121] _)]
  rw[aCd (Rdx.word z (by decide) e3 _ (NS.nil _))]
  unfold eE
  simp only[hz]
  rfl
 ·simp at hb
  obtain⟨rfl,rfl,rfl,rfl,rfl,rfl,rfl,rfl,rfl,rfl,rfl⟩:=hb
  have hz:=gE (hz.resolve_left (by decide));have h:aJ [some [aD [32] [111,110]],aZ [32] table,some [aO [] [40]],dJ aZ [] names,some [aO [] [41]]]=some ps:=h
  obtain⟨p1,q1,e1,k1,rfl⟩:=aG h
  obtain⟨p2,q2,e2,k2,rfl⟩:=aG k1
  obtain⟨p3,q3,e3,k3,rfl⟩:=aG k2
  obtain⟨p4,q4,e4,k4,rfl⟩:=aG k3
  obtain⟨p5,q5,e5,k5,rfl⟩:=aG k4
  obtain rfl:=dG k5;cases e1;cases e3;cases e5
  simp only[aDc,bE,aC9]
  refine(wN z _ e2 e4 _).trans ?_
  unfold eE
  simp only[hz]
  rfl
 ·simp at hb
  obtain⟨rfl,rfl,rfl,rfl,rfl,rfl,rfl,rfl,rfl⟩:=hb
  have hz:=gE (hz.resolve_left (by decide));have h:aJ [some [aD [32] [111,110]],aZ [32] table,some [aO [] [40]],dJ aZ [] names,some [aO [] [41],aD [32] [116,111]],aZ [32] attr,aAl fixed]=some ps:=h
  obtain⟨p1,q1,e1,k1,rfl⟩:=aG h
  obtain⟨p2,q2,e2,k2,rfl⟩:=aG k1
  obtain⟨p3,q3,e3,k3,rfl⟩:=aG k2
  obtain⟨p4,q4,e4,k4,rfl⟩:=aG k3
  obtain⟨p5,q5,e5,k5,rfl⟩:=aG k4
  obtain⟨p6,q6,e6,k6,rfl⟩:=aG k5
  obtain⟨p7,q7,e7,k7,rfl⟩:=aG k6
  obtain rfl:=dG k7;cases e1;cases e3;cases e5
  simp only[aDc,bE,aC9]
  show(jG z _ >>= _) (aX [aD [32] [111,110]]++(aX p2++(aX [aO [] [40]]++(aX p4++(aX [aO [] [41]]++(aX [aD [32] [116,111]]++(aX p6++(aX p7++(aX [wD 7]++r)))))))))=_
  rw[aCd (wN z _ e2 e4 _)]
  show(aW z [[116,111]] >>= _) _=_
  rw[aCd (iJ z _ [116,111] _)]
  rw[aCd (Rdx.name z e6 _ (NS.nil _))]
  cases fixed with
  | nil =>
   cases e7
   show(cM [119,104,101,114,101] >>= _) (aX [wD 7]++r)=_
   rw[aCd (take_f (by decide))]
   unfold eE
   simp only[hz]
   rfl
  | cons f fs =>
   obtain⟨u1,v1,f1,g1,rfl⟩:=aG e7
   obtain⟨u2,v2,f2,g2,rfl⟩:=aG g1
   cases f1
   simp only[bE,aC9]
   have hfx:=Rdx.listE (sep:=[44]) (l:=[]) (c:=aO [] [44]) (q:=aAR) rfl (by simp) (Rdx.fixed z f2) (fun y qs hy=>Rdx.fixed z hy) g2
   rw[aCd (aBM (c:=aD [32] [119,104,101,114,101]) rfl)]
   rw[show aX []++(aX u2++(aX v2++(aX [wD 7]++r)))=aX u2++(aX v2++(aX [wD 7]++r)) from rfl]
   simp only[if_true]
   rw[← aC9,aCd (hfx _ (NS.tok (by decide)))]
   unfold eE
   simp only[hz]
   rfl
 ·simp at hb
  obtain⟨rfl,rfl,rfl,rfl,rfl,rfl,rfl,rfl,rfl⟩:=hb
  have hz:=gE (hz.resolve_left (by decide));have h:aJ [dW table attr,some [aD [32] [105,110]],dW other oattr]=some ps:=h
  obtain⟨p1,q1,e1,k1,rfl⟩:=aG h
  obtain⟨p2,q2,e2,k2,rfl⟩:=aG k1
  obtain⟨p3,q3,e3,k3,rfl⟩:=aG k2
  obtain rfl:=dG k3;cases e2
  simp only[aDc,bE,aC9]
  show(kA z >>= _) _=_
  rw[aCd (Rdx.place z e1 _ (NS.nil _))]
  show(aW z [[105,110]] >>= _) _=_
  rw[aCd (iJ z _ [105,110] _)]
  rw[aCd (Rdx.place z e3 _ (NS.nil _))]
  unfold eE
  simp only[hz]
  rfl
 ·simp at hb
  obtain⟨rfl,rfl,rfl,rfl,rfl,rfl,rfl,rfl,rfl,rfl,rfl⟩:=hb
  have hz:=gE (hz.resolve_left (by decide));have h:aJ [dJ (fun _=>sV) [] vars,nO conds]=some ps:=h
  obtain⟨p1,q1,e1,k1,rfl⟩:=aG h
  obtain⟨p2,q2,e2,k2,rfl⟩:=aG k1
  obtain rfl:=dG k2
  obtain⟨v,vs,rfl,e1'⟩:=oD e1
  obtain⟨u,w,eu,ew,rfl⟩:=pO e1'
  simp only[aDc,bE,aC9]
  have hvr:=Rdx.listE (sep:=[44]) (l:=[]) (c:=aO [] [44]) (q:=sV) rfl (by simp) (Rdx.var z eu) (fun y qs hy=>Rdx.var z hy) ew;have hns:NS [[44]] (aX p2++(aX [wD 9]++r)):=by
   cases conds with
   | nil=>cases e2
   | cons c cs =>
    obtain⟨u1,v1,f1,g1,rfl⟩:=aG e2
    cases f1
    exact NS.cons (t:=⟨1,[119,104,101,114,101],0,0⟩) (by decide)
  show(hO [44] (yM z) >>= _) _=_
  rw[← aC9 (aX u),aCd (hvr _ hns)]
  rw[aCd (Rdx.conds z e2 _ (NS.tok (by decide)))]
  unfold eE
  simp only[hz]
  rfl
 ·simp at hb
  obtain⟨rfl,rfl,rfl,rfl,rfl,rfl,rfl,rfl,rfl,rfl,rfl,rfl,rfl⟩:=hb
  have h:aJ [some [aO [32] [61]],fZ [32] expr]=some ps:=h
  obtain⟨p1,q1,e1,k1,rfl⟩:=aG h
  obtain⟨p2,q2,e2,k2,rfl⟩:=aG k1
  obtain rfl:=dG k2;cases e1
  simp only[aDc,bE,aC9]
  show(aW z [[61]] >>= _) _=_
  rw[aCd (kC z _ [61] _)]
  rw[aCd (yD z 12 expr [32] p2 e2 (hl rfl) _ (NS.tok (by decide)))]
  rfl
theorem kind_word {k:Int}(h1:1≤k)(h10:k≤10):dS[(k - 1).toNat]?=some (dS.getD (k - 1).toNat []):=by
 rcases(show k=1∨k=2∨k=3∨k=4∨k=5∨k=6∨k=7∨k=8∨k=9∨k=10 by omega) with rfl|rfl|rfl|rfl|rfl|rfl|rfl|rfl|rfl|rfl<;>rfl
theorem item_read (z:Nat) {x:It}{ps:List Pc}(h:mH x=some ps)(hl:x.kind=10→bY x.expr≤12):Rdx (iA z) (aX ps) (eE x) []:=by
 unfold mH at h;split at h
 ·rename_i hc
  obtain⟨h1,h10,hb,hz⟩:=hc
  obtain⟨p1,q1,e1,k1,rfl⟩:=aG h
  obtain⟨p2,q2,e2,k2,rfl⟩:=aG k1
  obtain⟨p3,q3,e3,k3,rfl⟩:=aG k2
  obtain⟨p4,q4,e4,k4,rfl⟩:=aG k3
  obtain rfl:=dG k4;cases e1;cases e4;intro r _
  simp only[aDc,bE,aC9]
  have he:[if x.kind=4 then aO [10] [125] else aO [] [59]]=[wD x.kind]:=rfl
  rw[he]
  show(eC z dS 1 >>= _) (⟨1,dS.getD (x.kind - 1).toNat [],0,0⟩::(aX p2++(aX p3++(aX [wD x.kind]++r))))=_
  have hw:=rV z dS 1 (x.kind - 1).toNat ⟨1,dS.getD (x.kind - 1).toNat [],0,0⟩ (aX p2++(aX p3++(aX [wD x.kind]++r))) (by decide) (kind_word h1 h10) (.inl rfl)
  rw[show(1:Int)+((x.kind - 1).toNat:Nat)=x.kind by omega]at hw
  rw[aCd hw]
  have hn:∀ R,ifP (x.kind != 5) (cV z) [] (aX p2++R)=.ok (x.name,R):=by
   intro R;by_cases h5:x.kind=5
   ·rw[if_pos h5]at e2
    cases e2
    rw[lX (by simp[h5])]
    have:x.name=[]:=(of_decide_eq_true hb).1 h5
    rw[this]
    rfl
   ·rw[if_neg h5]at e2
    rw[jI (by simpa using h5)]
    exact Rdx.name z e2 _ (NS.nil _)
  rw[aCd (hn _)]
  have hp:=part_read z x p3 h1 h10 hb hz hl e3 r
  refine(aCd hp).trans ?_
  by_cases h4:x.kind=4
  ·simp only[if_pos h4]
   rw[show wD x.kind=aO [10] [125] from if_pos h4]
   exact(aCd (kC z _ [125] r)).trans rfl
  ·simp only[if_neg h4]
   rw[show wD x.kind=aO [] [59] from if_neg h4]
   exact(aCd (kC z _ [59] r)).trans rfl
 ·cases h
def mK (t:Tok):Prop:=dQ (wr t)=.tok t.kind t.text t.num (wr t).length
theorem spanA {p:UInt8→Bool}:∀(l:aBs),(∀ c∈l,p c=true)→bM p l=l.length
 | [],_=>rfl
 | c::l,h=>by
  have ih:=spanA l (fun d hd=>h d (by simp[hd]));unfold bM at ih ⊢
  rw[aDu,h c (by simp)]
  simpa using ih
theorem iV {b s:aBs}(h:eW s=true):mK (aD b s).t:=by
 cases s with
 | nil=>cases h
 | cons c r =>
  simp only[eW,aC8,aDh]at h
  obtain⟨⟨h1,h2⟩,h3⟩:=h
  have h1:=of_decide_eq_true h1;have hw:wr (aD b (c::r)).t=c::r:=rfl;unfold mK
  rw[hw,iS h2]
  have hs:bM cJ (c::r)=(c::r).length:=spanA _ fun d hd=>by
   rcases aDl.1 hd with rfl|hd
   ·simp[cJ,h2]
   ·exact h3 d hd
  rw[hs,if_neg (by omega),List.take_length]
  rfl
theorem zS:∀(k u:Nat),u<10 ^ (k+1)→Lib.nDigits u≤k+1
 | 0,u,h=>by
  rw[Lib.nDigits_small (by simpa using h)]
  omega
 | k+1,u,h=>by
  by_cases hu:u<10
  ·rw[Lib.nDigits_small hu]
   omega
  ·rw[Lib.nDigits_big hu]
   have:=zS k (u / 10) (by rw[Nat.pow_succ]at h;omega)
   omega
theorem nL {b:aBs}{n:Int}(h:nZ n=true):mK (bP b n).t:=by
 obtain⟨h0,h1⟩:=of_decide_eq_true h
 obtain⟨k,rfl⟩:=Int.eq_ofNat_of_zero_le h0
 have hk:k≤9999999999:=by omega
 have e:Lib.itoa (k:Int)=Lib.decDigits k:=by
  unfold Lib.itoa
  rw[if_neg (by omega)]
  simp
 have hw:wr (bP b (k:Int)).t=Lib.decDigits k:=e;unfold mK
 rw[hw]
 show _=Rd.tok 2 (Lib.itoa (k:Int)) (k:Int) _
 rw[e]
 have hd:∀ c∈Lib.decDigits k,bU c=true:=fun c hc=>decide_eq_true (dec_digits k c hc);have hlen:(Lib.decDigits k).length≤10:=by
  rw[Lib.decDigits_length]
  exact zS 9 k (by omega)
 have hs:=spanA _ hd;have hs2:=spanA _ (fun c hc=>rN (hd c hc));have hu:=undec_dec k;cases hl:Lib.decDigits k with
 | nil=>exact absurd hl (dec_ne_nil k)
 | cons c r =>
  rw[hl]at hd hs hs2 hu hlen
  have hc:=hd c (by simp);have hlet:cP c=false:=by
   cases hh:cP c with
   | false=>rfl
   | true=>have:=(letter_not hh).1;rw[hc]at this;cases this
  rw[lJ hlet hc,hs,hs2,if_neg (by omega),List.take_length,hu]
theorem good_txt {b s:aBs}(h:s.length≤200):mK (txtT b s).t:=by
 have hw:wr (txtT b s).t=34::(fU s++34::[]):=rfl;unfold mK
 rw[hw,readR_escS s [] h]
 simp
 exact⟨rfl,rfl,rfl⟩
def wZ (t:Tok):Bool:=decide (t.kind=4)&&(decide (t.text=[40])||decide (t.text=[46])||decide (t.text=[47])||decide (t.text=[64])||decide (t.text=[45]))
def mZ:aBs→Bool
 | []=>true
 | c::_=>!cJ c&&decide (c≠61)
def okB (b:aBs):Bool:=decide (b=[]∨b=[32]∨b=[10]∨b=[10,32,32])
def Flow:Bool→List Pc→Prop
 | _,[]=>True
 | o,p::r=>mK p.t∧okB p.b=true∧(o=true∨mZ (fL p)=true)∧Flow (wZ p.t) r
theorem Flow.mono {o:Bool}{l:List Pc}(h:Flow false l):Flow o l:=by
 cases l with
 | nil=>trivial
 | cons p r=>exact⟨h.1,h.2.1,h.2.2.1.elim (fun e=>by cases e) .inr,h.2.2.2⟩
theorem Flow.app {b:List Pc}(hb:Flow false b):∀ {o:Bool}{a:List Pc},Flow o a→Flow o (a++b)
 | _,[],_=>hb.mono
 | _,p::r,h=>⟨h.1,h.2.1,h.2.2.1,Flow.app hb h.2.2.2⟩
theorem readR_start {l w:aBs}{k n:Int}{x:aBs}(h:dQ l=.tok k x n l.length)(hw:mZ w=true):dQ (l++w)=.tok k x n l.length:=by
 refine readR_cong h (by rw[List.take_left,List.take_length]) fun c hc=>?_
 rw[List.getElem?_append_right (aDg _),Nat.sub_self]at hc
 cases w with
 | nil=>cases hc
 | cons d r =>
  cases hc
  simp only[mZ,aC8,aDs]at hw
  exact .inr ⟨hw.1,of_decide_eq_true hw.2⟩
theorem open_cases {t:Tok}(h:wZ t=true):t.kind=4∧(t.text=[40]∨t.text=[46]∨t.text=[47]∨t.text=[64]∨t.text=[45]):=by
 simp only[wZ,aC8,aDR,decide_eq_true_eq]at h
 exact⟨h.1,by rcases h.2 with (((h|h)|h)|h)|h<;>simp[h]⟩
theorem readR_open {t:Tok}(hg:mK t)(h:wZ t=true)(w:aBs):dQ (wr t++w)=.tok t.kind t.text t.num (wr t).length:=by
 obtain⟨h4,h⟩:=open_cases h
 obtain⟨k,x,n,i⟩:=t
 have h4:k=4:=h4;subst h4;have hw:wr ⟨4,x,n,i⟩=x:=rfl;unfold mK at hg
 rw[hw]at hg ⊢
 have hn:∀ c:UInt8,x=[c]→cP c=false→bU c=false→c.toNat≠34→c≠33→c≠60→c∈xU→dQ (x++w)=.tok 4 x n x.length:=by
  rintro c rfl l1 l2 l3 l4 l5 l6;have s1:∀ r,sJ (c::r)=1:=fun r=>by rw[uZ,if_neg (by rintro⟨_,e|e⟩<;>contradiction),if_pos l6]
  rw[gH l1 l2 l3,s1,if_neg (by decide)]at hg
  have hn:(0:Int)=n:=by injection hg
  subst hn;show dQ (c::w)=_
  rw[gH l1 l2 l3,s1,if_neg (by decide)]
  rfl
 rcases h with h|h|h|h|h<;>exact hn _ h (by decide) (by decide) (by decide) (by decide) (by decide) (by decide)
theorem fJ.nl {l:aBs}{i:Nat}{r:Except (Int×Nat) (List Tok)}(h:fJ l (i+1) r):fJ (10::l) i r:=by
 unfold fJ at h ⊢
 rw[gapF_nl,Nat.add_comm 1,List.drop_succ_cons]
 rwa [show i+1+cH false l=i+(cH false l+1) by omega]at h
theorem fJ.before {b l:aBs}{i:Nat}{r:Except (Int×Nat) (List Tok)}(hb:okB b=true)(h:fJ l (i+b.length) r):fJ (b++l) i r:=by
 rcases of_decide_eq_true hb with rfl|rfl|rfl|rfl
 ·exact h
 ·exact fJ.blank h
 ·exact fJ.nl h
 ·exact fJ.nl (fJ.blank (fJ.blank h))
def zP:List Pc→Nat→List Tok
 | [],_=>[]
 | p::r,i=>⟨p.t.kind,p.t.text,p.t.num,i+p.b.length⟩::zP r (i+(fL p).length)
theorem flow_lex {w:aBs}(hw:mZ w=true) {us:List Tok}:∀ {o:Bool}(ps:List Pc)(i:Nat),Flow o ps→fJ w (i+(bG ps).length) (.ok us)→fJ (bG ps++w) i (.ok (zP ps i++us))
 | _,[],i,_,h=>h
 | _,p::r,i,⟨h1,h2,_,h4⟩,h=>by
  have e:bG (p::r)=p.b++(wr p.t++bG r):=by simp[bG,fL]
  have ih:=flow_lex hw r (i+(fL p).length) h4 (by simpa[bG,Nat.add_assoc] using h)
  rw[e,aC9,aC9]
  refine fJ.before h2 ?_;have hR:dQ (wr p.t++(bG r++w))=.tok p.t.kind p.t.text p.t.num (wr p.t).length:=by
   cases ho:wZ p.t with
   | true=>exact readR_open h1 ho _
   | false =>
    refine readR_start h1 ?_;cases r with
    | nil=>exact hw
    | cons q r =>
     rw[ho]at h4
     have hs:=h4.2.2.1.resolve_left (by simp);have e:bG (q::r)=fL q++bG r:=by simp[bG]
     rw[e,aC9]
     cases hq:fL q with
     | nil =>
      have h0:=(jT h4.1).1;have h0':(wr q.t).length=0:=by
       have:=congrArg List.length hq
       simp[fL]at this
       simp[this.2]
      omega
     | cons c l =>
      rw[hq]at hs
      exact hs
  have:=fJ.first hR (i:=i+p.b.length) (r:=.ok (zP r (i+(fL p).length)++us)) (by
   rw[List.drop_left]
   rw[show i+p.b.length+(wr p.t).length=i+(fL p).length by simp[fL];omega]
   exact ih)
  exact this
def aBj:List (List Pc)→Nat→List Tok
 | [],_=>[]
 | l::r,i=>zP l i++aBj r (i+(gC l).length)
theorem vR:∀(ls:List (List Pc))(i:Nat),(∀ l∈ls,Flow true l)→fJ (kJ ls) i (.ok (aBj ls i))
 | [],i,_=>fJ.all rfl i
 | l::r,i,h=>by
  have ih:=vR r (i+(gC l).length) (fun x hx=>h x (by simp[hx]));have e:kJ (l::r)=bG l++(10::kJ r):=by simp[kJ,gC]
  rw[e]
  refine flow_lex rfl l i (h l (by simp)) (fJ.nl ?_)
  rw[show i+(bG l).length+1=i+(gC l).length by simp[gC];omega]
  exact ih
theorem aBh:∀(l:List Pc)(i:Nat),(zP l i).length=l.length
 | [],_=>rfl
 | p::r,i=>by simp[zP,aBh r]
theorem aBi:∀(ls:List (List Pc))(i:Nat),(aBj ls i).length=nN ls
 | [],_=>rfl
 | l::r,i=>by simp[aBj,aBh,aBi r,nN]
theorem offsP_te:∀(l:List Pc)(i:Nat),TE (fun _ _=>True) (aX l) (zP l i)
 | [],_=>.nil
 | _::r,i=>.cons ⟨rfl,rfl,rfl,trivial⟩ (offsP_te r _)
theorem bW {n:Int}(h:nZ n=true):(Lib.itoa n).length≤10:=by
 obtain⟨h0,h1⟩:=of_decide_eq_true h
 obtain⟨k,rfl⟩:=Int.eq_ofNat_of_zero_le h0
 have e:Lib.itoa (k:Int)=Lib.decDigits k:=by
  unfold Lib.itoa
  rw[if_neg (by omega)]
  simp
 rw[e,Lib.decDigits_length]
 exact zS 9 k (by omega)
section
variable {g : FuncId} {args s : aVs} {B : Base} {L : List Item} {b i : Nat} {p v : Value} {k : Int} {bs : aBs} {h : Heap} {K : KK} {Q : QQ}
theorem aH {c:Nat}(ls:List aBs)(m M:Nat)(js:List Nat)(o:Own B L h)(e:pick L [0,1]=[box b [p,v,.int .i64 k] 58,row v 5 1 bs.length (bytes bs)])
  (ei:pick L [i]=[box c (strs ls) 9]) (hd:dst ([0,1,i]++js)=true) (hp:cO b p) (hm:ls.length=m) (hl:bs.length≤100000000000000) (hk:0≤k∧k≤100000000000000) (hs:∀ s∈ls,s.length≤M) (hM:M≤1000) (hm2:m≤100)
  (hret:∀ p' v' bs' k' h',cO b p'→bs'=bs++ls.flatten→k'=k+m→bs'.length≤bs.length+M*m→Own B (box b [p',v',.int .i64 k'] 58::row v' 5 1 bs'.length (bytes bs')::pick L js) h'→K (.tuple #[]) false h') :
  CallVC Tryz.prog 31 [.pointer (some ⟨b,0,none⟩),.slice (some ⟨c,0,none⟩) m m] s h K Q:=by
 subst hm;have o1:=o.lend [0,1] (i::js) hd
 rw[e]at o1
 have ei2:pick L (i::js)=box c (strs ls) 9::pick L js:=by
  have:=lK L [i] js
  rw[ei]at this
  exact this
 rw[ei2]at o1
 have hK:rU ⟨B.h,(box c (strs ls) 9::pick L js)++B.T⟩ (.slice (some ⟨c,0,none⟩) ls.length ls.length) ls:=fun L h o=>by
  have hs:(box c (strs ls) 9).sat h:=OwnR.sat o _ (by simp)
  exact(wF (sz:=1) (by simp[strs]) (aDg _) h hs).to1
 have hfl:∀ l:List aBs,(∀ s∈l,s.length≤M)→l.flatten.length≤M*l.length:=by
  intro l
  induction l with
  | nil=>intro _;simp
  | cons x l ih =>
   intro h;have h1:=h x (by simp);have h2:=ih fun s hs=>h s (by simp[hs])
   simp only[List.flatten_cons,aDa,aDb,Nat.mul_add,Nat.mul_one]
   omega
 have hfl:=hfl ls hs;refine aCT (put_spec _ b p v k bs ls _ h hp hK o1 hl (fun s hs'=>aDk (hs s hs') hM) hm2 hk) ?_;rintro _ h' ⟨rfl,p',v',hp',o2⟩;exact hret p' v' (bs++ls.flatten) _ h' hp' rfl rfl (by rw[aDa];omega) (o2.back.sel (0::1::List.range' 3 (pick L js).length) (by
  have:∀ n k,2≤k→dst (0::1::List.range' k n)=true:=fun n k hk=>lA (n:=k) [0,1] rfl (by intro j hj;simp at hj;omega)
  exact this _ _ (by omega)) |> fun o=>by
   have e:pick ([box b [p',v',.int .i64 (k+ls.length)] 58,row v' 5 1 (bs++ls.flatten).length (bytes (bs++ls.flatten))]++box c (strs ls) 9::pick L js) (0::1::List.range' 3 (pick L js).length) =
     box b [p',v',.int .i64 (k+ls.length)] 58::row v' 5 1 (bs++ls.flatten).length (bytes (bs++ls.flatten))::pick L js:=by
    have:=qV [box b [p',v',.int .i64 (k+ls.length)] 58,row v' 5 1 (bs++ls.flatten).length (bytes (bs++ls.flatten)),box c (strs ls) 9] (pick L js) (pick L js).length (aDg _)
    simp only[aDb,aDn,Nat.sub_self,aDW,List.drop_zero]at this
    simp only[pick,lcA,lnA,lgS,lgZ]
    exact congrArg (fun z=>_::_::z) this
   rwa [e]at o)
theorem WEnds.callJ {c:Nat}{opt:Option (List Pc)}(js:List Nat)(o:Own B L h)(e:pick L [0,1]=[box b [p,v,.int .i64 k] 58,row v 5 1 bs.length (bytes bs)])(hd:dst ([0,1]++js)=true)
  (sp:∀ J,Own ⟨B.h,J++B.T⟩ [box b [p,v,.int .i64 k] 58,row v 5 1 bs.length (bytes bs)] h→Spec Tryz.prog g args h (WEnds ⟨B.h,J++B.T⟩ b bs k c opt))
  (hret:∀ ps p' v' bs' k' h',opt=some ps→cO b p'→bs'=bs++bG ps→k'=k+ps.length→bs'.length≤bs.length+c→k≤k'→k'≤k+c→Own B (box b [p',v',.int .i64 k'] 58::row v' 5 1 bs'.length (bytes bs')::pick L js) h'→K (.tuple #[]) false h')
  (hpan:∀ h',opt=none→Own B [] h'→Q (.panic wG) s h'):CallVC Tryz.prog g args s h K Q:=by
 have o1:=o.lend [0,1] js hd
 rw[e]at o1
 exact WEnds.call (sp _ o1) (fun ps p' v' h' h1 h2 h3 h4 o2=>hret ps p' v' (bs++bG ps) _ h' h1 h2 rfl rfl (by rw[aDa];omega) (by omega) (by omega) o2.back) (fun h' h1 o2=>hpan h' h1 (o2.back.sel [] rfl))
theorem StillVC.aCh {ok:Bool}{r:Value}(o:Own B L h)(sp:Spec Tryz.prog g args h (MEnds h ok r))(hret:ok=true→∀ h',Own h [] h'→Own B L h'→K r false h')(hpan:ok=false→∀ h',Own B [] h'→Q (.panic wG) s h'):CallVC Tryz.prog g args s h K Q :=
 aC2 sp (fun e h' o'=>hret e h' o' (o.ext' o')) (fun e h' o'=>hpan e h' ((o.ext' o').sel [] rfl))
theorem StillVC.aC1 {c:Nat}{opt:Option (List Pc)}{ps:List Pc}{bs':aBs}{k':Int}(hq:opt=some ps)(o:Own B [box b [p,v,.int .i64 k'] 58,row v 5 1 bs'.length (bytes bs')] h)(hp:cO b p)(hb:bs'=bs++bG ps)(hk:k'=k+ps.length)
  (hc:bs'.length≤bs.length+c) (hc2:k'≤k+c):WEnds B b bs k c opt (.returned (.tuple #[])) h:=by
 subst hb;subst hk
 rw[aDa]at hc
 exact⟨ps,p,v,hq,rfl,hp,by omega,by omega,o⟩
end
theorem aA {b s:aBs}(h:eW s=true):aZ b s=some [aD b s]:=by unfold aZ;rw[if_pos h]
theorem cS {b s:aBs}(h:eW s=false):aZ b s=none:=by unfold aZ;rw[if_neg (by rw[h];decide)]
theorem aB {b:aBs}{n:Int}(h:nZ n=true):iD b n=some [bP b n]:=by unfold iD;rw[if_pos h]
theorem cY {b:aBs}{n:Int}(h:nZ n=false):iD b n=none:=by unfold iD;rw[if_neg (by rw[h];decide)]
theorem cR {s:aBs}(h:eW s=true):s.length≤24:=((iK s).1 h).2.1
theorem sS (b off:Nat)(x:Int)(h:Heap)(hc:aY h ⟨b,off,none⟩=some (.int .u32 x)) :
  bZ Tryz.prog 172 [.pointer (some ⟨b,off,none⟩)] h fun r h'=>r=.bool (!decide (x=0))∧h'=h:=by
 refine aCV Tryz.func172 rfl Tryz.ntmps172 (by kernel_rfl) ?_;refine rR (nC rfl ?_);refine rR (fA st210 rfl rfl rfl ?_);refine CallVC.ext (XSpec.load Tryz.func179 (by kernel_rfl) (by kernel_rfl) (by kernel_rfl) .u32 (by kernel_rfl) hc) ?_;rintro _ hx ⟨rfl,rfl⟩;refine aCX rfl ?_
 exact⟨rfl,rfl⟩
theorem ilock_spec (B:Base)(b off:Nat)(cs:aVs)(t:TypeId)(h:Heap)(o0:Own B [box b cs t] h)(hc:cs[off]?=some (.int .i32 0)) :
  bZ Tryz.prog 189 [.pointer (some ⟨b,off,none⟩)] h fun r h'=>r=.tuple #[]∧Own B [box b (cs.set off (.int .i32 1)) t] h':=by
 have hlt:off<cs.length:=(aC6.1 hc).1;have hc1:(cs.set off (.int .i32 1))[off]?=some (.int .i32 1):=by simp[hlt]
 refine aCV Tryz.func189 rfl Tryz.ntmps189 (by kernel_rfl) ?_;refine CallVC.ext (XSpec.mark0 Tryz.func200 (by kernel_rfl) (by kernel_rfl) (by kernel_rfl) .disable (by kernel_rfl)) ?_;rintro _ hx ⟨rfl,rfl⟩;refine rR (nC rfl ?_);refine rR (fA st212 rfl rfl rfl ?_);refine CallVC.ext (XSpec.cas Tryz.func201 (by kernel_rfl) (by kernel_rfl) (by kernel_rfl) .i32 (by kernel_rfl) o0 0 rfl hc) ?_;rintro _ h2 ⟨rfl,o2⟩;refine aCQ ?_;refine aCQ ?_;refine CallVC.ext (XSpec.mark0 Tryz.func202 (by kernel_rfl) (by kernel_rfl) (by kernel_rfl) .enable (by kernel_rfl)) ?_;rintro _ hx ⟨rfl,rfl⟩;refine rR (toUnsafe (e:=212) (by kernel_rfl) (by kernel_rfl) (by kernel_rfl) rfl ((o2.cellB 0 rfl _).trans hc1) ?_);refine CallVC.ext (XSpec.marked Tryz.func203 (by kernel_rfl) (by kernel_rfl) (by kernel_rfl) .acquire (by kernel_rfl) _) ?_;rintro _ hx ⟨rfl,rfl⟩;refine aCY rfl ?_
 exact⟨rfl,o2⟩
theorem lock_spec (B:Base)(b off:Nat)(cs:aVs)(t:TypeId)(h:Heap)(o0:Own B [box b cs t] h)(hc:cs[off]?=some (.int .i32 0)) :
  bZ Tryz.prog 180 [.pointer (some ⟨b,off,none⟩)] h fun r h'=>r=.tuple #[]∧Own B [box b (cs.set off (.int .i32 1)) t] h':=by
 refine aCV Tryz.func180 rfl Tryz.ntmps180 (by kernel_rfl) ?_;refine rR (nC rfl ?_);refine rR (fA st214 rfl rfl rfl ?_);refine aCT (ilock_spec B b off cs t _ o0 hc) ?_;rintro _ h2 ⟨rfl,o2⟩;refine aCY rfl ?_
 exact⟨rfl,o2⟩
theorem aB1 (B:Base)(b off:Nat)(cs:aVs)(t:TypeId)(h:Heap)(o0:Own B [box b cs t] h)(hc:cs[off]?=some (.int .i32 1)) :
  bZ Tryz.prog 190 [.pointer (some ⟨b,off,none⟩)] h fun r h'=>r=.tuple #[]∧Own B [box b (cs.set off (.int .i32 0)) t] h':=by
 have hcell:=(o0.cellB 0 rfl off).trans hc;refine aCV Tryz.func190 rfl Tryz.ntmps190 (by kernel_rfl) ?_;refine aCQ ?_;refine rR (nC rfl ?_);refine rR (fA st212 rfl rfl rfl ?_);refine rR (aCc o0 0 rfl ty21 rfl ‹_› ?_);refine rR (toUnsafe (e:=212) (by kernel_rfl) (by kernel_rfl) (by kernel_rfl) rfl hcell ?_);refine CallVC.ext (XSpec.marked Tryz.func205 (by kernel_rfl) (by kernel_rfl) (by kernel_rfl) .releaseMerge (by kernel_rfl) _) ?_;rintro _ hx ⟨rfl,rfl⟩;refine CallVC.ext (XSpec.mark0 Tryz.func200 (by kernel_rfl) (by kernel_rfl) (by kernel_rfl) .disable (by kernel_rfl)) ?_;rintro _ hx ⟨rfl,rfl⟩;refine rR (nC rfl ?_);refine rR (fA st212 rfl rfl rfl ?_);refine CallVC.ext (XSpec.add Tryz.func206 (by kernel_rfl) (by kernel_rfl) (by kernel_rfl) .i32 (by kernel_rfl) o0 0 rfl hc) ?_;rintro _ h2 ⟨rfl,o2⟩;refine aCR ?_;refine CallVC.ext (XSpec.mark0 Tryz.func202 (by kernel_rfl) (by kernel_rfl) (by kernel_rfl) .enable (by kernel_rfl)) ?_;rintro _ hx ⟨rfl,rfl⟩;refine aCY rfl ?_
 exact⟨rfl,o2⟩
theorem unlock_spec (B:Base)(b off:Nat)(cs:aVs)(t:TypeId)(h:Heap)(o0:Own B [box b cs t] h)(hc:cs[off]?=some (.int .i32 1)) :
  DSpec Tryz.prog 181 [.pointer (some ⟨b,off,none⟩)] h (Ret fun r h'=>r=.tuple #[]∧Own B [box b (cs.set off (.int .i32 0)) t] h'):=by
 refine DSpec.enter Tryz.func181 rfl (n:=6) (by kernel_rfl) (by kernel_rfl) ?_;refine rR (nC rfl ?_);refine rR (fA st214 rfl rfl rfl ?_);refine aCT (aB1 B b off cs t _ o0 hc) ?_;rintro _ h2 ⟨rfl,o2⟩;refine aCY rfl ?_
 exact⟨rfl,o2⟩
theorem b32_spec (h:Heap):bZ Tryz.prog 192 [.bool true] h fun r h'=>r=.int .u32 1∧h'=h:=by
 refine aCV Tryz.func192 rfl Tryz.ntmps192 (by kernel_rfl) ?_;refine aCQ ?_;refine aCX rfl ?_
 exact⟨rfl,rfl⟩
theorem aAD (B:Base)(b off:Nat)(cs:aVs)(t:TypeId)(u:Value)(h:Heap)(o0:Own B [box b cs t] h)(hc:cs[off]?=some u) :
  DSpec Tryz.prog 182 [.pointer (some ⟨b,off,none⟩),.bool true] h (Ret fun r h'=>r=.tuple #[]∧Own B [box b (cs.set off (.int .u32 1)) t] h'):=by
 refine DSpec.enter Tryz.func182 rfl (n:=10) (by kernel_rfl) (by kernel_rfl) ?_;refine aCS [0,1,2,3] [] [4,5] [0,1,2,3,4,5] mixed (by kernel_rfl) rfl (fun _ _ _ _ h=>h) ?_;refine nC rfl ?_;refine fA st210 rfl rfl rfl ?_;refine aCT (b32_spec _) ?_;rintro _ hx ⟨rfl,rfl⟩;refine CallVC.ext (XSpec.store Tryz.func191 (by kernel_rfl) (by kernel_rfl) (by kernel_rfl) (by kernel_rfl) o0 0 rfl hc) ?_;rintro _ h2 ⟨rfl,o2⟩;refine aCY rfl ?_
 exact⟨rfl,o2⟩
theorem Own.lend1 {B:Base}{x:Item}{L2:List Item}{h:Heap}(o:Own B (x::L2) h):Own ⟨B.h,L2++B.T⟩ [x] h:=o
theorem Own.back1 {B:Base}{x:Item}{L2:List Item}{h:Heap}(o:Own ⟨B.h,L2++B.T⟩ [x] h):Own B (x::L2) h:=o
def pA (b o:Nat):Value:=.pointer (some ⟨b,o,none⟩)
theorem slow_spec (B:Base)(b:Nat)(cs:aVs)(F:aVs→List Item→Prop)(t:TypeId)(g:FuncId)(first cap:aVs)(h:Heap)(o0:Own B [box b cs t] h)
  (c0:cs[0]?=some (.int .u32 0)) (c1:cs[1]?=some (.int .i32 0))
  (hf:∀ h',Own B [box b (cs.set 1 (.int .i32 1)) t] h'→bZ Tryz.prog g (first++cap) h' fun v h''=>v=.tuple #[]∧∃ cs2 L2,F cs2 L2∧cs2[0]?=some (.int .u32 0)∧cs2[1]?=some (.int .i32 1)∧Own B (box b cs2 t::L2) h'') :
  bZ Tryz.prog 173 [pA b 0,.func (.func g) ⟨first⟩ ⟨cap⟩] h fun v h'=>v=.tuple #[]∧∃ cs2 L2,F cs2 L2∧Own B (box b ((cs2.set 0 (.int .u32 1)).set 1 (.int .i32 0)) t::L2) h':=by
 have hd:(cs.set 1 (.int .i32 1))[0]?=some (.int .u32 0):=by
  rw[aDM (by omega)];exact c0
 refine⟨⟨_,Tryz.func173,rfl,by kernel_rfl⟩,fun w hw=>?_⟩
 subst hw;refine calls_of_wp_defers (R:=fun e w'=>Same w w'∧Ret (fun v h'=>v=.tuple #[]∧∃ cs2 L2,F cs2 L2∧Own B (box b ((cs2.set 0 (.int .u32 1)).set 1 (.int .i32 0)) t::L2) h') e w'.heap) Tryz.func173 rfl ?_;have he:({ tmps:=[pA b 0,.func (.func g) ⟨first⟩ ⟨cap⟩].toArray++Array.replicate (21 - [pA b 0,.func (.func g) ⟨first⟩ ⟨cap⟩].toArray.size) undef,defers:=[] }:Act) =
   act [pA b 0,.func (.func g) ⟨first⟩ ⟨cap⟩,undef,undef,undef,undef,undef,undef,undef,undef,undef,undef,undef,undef,undef,undef,undef,undef,undef,undef,undef] []:=by
  simp[act,List.replicate]
 refine he▸?_;refine wp_seq (wp_mono (dK (w0:=w) (ds:=[]) _ (fun e s' h'=>e=.normal∧s'=[pA b 0,.func (.func g) ⟨first⟩ ⟨cap⟩,undef,undef,pA b 0,pA b 0,pA b 1,.tuple #[],undef,undef,undef,undef,undef,undef,undef,undef,undef,undef,undef,undef,undef]∧Own B [box b (cs.set 1 (.int .i32 1)) t] h') _ w (.refl w) ?_) ?_)
 ·refine rR (nC rfl ?_)
  refine rR (fA st216 rfl rfl rfl ?_);refine aCT (lock_spec B b 1 cs t _ o0 c1) ?_;rintro _ h2 ⟨rfl,o2⟩
  exact⟨rfl,rfl,o2⟩
 rintro e a w1 ⟨s1,rfl,hs1,rfl,rfl,o1⟩;refine wp_seq (qF (o:=0) st216 rfl rfl rfl (by decide) (by decide) (by decide) (by simp) (by simp) ?_);refine wp_seq (wp_mono (dK (w0:=w) _ (fun e s' h'=>e=.normal∧s'=[pA b 0,.func (.func g) ⟨first⟩ ⟨cap⟩,undef,undef,pA b 0,pA b 0,pA b 1,.tuple #[],pA b 0,pA b 0,pA b 1,pA b 0,pA b 0,pA b 0,.bool false,.bool true,undef,undef,undef,undef,undef]∧Own B [box b (cs.set 1 (.int .i32 1)) t] h') _ w1 hs1 ?_) ?_)
 ·refine rR (nC rfl ?_)
  refine rR (fA st216 rfl rfl rfl ?_);refine aCT (sS b 0 0 _ ((o1.cellB 0 rfl 0).trans hd)) ?_;rintro _ h2 ⟨rfl,rfl⟩
  exact⟨rfl,rfl,o1⟩
 rintro e a w2 ⟨s2,rfl,hs2,rfl,rfl,o2⟩;refine wp_cond_split (t:=true) rfl (fun _=>?_) (fun h=>by cases h);refine wp_seq (qF (o:=0) st216 rfl rfl rfl (by decide) (by decide) (by decide) (by simp) (by simp) ?_);refine wp_mono (dK (w0:=w) _ (fun e s' h'=>e=.normal∧∃ cs2 L2,F cs2 L2∧cs2[0]?=some (.int .u32 0)∧cs2[1]?=some (.int .i32 1)∧Own B (box b cs2 t::L2) h') _ w2 hs2 ?_) ?_
 ·refine aC0 ?_
  refine aCT (hf _ o2) ?_;rintro _ h3 ⟨rfl,o3⟩
  exact⟨rfl,o3⟩
 rintro e a w3 ⟨s3,rfl,hs3,rfl,cs2,L2,hF,d0,d1,o3⟩;have e1:(cs2.set 0 (.int .u32 1))[1]?=some (.int .i32 1):=by
  rw[aDM (by omega)];exact d1
 refine xI (args:=[pA b 0,.bool true]) (aAD _ b 0 cs2 t _ _ o3.lend1 d0) ?_;rintro _ w4 hs4 ⟨rfl,o4⟩;refine xI (args:=[pA b 1]) (unlock_spec _ b 1 _ t _ o4 e1) ?_;rintro _ w5 hs5 ⟨rfl,o5⟩
 exact⟨_,results_none rfl _ _ _,(hs3.trans hs4).trans hs5,rfl,cs2,L2,hF,o5.back1⟩
theorem do_spec (B:Base)(b:Nat)(cs:aVs)(F:aVs→List Item→Prop)(t:TypeId)(g:FuncId)(first cap:aVs)(h:Heap)(o0:Own B [box b cs t] h)
  (c0:cs[0]?=some (.int .u32 0)) (c1:cs[1]?=some (.int .i32 0))
  (hf:∀ h',Own B [box b (cs.set 1 (.int .i32 1)) t] h'→bZ Tryz.prog g (first++cap) h' fun v h''=>v=.tuple #[]∧∃ cs2 L2,F cs2 L2∧cs2[0]?=some (.int .u32 0)∧cs2[1]?=some (.int .i32 1)∧Own B (box b cs2 t::L2) h'') :
  bZ Tryz.prog 165 [pA b 0,.func (.func g) ⟨first⟩ ⟨cap⟩] h fun v h'=>v=.tuple #[]∧∃ cs2 L2,F cs2 L2∧Own B (box b ((cs2.set 0 (.int .u32 1)).set 1 (.int .i32 0)) t::L2) h':=by
 refine aCV Tryz.func165 rfl Tryz.ntmps165 (by kernel_rfl) ?_;refine rR (nC rfl ?_);refine rR (fA st216 rfl rfl rfl ?_);refine aCT (sS b 0 0 _ ((o0.cellB 0 rfl 0).trans c0)) ?_;rintro _ hx ⟨rfl,rfl⟩;refine aCQ ?_;refine aCT (slow_spec B b cs F t g first cap _ o0 c0 c1 hf) ?_;rintro _ h2 ⟨rfl,o2⟩;refine aCY rfl ?_
 exact⟨rfl,o2⟩
abbrev uE:Value:=.slice none 0 0
def aBG:aVs:=List.replicate 257 uE
theorem ty249:TyI Tryz.prog 249 true aBG 6168:=.mk' (z:=.agg ⟨aBG⟩) Tryz.underlying249 rfl (by kernel_rfl) rfl
theorem gY:StructT Tryz.prog 249 [(0,256),(256,1)] [true,false] aBG:=.mk' (by kernel_rfl) ty249
theorem eA:ArrT Tryz.prog 247 52 256 uE 24:=⟨Tryz.underlying247,lR⟩
structure RepC (cs:aVs) (t:Value) (f:Nat→Value):Prop where
 len:cs.length=257
 last:cs[256]?=some t
 at_:∀ i,i<256→cs[i]?=some (f i)
theorem yG:aBG.length=257:=List.length_replicate
theorem zBSR_set (v:Value)(hv:v.oneCell'=true):(aBG.set 256 v).all (fun u=>u.oneCell')=true:=by
 refine aDh.2 fun u hu=>?_
 rcases List.mem_or_eq_of_mem_set hu with h|rfl
 ·rw[List.eq_of_mem_replicate h];rfl
 ·exact hv
theorem RepC.start (t:Value):RepC (aBG.set 256 t) t (fun _=>uE) where
 len:=by rw[List.length_set];exact yG
 last:=List.getElem?_set_self (by rw[yG];omega)
 at_ i hi:=by
  rw[aDM (by omega),aBG,List.getElem?_replicate,if_pos (by omega)]
def aBU (f:Nat→Value)(i:Nat)(v:Value):Nat→Value:=fun j=>if j=i then v else f j
theorem RepC.setT {cs:aVs}{t t':Value}{f:Nat→Value}(r:RepC cs t f):RepC (cs.set 256 t') t' f where
 len:=by simp[r.len]
 last:=by simp[r.len]
 at_ i hi:=by rw[aDM (by omega)];exact r.at_ i hi
theorem RepC.setV {cs:aVs}{t v:Value}{f:Nat→Value}(r:RepC cs t f)(i:Nat)(hi:i<256):RepC (cs.set i v) t (aBU f i v) where
 len:=by simp[r.len]
 last:=by rw[aDM (by omega)];exact r.last
 at_ j hj:=by
  unfold aBU;by_cases h:j=i
  ·subst h;rw[if_pos rfl];exact List.getElem?_set_self (by rw[r.len];omega)
  ·rw[aDM (Ne.symm h),if_neg h];exact r.at_ j hj
def gW (l:aBs):Value:=.string ⟨⟨l⟩⟩
def fX:aVs:=[gW [34],gW [92,34],gW [92],gW [92,92],gW [10],gW [92,110]]
def aBT (v w x:Value):Nat→Value:=aBU (aBU (aBU (fun _=>uE) 10 v) 92 w) 34 x
theorem build_spec (B:Base)(b:Nat)(d st se r:Value)(a:Option Addr)(c:Nat)(h:Heap)
  (o0:Own B [box b [d,st,se,r,.slice a 6 c] 220,row (.slice a 6 c) 9 1 6 fX] h) :
  bZ Tryz.prog 174 [pA b 0] h fun res h'=>∃ rb cs t v w x,res=.iface 250 (pA rb 0)∧RepC cs t (aBT v w x) ∧
   Own B [box b [d,st,se,r,.slice a 6 c] 220,row (.slice a 6 c) 9 1 6 fX,box rb cs 249,row t 9 1 3 [gW [10],gW [92],gW [34]],ro v (bytes [92,110]),ro w (bytes [92,92]),ro x (bytes [92,34])] h':=by
 have hol:fX.length=6:=rfl;refine aCV Tryz.func174 rfl Tryz.ntmps174 (by kernel_rfl) ?_;refine rR (nC rfl ?_);refine rR (fA aA2 rfl rfl rfl ?_);refine rR (aCc o0 0 rfl eV rfl rfl ?_);refine rR (aCk rfl aK ?_);refine aCR ?_;refine aCR ?_;refine aCZ [2,4,5,37,38,39,40,41,42,43,44,45,46,47,48,49,50,51,52,53,54,55,56,57,58] [4,5] (fun vs hh=>(vs=[.bool true,.int .i64 0]∨vs=[.bool false,.int .i64 2]∨vs=[.bool false,.int .i64 4]∨vs=[.bool false,.int .i64 6])∧Own B [box b [d,st,se,r,.slice a 6 c] 220,row (.slice a 6 c) 9 1 6 fX] hh) (fun vs _=>match vs with|[_,.int _ i]=>6 - i.toNat|_=>0) ?_ ?_
 ·exact⟨.inl rfl,o0⟩
 ·rintro vs junk hh ⟨hv,oh⟩
  rcases hv with rfl|rfl|rfl|rfl
  ·refine rR (aCk rfl aK ?_)
   refine aCQ ?_;refine rR (idx aK aL (oh.rowArr 1 rfl) rfl (by omega) (by omega) ?_);refine rR (loadA (oh.rowArr 1 rfl) aL rfl (by first|assumption|rfl) ?_);refine rR (aCy rfl cT ?_);refine aCR ?_;refine aCW (by omega) (by omega) ?_;refine rR (idx aK aL (oh.rowArr 1 rfl) rfl (by omega) (by omega) ?_);refine rR (loadA (oh.rowArr 1 rfl) aL rfl (by first|assumption|rfl) ?_);refine rR (aCy rfl cT ?_);refine aCQ ?_;refine aCW (by omega) (by omega) ?_
   refine⟨rfl,?_⟩
   exact⟨⟨.inr (.inl rfl),oh⟩,by decide⟩
  ·refine rR (aCk rfl aK ?_)
   refine aCQ ?_;refine rR (idx aK aL (oh.rowArr 1 rfl) rfl (by omega) (by omega) ?_);refine rR (loadA (oh.rowArr 1 rfl) aL rfl (by first|assumption|rfl) ?_);refine rR (aCy rfl cT ?_);refine aCR ?_;refine aCW (by omega) (by omega) ?_;refine rR (idx aK aL (oh.rowArr 1 rfl) rfl (by omega) (by omega) ?_);refine rR (loadA (oh.rowArr 1 rfl) aL rfl (by first|assumption|rfl) ?_);refine rR (aCy rfl cT ?_);refine aCQ ?_;refine aCW (by omega) (by omega) ?_
   refine⟨rfl,?_⟩
   exact⟨⟨.inr (.inr (.inl rfl)),oh⟩,by decide⟩
  ·refine rR (aCk rfl aK ?_)
   refine aCQ ?_;refine rR (idx aK aL (oh.rowArr 1 rfl) rfl (by omega) (by omega) ?_);refine rR (loadA (oh.rowArr 1 rfl) aL rfl (by first|assumption|rfl) ?_);refine rR (aCy rfl cT ?_);refine aCR ?_;refine aCW (by omega) (by omega) ?_;refine rR (idx aK aL (oh.rowArr 1 rfl) rfl (by omega) (by omega) ?_);refine rR (loadA (oh.rowArr 1 rfl) aL rfl (by first|assumption|rfl) ?_);refine rR (aCy rfl cT ?_);refine aCQ ?_;refine aCW (by omega) (by omega) ?_
   refine⟨rfl,?_⟩
   exact⟨⟨.inr (.inr (.inr rfl)),oh⟩,by decide⟩
  ·refine rR (aCk rfl aK ?_)
   refine aCR ?_;refine aCR ?_;refine rR (aCk rfl aK ?_);refine rR (quoE rfl rfl (by omega) (by omega) (by simp[IntKind.max,IntKind.signed,IntKind.bits]<;>omega) ?_);(refine RunVC.make0 oh aK aL rfl rfl (by omega) (by omega) (by omega) ?_;intro v83 m83 o83);refine rR (aCl gY ?_)
   obtain⟨ta,tc,rfl⟩:=o83.rowIs 2 rfl
   refine⟨by rw[yG];rfl,?_⟩
   (refine aCN o83 ty249 ?_;intro b90 m90 o90);refine RunVC.storeAll (vs:=aBG.set 256 (.slice ta 0 tc)) ‹_› 3 rfl ty249 ?_ ?_ List.length_set rfl (zBSR_set (.slice ta 0 tc) rfl) ?_
   ·rfl
   ·rfl
   intro m91 o91;have hR:=RepC.start (.slice ta 0 tc);generalize aBG.set 256 (.slice ta 0 tc)=cs0 at *;refine rR (aCk rfl aK ?_);refine aCW (by omega) (by omega) ?_;refine aCZ [12,13,14,99,100,101,102,103,104,105,106,107,108,109,110,111,112,113,114,115,116,117,118,119,120,121,122,123,124,125,126,127,128,129,130] [12] (fun vs hh=>(vs=[.int .i64 4]∧∃(ta:Option Addr) (tc:Nat) (cs:aVs),RepC cs (.slice ta 0 tc) (fun _=>uE)∧Own B [box b [d,st,se,r,.slice a 6 c] 220,row (.slice a 6 c) 9 1 6 fX,box b90 cs 249,row (.slice ta 0 tc) 9 1 0 []] hh)∨(vs=[.int .i64 2]∧∃(ta:Option Addr) (tc:Nat) (cs:aVs) (v:Value),RepC cs (.slice ta 1 tc) (aBU (fun _=>uE) 10 v)∧Own B [box b [d,st,se,r,.slice a 6 c] 220,row (.slice a 6 c) 9 1 6 fX,box b90 cs 249,row (.slice ta 1 tc) 9 1 1 [gW [10]],ro v (bytes [92,110])] hh)∨(vs=[.int .i64 0]∧∃(ta:Option Addr) (tc:Nat) (cs:aVs) (v w:Value),RepC cs (.slice ta 2 tc) (aBU (aBU (fun _=>uE) 10 v) 92 w)∧Own B [box b [d,st,se,r,.slice a 6 c] 220,row (.slice a 6 c) 9 1 6 fX,box b90 cs 249,row (.slice ta 2 tc) 9 1 2 [gW [10],gW [92]],ro v (bytes [92,110]),ro w (bytes [92,92])] hh)∨(vs=[.int .i64 (-2)]∧∃(ta:Option Addr) (tc:Nat) (cs:aVs) (v w x:Value),RepC cs (.slice ta 3 tc) (aBT v w x)∧Own B [box b [d,st,se,r,.slice a 6 c] 220,row (.slice a 6 c) 9 1 6 fX,box b90 cs 249,row (.slice ta 3 tc) 9 1 3 [gW [10],gW [92],gW [34]],ro v (bytes [92,110]),ro w (bytes [92,92]),ro x (bytes [92,34])] hh)) (fun vs _=>match vs with|[.int _ i]=>(i+2).toNat|_=>0) ?_ ?_
   ·exact .inl ⟨rfl,ta,tc,cs0,hR,o91.sel [0,1,3,2] rfl⟩
   ·clear o91 hR
    rintro vs junk hh hI
    rcases hI with ⟨rfl,ta,tc,cs,hR,oh⟩|⟨rfl,ta,tc,cs,v,hR,oh⟩|⟨rfl,ta,tc,cs,v,w,hR,oh⟩|⟨rfl,ta,tc,cs,v,w,x,hR,oh⟩
    ·have e256:=hR.last
     have hlen:=hR.len;have p1:([10]:aBs)[(0:Int).toNat]?=some 10:=rfl;have p2:UInt8.toNat 10=10:=rfl;have eo:cs[10]?=some uE:=hR.at_ 10 (by omega);refine aCQ ?_;refine rR (idx aK aL (oh.rowArr 1 rfl) rfl (by omega) (by omega) ?_);refine rR (loadA (oh.rowArr 1 rfl) aL rfl (by first|assumption|rfl) ?_);refine rR (aCu rfl rfl cT (by omega) ‹_› ?_);refine aCW (by omega) (by omega) ?_;refine rR (idx aK aL (oh.rowArr 1 rfl) rfl (by omega) (by omega) ?_);refine rR (loadA (oh.rowArr 1 rfl) aL rfl (by first|assumption|rfl) ?_);refine rR (fA gY rfl rfl rfl ?_);refine rR (aCw eA.arr eA.el rfl rfl (by omega) (by omega) ?_);refine rR (aCc oh 2 rfl lR rfl ‹_› ?_);refine rR (eqNil fT rfl rfl ?_);refine aCQ ?_;refine rR (fA gY rfl rfl rfl ?_);refine rR (aCc oh 2 rfl eV rfl ‹_› ?_);(refine aCM oh fT ty5 rfl rfl (by decide) (aI rfl ?_);intro b121 m121 o121);refine rR (aCI (l:=[10]) (Own.boxArr ‹_› 4 rfl rfl (by decide)) fT int5 cT ?_);(refine aCM o121 aK aL rfl rfl (by decide) (aI rfl ?_);intro b130 m130 o130);refine aCO ‹_› 3 rfl aK aL (by decide) ((Own.boxArr ‹_› 5 rfl (n:=1) (c:=1) rfl (by decide)).toN) (by simp[Value.oneCell',gW]) (by simp[maxLen]) (by simp) ?_;intro v132 m132 o132
     obtain⟨tb,td,rfl⟩:=o132.rowIs 3 rfl
     refine rR (fA gY rfl rfl rfl ?_);(refine aCL o132 2 rfl eV rfl (by simp only[aDb,aDn,aDp];omega) (aI ⟨rfl,rfl⟩ ?_);intro m134 o134);(refine RunVC.strBytes o134 cT fT int5 rfl ?_;intro v135 m135 o135);refine rR (fA gY rfl rfl rfl ?_);refine rR (aCw eA.arr eA.el rfl rfl (by omega) (by omega) ?_)
     obtain⟨ra,rc,rfl,-⟩:=o135.roArr 6 rfl
     (refine aCL o135 2 rfl lR rfl (by first|omega|(simp;omega)) (aI ⟨rfl,rfl⟩ ?_);intro m143 o143);refine aCW (by omega) (by omega) ?_
     refine⟨rfl,?_⟩
     exact⟨.inr (.inl ⟨rfl,tb,td,_,_,(hR.setT (t':=.slice tb 1 td)).setV 10 (by omega),Own.sel ‹_› [0,1,2,3,6] rfl⟩),by decide⟩
    ·have e256:=hR.last
     have hlen:=hR.len;have p1:([92]:aBs)[(0:Int).toNat]?=some 92:=rfl;have p2:UInt8.toNat 92=92:=rfl;have eo:cs[92]?=some uE:=hR.at_ 92 (by omega);refine aCQ ?_;refine rR (idx aK aL (oh.rowArr 1 rfl) rfl (by omega) (by omega) ?_);refine rR (loadA (oh.rowArr 1 rfl) aL rfl (by first|assumption|rfl) ?_);refine rR (aCu rfl rfl cT (by omega) ‹_› ?_);refine aCW (by omega) (by omega) ?_;refine rR (idx aK aL (oh.rowArr 1 rfl) rfl (by omega) (by omega) ?_);refine rR (loadA (oh.rowArr 1 rfl) aL rfl (by first|assumption|rfl) ?_);refine rR (fA gY rfl rfl rfl ?_);refine rR (aCw eA.arr eA.el rfl rfl (by omega) (by omega) ?_);refine rR (aCc oh 2 rfl lR rfl ‹_› ?_);refine rR (eqNil fT rfl rfl ?_);refine aCQ ?_;refine rR (fA gY rfl rfl rfl ?_);refine rR (aCc oh 2 rfl eV rfl ‹_› ?_);(refine aCM oh fT ty5 rfl rfl (by decide) (aI rfl ?_);intro b161 m161 o161);refine rR (aCI (l:=[92]) (Own.boxArr ‹_› 5 rfl rfl (by decide)) fT int5 cT ?_);(refine aCM o161 aK aL rfl rfl (by decide) (aI rfl ?_);intro b180 m180 o180);refine aCO ‹_› 3 rfl aK aL (by decide) ((Own.boxArr ‹_› 6 rfl (n:=1) (c:=1) rfl (by decide)).toN) (by simp[Value.oneCell',gW]) (by simp[maxLen]) (by simp) ?_;intro v182 m182 o182
     obtain⟨tb,td,rfl⟩:=o182.rowIs 3 rfl
     refine rR (fA gY rfl rfl rfl ?_);(refine aCL o182 2 rfl eV rfl (by simp only[aDb,aDn,aDp];omega) (aI ⟨rfl,rfl⟩ ?_);intro m184 o184);(refine RunVC.strBytes o184 cT fT int5 rfl ?_;intro v185 m185 o185);refine rR (fA gY rfl rfl rfl ?_);refine rR (aCw eA.arr eA.el rfl rfl (by omega) (by omega) ?_)
     obtain⟨ra,rc,rfl,-⟩:=o185.roArr 7 rfl
     (refine aCL o185 2 rfl lR rfl (by first|omega|(simp;omega)) (aI ⟨rfl,rfl⟩ ?_);intro m193 o193);refine aCW (by omega) (by omega) ?_
     refine⟨rfl,?_⟩
     exact⟨.inr (.inr (.inl ⟨rfl,tb,td,_,_,_,(hR.setT (t':=.slice tb 2 td)).setV 92 (by omega),Own.sel ‹_› [0,1,2,3,4,7] rfl⟩)),by decide⟩
    ·have e256:=hR.last
     have hlen:=hR.len;have p1:([34]:aBs)[(0:Int).toNat]?=some 34:=rfl;have p2:UInt8.toNat 34=34:=rfl;have eo:cs[34]?=some uE:=hR.at_ 34 (by omega);refine aCQ ?_;refine rR (idx aK aL (oh.rowArr 1 rfl) rfl (by omega) (by omega) ?_);refine rR (loadA (oh.rowArr 1 rfl) aL rfl (by first|assumption|rfl) ?_);refine rR (aCu rfl rfl cT (by omega) ‹_› ?_);refine aCW (by omega) (by omega) ?_;refine rR (idx aK aL (oh.rowArr 1 rfl) rfl (by omega) (by omega) ?_);refine rR (loadA (oh.rowArr 1 rfl) aL rfl (by first|assumption|rfl) ?_);refine rR (fA gY rfl rfl rfl ?_);refine rR (aCw eA.arr eA.el rfl rfl (by omega) (by omega) ?_);refine rR (aCc oh 2 rfl lR rfl ‹_› ?_);refine rR (eqNil fT rfl rfl ?_);refine aCQ ?_;refine rR (fA gY rfl rfl rfl ?_);refine rR (aCc oh 2 rfl eV rfl ‹_› ?_);(refine aCM oh fT ty5 rfl rfl (by decide) (aI rfl ?_);intro b211 m211 o211);refine rR (aCI (l:=[34]) (Own.boxArr ‹_› 6 rfl rfl (by decide)) fT int5 cT ?_);(refine aCM o211 aK aL rfl rfl (by decide) (aI rfl ?_);intro b230 m230 o230);refine aCO ‹_› 3 rfl aK aL (by decide) ((Own.boxArr ‹_› 7 rfl (n:=1) (c:=1) rfl (by decide)).toN) (by simp[Value.oneCell',gW]) (by simp[maxLen]) (by simp) ?_;intro v232 m232 o232
     obtain⟨tb,td,rfl⟩:=o232.rowIs 3 rfl
     refine rR (fA gY rfl rfl rfl ?_);(refine aCL o232 2 rfl eV rfl (by simp only[aDb,aDn,aDp];omega) (aI ⟨rfl,rfl⟩ ?_);intro m234 o234);(refine RunVC.strBytes o234 cT fT int5 rfl ?_;intro v235 m235 o235);refine rR (fA gY rfl rfl rfl ?_);refine rR (aCw eA.arr eA.el rfl rfl (by omega) (by omega) ?_)
     obtain⟨ra,rc,rfl,-⟩:=o235.roArr 8 rfl
     (refine aCL o235 2 rfl lR rfl (by first|omega|(simp;omega)) (aI ⟨rfl,rfl⟩ ?_);intro m243 o243);refine aCW (by omega) (by omega) ?_
     refine⟨rfl,?_⟩
     exact⟨.inr (.inr (.inr ⟨rfl,tb,td,_,_,_,_,(hR.setT (t':=.slice tb 3 td)).setV 34 (by omega),Own.sel ‹_› [0,1,2,3,4,5,8] rfl⟩)),by decide⟩
    ·refine aCR ?_
     refine rR (aCK (by kernel_rfl) rfl ?_);refine aCX rfl ?_
     exact⟨b90,cs,_,v,w,x,rfl,hR,oh⟩
def zD (a:Option Addr)(c:Nat):aVs:=[.int .u32 0,.int .i32 0,.int .u32 0,.nilIface,.slice a 6 c]
theorem vO (v:Value)(h:Heap)(hA:Arr h v fX) :
  bZ Tryz.prog 147 [v] h fun r h'=>∃ b a c,r=pA b 0∧Own h [box b (zD a c) 220,row (.slice a 6 c) 9 1 6 fX] h':=by
 have hol:fX.length=6:=rfl;have o0:=(Own.refl h).nilRow 9 1;refine aCV Tryz.func147 rfl Tryz.ntmps147 (by kernel_rfl) ?_;refine rR (aCC hA ‹_› aK ?_);refine rR (remE rfl rfl (by omega) (by omega) ?_);refine aCR ?_;refine aCO ‹_› 0 rfl aK aL (by decide) hA.toN (by simp[Value.oneCell',gW,fX]) (by simp[maxLen,fX]) (by simp[fX]) ?_;intro v20 m20 o20
 obtain⟨ta,tc,rfl⟩:=o20.rowIs 0 rfl
 refine rR (aCl aA2 ?_);refine aI rfl ?_;(refine aCq o20 rfl ?_;intro b31 m31 o31);refine aCX rfl ?_
 exact⟨b31,ta,tc,rfl,o31.sel [1,0] rfl⟩
theorem aAA (B:Base)(b:Nat)(d st se r:Value)(a:Option Addr)(c:Nat)(h:Heap)
  (o0:Own B [box b [d,st,se,r,.slice a 6 c] 220,row (.slice a 6 c) 9 1 6 fX] h) :
  bZ Tryz.prog 166 [pA b 0] h fun res h'=>res=.tuple #[]∧∃ rb cs t v w x,RepC cs t (aBT v w x) ∧
   Own B [box b [d,st,se,.iface 250 (pA rb 0),uE] 220,row (.slice a 6 c) 9 1 6 fX,box rb cs 249,row t 9 1 3 [gW [10],gW [92],gW [34]],ro v (bytes [92,110]),ro w (bytes [92,92]),ro x (bytes [92,34])] h':=by
 refine aCV Tryz.func166 rfl Tryz.ntmps166 (by kernel_rfl) ?_;refine aCT (build_spec B b d st se r a c _ o0) ?_;rintro _ h1 ⟨rb,cs,t,v,w,x,rfl,hR,o1⟩;refine rR (nC rfl ?_);refine rR (fA aA2 rfl rfl rfl ?_);(refine aCL o1 0 rfl ty218 rfl (by simp) (aI ⟨rfl,rfl⟩ ?_);intro m22 o22);refine rR (nC rfl ?_);refine rR (fA aA2 rfl rfl rfl ?_);(refine aCL o22 0 rfl eV rfl (by simp) (aI ⟨rfl,rfl⟩ ?_);intro m25 o25);refine aCY rfl ?_
 exact⟨rfl,rb,cs,t,v,w,x,hR,Own.sel ‹_› [0,1,2,3,4,5,6] rfl⟩
end Go.Proofs.YtohlogbnpfofpaaGreatDoor
