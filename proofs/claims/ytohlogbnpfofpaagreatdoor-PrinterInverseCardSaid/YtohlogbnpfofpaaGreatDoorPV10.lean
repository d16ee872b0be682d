/- Part 10 of the proof of inverse: FnXe, Laid, FnXf, FnXk, FnXn, FnXo0, FnXg0, FnXgT, FnXgD, FnXg2, FnXg3, FnXg7. -/
import Derived.Test.YtohlogbnpfofpaaGreatDoorRows
import Derived.Test.YtohlogbnpfofpaaGreatDoorTie
import Derived.ProofKit
import Derived.LaidMore
import Derived.OpenShut
import Derived.Stop.Joined
import Derived.Stop.LaidErr
import Derived.Lib.LaidTab
import Derived.Shelf.Vars
import Derived.Test.YtohlogbnpfofpaaGreatDoorPV09
set_option linter.all false
set_option maxHeartbeats 100000000
set_option maxRecDepth 100000
namespace Go.Proofs.YtohlogbnpfofpaaGreatDoor
open Go StillVC
theorem aAb:∀(r:List Ex)(b:aBs)(x:Ex),kE b (x::r)=aJ (fZ b x::r.map fun y=>(fZ [32] y).map (aO [] [44]::·))
 | [],b,x=>by
  show(match fZ b x,kE [32] [] with
   | some p,some q=>some (p++(if ([]:List Ex).isEmpty then[] else[aO [] [44]])++q)
   | _,_=>none)=_
  cases fZ b x<;>simp[aJ,kE]
 | y::r,b,x=>by
  show(match fZ b x,kE [32] (y::r) with
   | some p,some q=>some (p++(if (y::r).isEmpty then[] else[aO [] [44]])++q)
   | _,_=>none)=_
  rw[aAb r [32] y,aDx]
  cases fZ b x with
  | none=>rfl
  | some p =>
   cases fZ [32] y with
   | none=>rfl
   | some q =>
    cases h:aJ (r.map fun y=>(fZ [32] y).map (aO [] [44]::·))<;>simp[aJ,h]
theorem nK (ks:List Ex):kE [] ks=cZ (dY fZ) ks:=by
 cases ks with
 | nil=>rfl
 | cons x r =>
  rw[aAb]
  unfold cZ
  rw[show(x::r).mapIdx (dY fZ)=_ from pN (fZ []) (fun y=>(fZ [32] y).map (aO [] [44]::·)) x r]
theorem jV:∀ {l:List Ex}{i:Nat}{x:Ex},l[i]?=some x→cK (l.take (i+1))=max (cK (l.take i)) (bY x)
 | [],_,_,h=>by simp at h
 | y::l,0,x,h=>by simp at h;subst h;simp[cK]
 | y::l,i+1,x,h=>by
  have:=jV (l:=l) (i:=i) (x:=x) (by simpa using h)
  rw[aDv,aDv,cK,cK,this]
  omega
theorem kY:∀ {l:List Ex}{i:Nat}{x:Ex},l[i]?=some x→fS (l.take (i+1))=fS (l.take i)+fI x
 | [],_,_,h=>by simp at h
 | y::l,0,x,h=>by simp at h;subst h;simp[fS]
 | y::l,i+1,x,h=>by
  have:=kY (l:=l) (i:=i) (x:=x) (by simpa using h)
  rw[aDv,aDv,fS,fS,this]
  omega
theorem eB (l:List Ex)(i:Nat):fS (l.take i)≤fS l:=by
 induction l generalizing i with
 | nil=>simp
 | cons x l ih =>
  cases i with
  | zero=>simp[fS]
  | succ i=>rw[aDv,fS,fS];have:=ih i;omega
def aC3:aVs:=[.string ⟨⟨[]⟩⟩,.int .i64 0,.string ⟨⟨[]⟩⟩,.int .i64 0,.string ⟨⟨[115,101,108,101,99,116]⟩⟩,.int .i64 1,.string ⟨⟨[112,114,111,106,101,99,116]⟩⟩,.int .i64 1,.string ⟨⟨[106,111,105,110]⟩⟩,.int .i64 2,
 .string ⟨⟨[117,110,105,111,110]⟩⟩,.int .i64 2,.string ⟨⟨[109,105,110,117,115]⟩⟩,.int .i64 2,.string ⟨⟨[114,101,110,97,109,101]⟩⟩,.int .i64 1,.string ⟨⟨[103,114,111,117,112]⟩⟩,.int .i64 1]
def gX (h:Heap):Prop:=∀ i,i<18→aY h ⟨1,i,none⟩=aC3[i]?
theorem gX.ext {h h':Heap}(w:gX h)(e:Ext h h'):gX h':=fun i hi=>by
 obtain⟨v,hv⟩:=getx (l:=aC3) (show i<aC3.length from hi)
 rw[hv]
 exact e.cell ((w i hi).trans hv)
theorem oY {h:Heap}(w:gX h)(k:Int)(h1:1≤k)(h8:k≤8):aY h ⟨1,0+k.toNat*2+1,none⟩=some (.int .i64 (iM k))∧(k≠1→aY h ⟨1,0+k.toNat*2+0,none⟩=some (.string ⟨⟨cG.getD (k - 2).toNat []⟩⟩)):=by
 have:k=1∨k=2∨k=3∨k=4∨k=5∨k=6∨k=7∨k=8:=by omega
 rcases this with rfl|rfl|rfl|rfl|rfl|rfl|rfl|rfl
 ·exact⟨w 3 (by decide),fun h=>absurd rfl h⟩
 ·exact⟨w 5 (by decide),fun _=>w 4 (by decide)⟩
 ·exact⟨w 7 (by decide),fun _=>w 6 (by decide)⟩
 ·exact⟨w 9 (by decide),fun _=>w 8 (by decide)⟩
 ·exact⟨w 11 (by decide),fun _=>w 10 (by decide)⟩
 ·exact⟨w 13 (by decide),fun _=>w 12 (by decide)⟩
 ·exact⟨w 15 (by decide),fun _=>w 14 (by decide)⟩
 ·exact⟨w 17 (by decide),fun _=>w 16 (by decide)⟩
def XEnds (B:Base)(b:Nat)(bs:aBs)(k:Int)(c:Nat)(o:Option (List Pc))(lev:Int):Ending→Heap→Prop :=
 Ends (fun r h'=>∃ ps p' v',o=some ps∧r=.int .i64 lev∧cO b p'∧(bG ps).length≤c∧ps.length≤c∧Own B [box b [p',v',.int .i64 (k+ps.length)] 58,row v' 5 1 (bs++bG ps).length (bytes (bs++bG ps))] h')
  fun q h'=>o=none∧q=wG∧Own B [] h'
section
variable {g : FuncId} {args s : aVs} {B : Base} {L : List Item} {b i : Nat} {p v : Value} {k lev : Int} {bs : aBs} {h : Heap} {K : KK} {Q : QQ}
theorem XEnds.callJ {c:Nat}{opt:Option (List Pc)}(js:List Nat)(o:Own B L h)(e:pick L [0,1]=[box b [p,v,.int .i64 k] 58,row v 5 1 bs.length (bytes bs)])(hd:dst ([0,1]++js)=true)
  (sp:∀ J,Own ⟨B.h,J++B.T⟩ [box b [p,v,.int .i64 k] 58,row v 5 1 bs.length (bytes bs)] h→Spec Tryz.prog g args h (XEnds ⟨B.h,J++B.T⟩ b bs k c opt lev))
  (hret:∀ ps p' v' bs' k' h',opt=some ps→cO b p'→bs'=bs++bG ps→k'=k+ps.length→bs'.length≤bs.length+c→k≤k'→k'≤k+c→Own B (box b [p',v',.int .i64 k'] 58::row v' 5 1 bs'.length (bytes bs')::pick L js) h'→K (.int .i64 lev) false h')
  (hpan:∀ h',opt=none→Own B [] h'→Q (.panic wG) s h'):CallVC Tryz.prog g args s h K Q:=by
 have o1:=o.lend [0,1] js hd
 rw[e]at o1
 exact aCU (sp _ o1) (fun _ _ ⟨ps,p',v',h1,h2,h3,h4,h5,o2⟩=>by
  subst h2;exact hret ps p' v' (bs++bG ps) _ _ h1 h3 rfl rfl (by rw[aDa];omega) (by omega) (by omega) o2.back) (fun _ _ ⟨h1,h2,o2⟩=>by subst h2;exact hpan _ h1 (o2.back.sel [] rfl))
theorem XEnds.done {c:Nat}{opt:Option (List Pc)}{ps:List Pc}{bs':aBs}{k':Int}(hq:opt=some ps)(o:Own B [box b [p,v,.int .i64 k'] 58,row v 5 1 bs'.length (bytes bs')] h)(hp:cO b p)(hb:bs'=bs++bG ps)(hk:k'=k+ps.length)
  (hc:bs'.length≤bs.length+c) (hc2:k'≤k+c):XEnds B b bs k c opt lev (.returned (.int .i64 lev)) h:=by
 subst hb;subst hk
 rw[aDa]at hc
 exact⟨ps,p,v,hq,rfl,hp,by omega,by omega,o⟩
end
end Go.Proofs.YtohlogbnpfofpaaGreatDoor
namespace Go.Proofs.YtohlogbnpfofpaaGreatDoor
open Go Go.ChangeShapes Go.WideShapes Go.ChangeAt Go.RowKit
abbrev laid3:List (String×DataW Unit):=Rows.printerInverseRow.laid
theorem laidOut:laidOutB Tryz.prog=true:=by kernel_rfl
theorem own:ownKnob Tryz.prog.godebug=none:=by kernel_rfl
theorem gPow:Tryz.prog.globalNamed "internal/strconv.uint64pow10"=some 5:=by kernel_rfl
theorem tPow:(Tryz.prog.globals[5]?).map (·.type)=some 271:=by kernel_rfl
theorem cPow:Tryz.prog.cellsOf 271=20:=by kernel_rfl
theorem cU64:Tryz.prog.cellsOf 178=1:=by kernel_rfl
theorem gWords:Tryz.prog.globalNamed "cleanse/parser.words"=some 0:=by kernel_rfl
theorem tWords:(Tryz.prog.globals[0]?).map (·.type)=some 115:=by kernel_rfl
theorem cWords:Tryz.prog.cellsOf 115=10:=by kernel_rfl
theorem cStr:Tryz.prog.cellsOf 9=1:=by kernel_rfl
theorem gForms:Tryz.prog.globalNamed "cleanse/printer.forms"=some 1:=by kernel_rfl
theorem tForms:(Tryz.prog.globals[1]?).map (·.type)=some 195:=by kernel_rfl
theorem cInt:Tryz.prog.cellsOf 3=1:=by kernel_rfl
theorem cForms:Tryz.prog.cellsOf 195=18:=by kernel_rfl
theorem cForm:Tryz.prog.cellsOf 194=2:=by kernel_rfl
theorem tab_of_laid {W:World}(h:laidMetH Tryz.prog laid3 W):jO W.heap:=by
 rw[MakeChecks.laidMetH_plain _ _ _ (by kernel_rfl)]at h
 have h2:=laidMet.tail (laidMet.tail h);have e:Rows.laid_internal_strconv_uint64pow10 (H:=Unit)=Lib.tabData .u64 Lib.pow10Tab:=by rfl
 rw[e]at h2
 have key:=Lib.tabIs_of_head gPow tPow Tryz.underlying271 Tryz.underlying178 cU64 cPow h2;intro w hw;unfold Lib.TabIs World.var? at key ⊢
 rw[hw]
 exact key
theorem aCj {H:Type}{enc:TypeId×Value→H}{P:Program}{w:World}{base:Nat}{sp:Nat→Bool}{held:Bool}{fuel:Nat}{t e:TypeId}{n:Nat}{cs:aVs}{zs:List aBs}{p:List MemPlace}
  (ht:P.underlying t=some (.array n e)) (he:P.underlying e=some .string) (hce:P.cellsOf e=1) (hct:P.cellsOf t=n)
  (h:DataW.trod enc P w base sp held fuel t cs=some (.agg (zs.map fun z=>.lit (.string z)),p)):cs=strs zs:=by
 obtain⟨xs,m,_,hx,hl,hxl,hi⟩:=DataW.trod_array ht h
 have hxs:xs.map (·.1)=zs.map fun z=>(DataW.lit (.string z):DataW H):=by
  have:=congrArg Prod.fst hx
  simpa using this.symm
 have hzl:zs.length=n:=by
  have:=congrArg List.length hxs
  simp at this
  omega
 rw[hct]at hl
 apply List.ext_getElem?
 intro i;by_cases hin:i<n
 ·have h1:=hi i hin
  rw[hce,Nat.mul_one]at h1
  cases hy:xs[i]? with
  | none=>rw[List.getElem?_eq_none_iff]at hy;omega
  | some y =>
   rw[hy]at h1
   obtain⟨s,hc,hz,_⟩:=DataW.trod_string he h1
   have hci:cs[i]?=some (.string s):=by
    have:=congrArg (·[0]?) hc
    simpa[aDL,aDC] using this
   have h2:(xs.map (·.1))[i]?=some y.1:=by simp[hy]
   rw[hxs,hz]at h2
   simp only[aDH,aDi,DataW.lit.injEq,Lit.string.injEq]at h2
   obtain⟨z,hzi,hzs⟩:=h2
   rw[hci]
   simp only[strs,aDH,hzi,oMS,Option.some.injEq]
   obtain⟨⟨sd⟩⟩:=s
   simp only at hzs
   rw[hzs]
 ·rw[aDQ (by omega),aDQ (by simp[strs];omega)]
theorem words_of_laid {W:World}(h:laidMetH Tryz.prog laid3 W):lB W.heap:=by
 rw[MakeChecks.laidMetH_plain _ _ _ (by kernel_rfl)]at h
 have h2:=laidMet.tail (laidMet.tail (laidMet.tail (laidMet.tail (laidMet.tail h))))
 obtain⟨ps,⟨g',t',cs,fuel,p,q,hg',ht',hvar,hd,_,_⟩,_⟩:=h2
 obtain rfl:=Option.some.inj (gWords.symm.trans hg');obtain rfl:=Option.some.inj (tWords.symm.trans ht');have e:Rows.laid_cleanse_parser_words (H:=Unit)=.agg (dS.map fun z=>.lit (.string z)):=by rfl
 rw[e]at hd
 have hc:=aCj Tryz.underlying115 Tryz.underlying9 cStr cWords hd;intro i hi
 have:=World.var?_cell gWords hvar i
 rw[gV]at this
 rw[this,← hc]
 simp
def formsL:List (aBs×Int):=[([],0),([],0),([115,101,108,101,99,116],1),([112,114,111,106,101,99,116],1),([106,111,105,110],2),([117,110,105,111,110],2),([109,105,110,117,115],2),([114,101,110,97,109,101],1),([103,114,111,117,112],1)]
def formFs (fs:Array Field)(s i:TypeId):Prop:=∃ a b:Field,fs[0]?=some a∧fs[1]?=some b∧fs.size=2∧a.type=s∧a.offset=0∧b.type=i∧b.offset=1
theorem aAj:∀(zs:List (aBs×Int))(cs:aVs),cs.length=zs.length*2→(∀(i:Nat)(z:aBs×Int),zs[i]?=some z→(cs.drop (i*2)).take 2=[.string ⟨⟨z.1⟩⟩,.int .i64 z.2])→cs=zs.flatMap fun z=>[.string ⟨⟨z.1⟩⟩,.int .i64 z.2]
 | [],cs,h,_=>by
  rw[aDn,Nat.zero_mul]at h
  exact aDB.1 h
 | z::zs,cs,h,e=>by
  rw[aDb]at h
  match cs,h with
  | c0::c1::cs',h =>
   have e0:=e 0 z rfl
   simp at e0
   have:=aAj zs cs' (by simp only[aDb]at h;omega) (fun i y hy=>by
    have:=e (i+1) y (by simpa using hy)
    rw[show(i+1)*2=i*2+2 by omega]at this
    simpa using this)
   rw[aDj,e0.1,e0.2,← this]
   rfl
  | [c0],h=>simp at h;omega
  | [],h=>simp at h
theorem aAI {H:Type}{enc:TypeId×Value→H}{P:Program}{w:World}{base:Nat}{sp:Nat→Bool}{held:Bool}{fuel:Nat}{t e ts ti:TypeId}{n:Nat}{fs:Array Field}{cs:aVs}{zs:List (aBs×Int)}{p:List MemPlace}
  (ht:P.underlying t=some (.array n e)) (he:P.underlying e=some (.struct fs)) (hfs:formFs fs ts ti) (hs:P.underlying ts=some .string) (hi:P.underlying ti=some (.int .i64)) (hcs:P.cellsOf ts=1) (hci:P.cellsOf ti=1) (hce:P.cellsOf e=2) (hct:P.cellsOf t=n*2)
  (h:DataW.trod enc P w base sp held fuel t cs=some (.agg (zs.map fun z=>.agg [.lit (.string z.1),.lit (.int .i64 z.2)]),p)):cs=zs.flatMap fun z=>[.string ⟨⟨z.1⟩⟩,.int .i64 z.2]:=by
 obtain⟨a,b,ha,hb,hsz,a1,a2,b1,b2⟩:=hfs
 obtain⟨xs,m,_,hx,hl,hxl,hel⟩:=DataW.trod_array ht h
 have hxs:xs.map (·.1)=zs.map fun z=>(DataW.agg [.lit (.string z.1),.lit (.int .i64 z.2)]:DataW H):=by
  have:=congrArg Prod.fst hx
  simpa using this.symm
 have hzl:zs.length=n:=by
  have:=congrArg List.length hxs
  simp at this
  omega
 rw[hct]at hl
 have each:∀(i:Nat) (z:aBs×Int),zs[i]?=some z→(cs.drop (i*2)).take 2=[.string ⟨⟨z.1⟩⟩,.int .i64 z.2]:=by
  intro i z hz;have hin:i<n:=by have:=(aC6.1 hz).1;omega
  have h1:=hel i hin
  rw[hce]at h1
  obtain⟨y,hy⟩:=getx (l:=xs) (i:=i) (by omega)
  rw[hy]at h1
  have h2:(xs.map (·.1))[i]?=some y.1:=by simp[hy]
  rw[hxs,aDH,hz]at h2
  have h2:y.1=.agg [.lit (.string z.1),.lit (.int .i64 z.2)]:=(Option.some.inj h2).symm
  obtain⟨ws,k,_,hw,hlw,hws,hf⟩:=DataW.trod_struct he h1
  have hw1:ws.map (·.1)=[.lit (.string z.1),.lit (.int .i64 z.2)]:=by
   have:=congrArg Prod.fst hw
   rw[h2]at this
   simpa using this.symm
  have f0:=hf 0 a ha;have f1:=hf 1 b hb
  rw[a1,a2,hcs]at f0
  rw[b1,b2,hci]at f1
  rw[hce]at hlw
  obtain⟨u,v,rfl⟩:∃ u v,ws=[u,v]:=by
   match ws,hws.trans hsz with
   | [u,v],_=>exact⟨u,v,rfl⟩
  simp only[aDx,List.map_nil,List.cons.injEq,and_true]at hw1
  obtain⟨⟨⟨s0⟩⟩,c0,x0,_⟩:=DataW.trod_string hs f0
  obtain⟨n0,c1,x1,_⟩:=DataW.trod_int hi f1
  have e0:s0=z.1:=by
   have q:=hw1.1
   rw[show u.1=.lit (.string s0) from congrArg Prod.fst x0]at q
   simpa using q
  have e1:n0=z.2:=by
   have q:=hw1.2
   rw[show v.1=.lit (.int .i64 n0) from congrArg Prod.fst x1]at q
   simpa using q
  subst e0;subst e1;generalize (cs.drop (i*2)).take 2=l at hlw c0 c1
  match l,hlw with
  | [g0,g1],_ =>
   simp at c0 c1
   rw[c0,c1]
 exact aAj zs cs (by omega) each
theorem forms_of_laid {W:World}(h:laidMetH Tryz.prog laid3 W):gX W.heap:=by
 rw[MakeChecks.laidMetH_plain _ _ _ (by kernel_rfl)]at h
 have h2:=laidMet.tail (laidMet.tail (laidMet.tail (laidMet.tail (laidMet.tail (laidMet.tail h)))))
 obtain⟨ps,⟨g',t',cs,fuel,p,q,hg',ht',hvar,hd,_,_⟩,_⟩:=h2
 obtain rfl:=Option.some.inj (gForms.symm.trans hg');obtain rfl:=Option.some.inj (tForms.symm.trans ht');have e:Rows.laid_cleanse_printer_forms (H:=Unit)=.agg (formsL.map fun z=>.agg [.lit (.string z.1),.lit (.int .i64 z.2)]):=by rfl
 rw[e]at hd
 have hc:=aAI Tryz.underlying195 Tryz.underlying194 ⟨_,_,rfl,rfl,rfl,rfl,rfl,rfl,rfl⟩ Tryz.underlying9 Tryz.underlying3 cStr cInt cForm cForms hd;intro i hi
 have:=World.var?_cell gForms hvar i
 rw[gV]at this
 rw[this,← (show cs.toList=aC3 from hc)]
 simp
theorem door_met (os:Os)(args:Array Value):laidMetH Tryz.prog laid3 ((World.doorLaid Tryz.prog 400 os).forCall (fun _ _=>0) ⟨#[],args,[]⟩).memory :=
 laidMetH_of_parts3 (fuel:=8) (laidMet_of_run' 8 (by kernel_rfl) (by kernel_rfl)) (by kernel_rfl) (by kernel_rfl)
end Go.Proofs.YtohlogbnpfofpaaGreatDoor
namespace Go.Proofs.YtohlogbnpfofpaaGreatDoor
open Go StillVC
def clr1 (x:It):It:={ x with cols:=[],names:=[] }
def clr2 (x:It):It:={ x with n:=0 }
def aAy (x:It):It:={ x with table:=[],attr:=[],by_:=0,n:=if 3≤x.by_ then 0 else x.n,m:=if x.by_=4 then 0 else x.m }
def clr4 (x:It):It:={ x with table:=[],n:=0,terms:=[] }
def clr5 (x:It):It:={ x with table:=[],attr:=[],by_:=0 }
def clr6 (x:It):It:={ x with table:=[],names:=[] }
def clr7 (x:It):It:={ x with table:=[],names:=[],attr:=[],fixed:=[] }
def clr8 (x:It):It:={ x with table:=[],attr:=[],other:=[],oattr:=[] }
def clr9 (x:It):It:={ x with vars:=[],conds:=[] }
def clr10 (x:It):It:={ x with expr:=ex0 }
def dR (x:It):It :=
 if x.kind=1 then clr1 x else if x.kind=2 then clr2 x else if x.kind=3 then aAy x else if x.kind=4 then clr4 x else if x.kind=5 then clr5 x
 else if x.kind=6 then clr6 x else if x.kind=7 then clr7 x else if x.kind=8 then clr8 x else if x.kind=9 then clr9 x else clr10 x
def wE (x:It):Bool:=match x.expr with
 | .mk k tb ks cs ns a as_ g _=>decide ((x.cols=[]∧x.names=[]∧x.terms=[]∧x.fixed=[]∧x.vars=[]∧x.conds=[]∧ks=[]∧cs=[]∧ns=[]) ∧
   (x.name=[]∧x.table=[]∧x.attr=[]∧x.other=[]∧x.oattr=[]∧tb=[]∧a=[]∧as_=[])∧x.by_=0∧x.n=0∧x.m=0∧k=0∧g=0)
def dH (x:It):It:=if x.kind=5 then x else { x with name:=[] }
def part1 (x:It):Option (List Pc):=aJ [some [aO [] [40]],dJ mR [] x.cols,some [aO [] [41],aD [32] [107,101,121]],dJ aZ [32] x.names]
def part2 (x:It):Option (List Pc):=aJ [some [aD [32] [116,114,117,115,116]],iD [32] x.n]
def part3 (x:It):Option (List Pc):=aJ [some [aD [32] [111,110]],dW x.table x.attr,some [aD [32] [98,121]],gB x.by_ [[101,120,97,99,116],[116,111,107,101,110],[112,114,101,102,105,120],[115,107,101,116,99,104]],(if 3≤x.by_ then iD [32] x.n else some []),(if x.by_=4 then iD [32] x.m else some [])]
def part4 (x:It):Option (List Pc):=aJ ([some [aD [32] [111,110]],aZ [32] x.table,some [aD [32] [97,116]],iD [32] x.n,some [aO [32] [123]]]++x.terms.map bI)
def part5 (x:It):Option (List Pc):=aJ [dW x.table x.attr,some [aD [32] [98,121]],gB x.by_ [[108,97,116,101,115,116],[109,111,115,116],[116,114,117,115,116,101,100],[108,111,110,103,101,115,116],[108,101,97,115,116],[103,114,101,97,116,101,115,116]]]
def part6 (x:It):Option (List Pc):=aJ [some [aD [32] [111,110]],aZ [32] x.table,some [aO [] [40]],dJ aZ [] x.names,some [aO [] [41]]]
def part7 (x:It):Option (List Pc):=aJ [some [aD [32] [111,110]],aZ [32] x.table,some [aO [] [40]],dJ aZ [] x.names,some [aO [] [41],aD [32] [116,111]],aZ [32] x.attr,aAl x.fixed]
def part8 (x:It):Option (List Pc):=aJ [dW x.table x.attr,some [aD [32] [105,110]],dW x.other x.oattr]
def part9 (x:It):Option (List Pc):=aJ [dJ (fun _=>sV) [] x.vars,nO x.conds]
def aBX (x:It):Option (List Pc):=aJ [some [aO [32] [61]],fZ [32] x.expr]
theorem jC (x:It):jD x=if x.kind=1 then part1 x else if x.kind=2 then part2 x else if x.kind=3 then part3 x else if x.kind=4 then part4 x else if x.kind=5 then part5 x else if x.kind=6 then part6 x else if x.kind=7 then part7 x else if x.kind=8 then part8 x else if x.kind=9 then part9 x else aBX x:=rfl
theorem aAP {α:Type}{l:List α}:l.length=0↔l=[]:=aDB
theorem empty_bare {x:It}(h1:1≤x.kind)(h10:x.kind≤10):wE (dR (dH x))=(bareI x&&(decide (x.kind=10)||aAU x.expr)):=by
 obtain⟨k,nm,off,tb,at_,cols,nms,by_,n,m,tms,oth,oat,fx,vr,cd,⟨ek,etb,eks,ecs,ens,ea,eas,eg,eo⟩⟩:=x
 simp only at h1 h10
 rw[Bool.eq_iff_iff]
 have:k=1∨k=2∨k=3∨k=4∨k=5∨k=6∨k=7∨k=8∨k=9∨k=10:=by omega
 rcases this with rfl|rfl|rfl|rfl|rfl|rfl|rfl|rfl|rfl|rfl <;>
  simp only[dH,dR,clr1,clr2,aAy,clr4,clr5,clr6,clr7,clr8,clr9,clr10,wE,bareI,aAU,ex0,aAP,decide_eq_true_eq,aC8,aDR]<;>simp<;>exact⟨fun h=>by simp_all,fun h=>by simp_all⟩
def IEnds (B:Base)(b bx:Nat)(bs:aBs)(k:Int)(c:Nat)(cs:aVs)(o:Option (List Pc)):Ending→Heap→Prop :=
 Ends (fun r h'=>∃ ps p' v',o=some ps∧r=.tuple #[]∧cO b p'∧(bG ps).length≤c∧ps.length≤c∧Own B [box b [p',v',.int .i64 (k+ps.length)] 58,row v' 5 1 (bs++bG ps).length (bytes (bs++bG ps)),box bx cs 44] h')
  fun q h'=>o=none∧q=wG∧Own B [] h'
section
variable {g : FuncId} {args s : aVs} {B : Base} {L : List Item} {b bx i : Nat} {p v : Value} {k : Int} {bs : aBs} {h : Heap} {K : KK} {Q : QQ} {cs : aVs}
theorem IEnds.done {c:Nat}{opt:Option (List Pc)}{ps:List Pc}{bs':aBs}{k':Int}(hq:opt=some ps)(o:Own B [box b [p,v,.int .i64 k'] 58,row v 5 1 bs'.length (bytes bs'),box bx cs 44] h)(hp:cO b p)(hb:bs'=bs++bG ps)(hk:k'=k+ps.length)
  (hc:bs'.length≤bs.length+c) (hc2:k'≤k+c):IEnds B b bx bs k c cs opt (.returned (.tuple #[])) h:=by
 subst hb;subst hk
 rw[aDa]at hc
 exact⟨ps,p,v,hq,rfl,hp,by omega,by omega,o⟩
end
theorem jQ {n:Int}{ws:List aBs}(h:1≤n∧n≤ws.length):gB n ws=some [aD [32] (ws.getD (n - 1).toNat [])]:=if_pos h
theorem lH {n:Int}{ws:List aBs}(h:¬ (1≤n∧n≤ws.length)):gB n ws=none:=if_neg h
theorem kF {ws:List aBs}{M:Nat}(h:∀ s∈ws,s.length≤M)(i:Nat):(ws.getD i []).length≤M:=by
 rw[aDw]
 cases hi:ws[i]? with
 | none=>simp
 | some s=>exact h s (aC7 hi)
theorem emptyB_eq (x:It)(k:Int)(tb:aBs)(ks:List Ex)(cs:List Cnd)(ns:List aBs)(a s:aBs)(g:Int)(o:Nat)(he:x.expr=.mk k tb ks cs ns a s g o) :
  wE x=decide ((x.cols.length:Int)+x.names.length+x.terms.length+x.fixed.length+x.vars.length+x.conds.length+ks.length+cs.length+ns.length=0∧x.name++x.table++x.attr++x.other++x.oattr++tb++a++s=[]∧x.by_=0∧x.n=0∧x.m=0∧k=0∧g=0):=by
 unfold wE
 rw[he]
 apply decide_eq_decide.2
 constructor
 ·rintro⟨⟨h1,h2,h3,h4,h5,h6,h7,h8,h9⟩,⟨t1,t2,t3,t4,t5,t6,t7,t8⟩,r⟩
  rw[h1,h2,h3,h4,h5,h6,h7,h8,h9,t1,t2,t3,t4,t5,t6,t7,t8]
  exact⟨by simp,rfl,r⟩
 ·rintro⟨h,t,r⟩
  simp only[List.append_eq_nil_iff]at t
  obtain⟨⟨⟨⟨⟨⟨⟨t1,t2⟩,t3⟩,t4⟩,t5⟩,t6⟩,t7⟩,t8⟩:=t
  exact⟨⟨aAP.1 (by omega),aAP.1 (by omega),aAP.1 (by omega),aAP.1 (by omega),aAP.1 (by omega),aAP.1 (by omega),aAP.1 (by omega),aAP.1 (by omega),aAP.1 (by omega)⟩,⟨t1,t2,t3,t4,t5,t6,t7,t8⟩,r⟩
theorem tW (x:It)(c:aVs)(h:Heap)(hOK:iQ x)(hc:itH h c x):bZ Tryz.prog 35 [.agg ⟨c⟩] h fun r h'=>r=.bool (wE x)∧Own h [] h':=by
 obtain⟨z,vc,vn,vt,vf,vv,vd,e0,e1,e2,e3,e4,e5,e6,e7,e8,rfl,q1,q2,q3,q4,q5,q6,rx⟩:=hc
 obtain⟨bkind,bname,btable,battr,bcols,bnames,bby,bn,bm,bterms,both,boat,bfixed,bvars,bconds,bexpr,lcols,lnames,lterms,lfixed,lvars,lconds⟩:=hOK
 obtain⟨kind,name,off,table,attr,cols,names,by_,n,m,terms,other,oattr,fixed,vars,conds,⟨k,tb,ks,cs,ns,a,s,g,o⟩⟩:=x
 have hem:=emptyB_eq ⟨kind,name,off,table,attr,cols,names,by_,n,m,terms,other,oattr,fixed,vars,conds,⟨k,tb,ks,cs,ns,a,s,g,o⟩⟩ k tb ks cs ns a s g o rfl
 rw[hem]
 clear hem
 rw[gA]at bexpr
 rw[kN]at rx
 dsimp only at *
 obtain⟨bk,btb,bks,bcs,bns,ba,bs_,bg,lk,lc,ln⟩:=bexpr
 obtain⟨wk,wc,wn,wz,hcv,g1,g2,gx,g3,_⟩:=rx
 obtain⟨h1,h2,rfl⟩:=g1.isS
 obtain⟨h3,h4,rfl⟩:=g2.isS
 obtain⟨h5,h6,rfl⟩:=g3.isS
 unfold qE at hcv
 simp only[List.cons.injEq,and_true]at hcv
 obtain⟨rfl,rfl,rfl,rfl,rfl,rfl,rfl,rfl,rfl⟩:=hcv
 obtain⟨y1,z1,rfl⟩:=q1.isS
 obtain⟨y2,z2,rfl⟩:=q2.isS
 obtain⟨y3,z3,rfl⟩:=q3.isS
 obtain⟨y4,z4,rfl⟩:=q4.isS
 obtain⟨y5,z5,rfl⟩:=q5.isS
 obtain⟨y6,z6,rfl⟩:=q6.isS
 clear q1 q2 q3 q4 q5 q6 g1 g2 g3;unfold fE;dsimp only;refine aCV Tryz.func35 rfl Tryz.ntmps35 (by kernel_rfl) ?_;have o0:=Own.refl h;(refine aCq o0 rfl ?_;intro b10 m10 o10);refine rR (fA aC rfl rfl rfl ?_);refine rR (aCc o10 0 rfl lS rfl rfl ?_);refine rR (aCk rfl kI ?_);refine rR (fA aC rfl rfl rfl ?_);refine rR (aCc o10 0 rfl eV rfl rfl ?_);refine rR (aCk rfl aK ?_);refine aCW (by omega) (by omega) ?_;refine rR (fA aC rfl rfl rfl ?_);refine rR (aCc o10 0 rfl nQ rfl rfl ?_);refine rR (aCk rfl nT ?_);refine aCW (by omega) (by omega) ?_;refine rR (fA aC rfl rfl rfl ?_);refine rR (aCc o10 0 rfl oG rfl rfl ?_);refine rR (aCk rfl nD ?_);refine aCW (by omega) (by omega) ?_;refine rR (fA aC rfl rfl rfl ?_);refine rR (aCc o10 0 rfl pF rfl rfl ?_);refine rR (aCk rfl nR ?_);refine aCW (by omega) (by omega) ?_;refine rR (fA aC rfl rfl rfl ?_);refine rR (aCc o10 0 rfl mL rfl rfl ?_);refine rR (aCk rfl jA ?_);refine aCW (by omega) (by omega) ?_;refine rR (fA aC rfl rfl rfl ?_);refine rR (fA aM rfl rfl rfl ?_);refine rR (aCc o10 0 rfl cQ rfl rfl ?_);refine rR (aCk rfl bV ?_);refine aCW (by omega) (by omega) ?_;refine rR (fA aC rfl rfl rfl ?_);refine rR (fA aM rfl rfl rfl ?_);refine rR (aCc o10 0 rfl mL rfl rfl ?_);refine rR (aCk rfl jA ?_);refine aCW (by omega) (by omega) ?_;refine rR (fA aC rfl rfl rfl ?_);refine rR (fA aM rfl rfl rfl ?_);refine rR (aCc o10 0 rfl eV rfl rfl ?_);refine rR (aCk rfl aK ?_);refine aCW (by omega) (by omega) ?_;refine rR (fA aC rfl rfl rfl ?_);refine rR (aCc o10 0 rfl aL rfl rfl ?_)
 refine rR (fA aC rfl rfl rfl ?_);refine rR (aCc o10 0 rfl aL rfl rfl ?_);refine rR (aCm rfl rfl (by first|omega|(simp;omega)) ?_);refine rR (fA aC rfl rfl rfl ?_);refine rR (aCc o10 0 rfl aL rfl rfl ?_);refine rR (aCm rfl rfl (by first|omega|(simp;omega)) ?_);refine rR (fA aC rfl rfl rfl ?_);refine rR (aCc o10 0 rfl aL rfl rfl ?_);refine rR (aCm rfl rfl (by first|omega|(simp;omega)) ?_);refine rR (fA aC rfl rfl rfl ?_);refine rR (aCc o10 0 rfl aL rfl rfl ?_);refine rR (aCm rfl rfl (by first|omega|(simp;omega)) ?_);refine rR (fA aC rfl rfl rfl ?_);refine rR (fA aM rfl rfl rfl ?_);refine rR (aCc o10 0 rfl aL rfl rfl ?_);refine rR (aCm rfl rfl (by first|omega|(simp;omega)) ?_);refine rR (fA aC rfl rfl rfl ?_);refine rR (fA aM rfl rfl rfl ?_);refine rR (aCc o10 0 rfl aL rfl rfl ?_);refine rR (aCm rfl rfl (by first|omega|(simp;omega)) ?_);refine rR (fA aC rfl rfl rfl ?_);refine rR (fA aM rfl rfl rfl ?_);refine rR (aCc o10 0 rfl aL rfl rfl ?_);refine rR (aCm rfl rfl (by first|omega|(simp;omega)) ?_);refine aCP (fun c67=>?_) (fun c67=>?_);refine aCP (fun c68=>?_) (fun c68=>?_);refine rR (fA aC rfl rfl rfl ?_);refine rR (aCc o10 0 rfl aT rfl rfl ?_);refine aCP (fun c71=>?_) (fun c71=>?_);refine rR (fA aC rfl rfl rfl ?_);refine rR (aCc o10 0 rfl aT rfl rfl ?_);refine aCP (fun c74=>?_) (fun c74=>?_);refine rR (fA aC rfl rfl rfl ?_);refine rR (aCc o10 0 rfl aT rfl rfl ?_);refine aCP (fun c77=>?_) (fun c77=>?_);refine rR (fA aC rfl rfl rfl ?_);refine rR (fA aM rfl rfl rfl ?_);refine rR (aCc o10 0 rfl aT rfl rfl ?_)
 refine aCP (fun c81=>?_) (fun c81=>?_);refine rR (fA aC rfl rfl rfl ?_);refine rR (fA aM rfl rfl rfl ?_);refine rR (aCc o10 0 rfl aT rfl rfl ?_);refine aCX rfl ?_
 rotate_left
 refine aCX rfl ?_
 rotate_left
 refine aCX rfl ?_
 rotate_left
 refine aCX rfl ?_
 rotate_left
 refine aCX rfl ?_
 rotate_left
 refine aCX rfl ?_
 rotate_left
 refine aCX rfl ?_
 all_goals first
  | exact⟨congrArg Value.bool (decide_eq_false (fun h=>by obtain⟨h1,h2,h3,h4,h5,h6,h7⟩:=h;first|contradiction|omega)).symm,Own.sel ‹_› [] rfl⟩
  | exact⟨congrArg Value.bool (decide_eq_decide.2 ⟨fun hg=>⟨by omega,by assumption,by omega,by omega,by omega,by omega,hg⟩,fun hh=>hh.2.2.2.2.2.2⟩),Own.sel ‹_› [] rfl⟩
theorem StillVC.buildG {pr:Bool}{P:Program}{ty:TypeId}{s:aVs}{h:Heap}{K:KK}{t e:TypeId}{n by_ byA:Nat}{z:Value}{zero vs:aVs}{parts:List (Nat×Operand)}(hT:ArrT P t e n z by_)(hZ:TyI P t true zero byA)
  (hf:Instr.fill (fun i=>some (i*1,1)) zero.toArray (parts.map fun p=>(p.1,ev s p.2))=some vs.toArray) (hk:K (.agg ⟨vs⟩) false h):StillVC pr P (.build t ⟨parts⟩) ty s h K:=by
 refine .pure' _ false (fun w=>?_) hk
 simp only[Nat.mul_one]at hf
 obtain⟨inf,z',hi,_,hz,hc,_⟩:=hZ.info
 have hparts:((⟨parts⟩:Array (Nat×Operand)).map fun x=>match x with|(i,x)=>(i,ev s x)).toList=parts.map fun p=>(p.1,ev s p.2):=by simp
 have key:(Instr.build t ((⟨parts⟩:Array (Nat×Operand)).map fun x=>match x with|(i,x)=>(i,ev s x))).run P w=.ok (.agg vs.toArray) w:=by
  unfold Instr.build
  simp only[Sem.run_bind,zeroValue,typeInfo,run_program,hi,hz,Sem.run_pure,Result.andThen_ok,run_underlying hT.arr,hT.el.sizeOf,hc,hparts]
  simp[hf]
 simp only[List.map_toArray]at key
 simp[execOp,key]
def wrF (f:FuncId):Value:=.func (.func f) #[] #[]
def wrFs:aVs:=[.nilFunc,wrF 70,wrF 71,wrF 72,wrF 73,wrF 74,wrF 75,wrF 76,wrF 77,wrF 78,wrF 79]
theorem tK (h:Heap):bZ Tryz.prog 34 [] h fun r h'=>r=.agg ⟨wrFs⟩∧Own h [] h':=by
 refine aCV Tryz.func34 rfl Tryz.ntmps34 (by kernel_rfl) ?_;have o0:=Own.refl h;(refine aCN o0 ty80 ?_;intro b10 m10 o10);refine rR (buildG (vs:=wrFs) arr80 ty80 (by kernel_rfl) ?_);unfold wrFs wrF;(refine aCf o10 0 rfl ty80 rfl (by decide) (aI ⟨rfl,rfl⟩ ?_);intro m20 o20);refine aCr rfl o20 0 rfl ty80 rfl rfl ?_
 exact⟨rfl,o20.sel [] rfl⟩
theorem zL (i:Nat):(cG.getD i []).length≤7:=by
 by_cases h:i<7
 ·have:i=0∨i=1∨i=2∨i=3∨i=4∨i=5∨i=6:=by omega
  rcases this with rfl|rfl|rfl|rfl|rfl|rfl|rfl<;>decide
 ·rw[aDw,aDQ (by show 7≤i;omega)]
  decide
theorem kZ:∀ {l:List Ex}{i:Nat}{x:Ex},l[i]?=some x→bY x≤cK l
 | [],_,_,h=>by simp at h
 | y::l,0,x,h=>by simp at h;subst h;rw[cK];exact Nat.le_max_left _ _
 | y::l,i+1,x,h=>by
  have:=kZ (l:=l) (i:=i) (x:=x) (by simpa using h)
  rw[cK]
  exact aDk this (Nat.le_max_right _ _)
theorem oZ:∀(x:Ex),1≤bY x
 | .mk _ _ _ _ _ _ _ _ _=>by rw[bY];omega
def aAH (b n:Nat):Prop:=∀(x:Ex)(B:Base)(c:aVs)(be:aBs)(lev:Int)(p v:Value)(k:Int)(bs:aBs)(h:Heap)(_:fY x≤n)(_:gA x)(_:kN B.h c x)(_:cO b p)(_:be=[]∨be=[32])(_:0≤lev∧lev+bY x≤1000000000000)(_:jO B.h)(_:gX B.h)
  (_:Own B [box b [p,v,.int .i64 k] 58,row v 5 1 bs.length (bytes bs)] h) (_:bs.length+2000*fI x≤50000000000000) (_:0≤k∧k+2000*fI x≤50000000000000),
  Spec Tryz.prog 128 [.pointer (some ⟨b,0,none⟩),.string ⟨⟨be⟩⟩,.agg ⟨c⟩,.int .i64 lev] h (XEnds B b bs k (2000*fI x) (fZ be x) (lev+bY x - 1))
theorem prExpr_cT (b n:Nat)(hIH:aAH b n)(kd:Int)(tb:aBs)(ks:List Ex)(cs:List Cnd)(ns:List aBs)(a s:aBs)(g:Int)(off:Nat)(hcls:kd<2∨8<kd)(B:Base)(c:aVs)(be:aBs)(lev:Int)(p v:Value)(k:Int)(bs:aBs)(h:Heap)(hd:fY (.mk kd tb ks cs ns a s g off)≤n+1)(hOK:gA (.mk kd tb ks cs ns a s g off))(hc:kN B.h c (.mk kd tb ks cs ns a s g off))(hp:cO b p)(hbe:be=[]∨be=[32])(hlev:0≤lev∧lev+bY (.mk kd tb ks cs ns a s g off)≤1000000000000)(hT:jO B.h)(hF:gX B.h)
  (o:Own B [box b [p,v,.int .i64 k] 58,row v 5 1 bs.length (bytes bs)] h) (hl:bs.length+2000*fI (.mk kd tb ks cs ns a s g off)≤50000000000000) (hk:0≤k∧k+2000*fI (.mk kd tb ks cs ns a s g off)≤50000000000000) :
  Spec Tryz.prog 128 [.pointer (some ⟨b,0,none⟩),.string ⟨⟨be⟩⟩,.agg ⟨c⟩,.int .i64 lev] h (XEnds B b bs k (2000*fI (.mk kd tb ks cs ns a s g off)) (fZ be (.mk kd tb ks cs ns a s g off)) (lev+bY (.mk kd tb ks cs ns a s g off) - 1)):=by
  rw[fY]at hd
  rw[gA]at hOK
  rw[kN]at hc
  rw[fI]at hl hk ⊢
  rw[bY]at hlev ⊢
  rw[show lev+((cK ks+1:Nat):Int) - 1=lev+cK ks by omega]
  obtain⟨bk,btb,bks,bcs,bns,ba,bs_,bg,lk,lc,ln⟩:=hOK
  obtain⟨vk,vc,vn,z,rfl,q1,q2,xs,q3,rk⟩:=hc
  rw[gR]at q2
  obtain⟨e1,f1,rfl⟩:=q1.isS
  obtain⟨e2,f2,rfl⟩:=q2.isS
  obtain⟨e3,f3,rfl⟩:=q3.isS
  unfold qE;have hxs:xs.length=ks.length:=kH rk;have hbel:be.length≤1:=by rcases hbe with rfl|rfl<;>simp
  refine aCV Tryz.func128 rfl Tryz.ntmps128 (by kernel_rfl) ?_;by_cases hkd:1≤kd∧kd≤8
  case neg =>
   have hq:fZ be (.mk kd tb ks cs ns a s g off)=none:=by rw[fZ,if_neg (fun h=>hkd ⟨h.1,h.2.1⟩)]
   by_cases h1:1≤kd
   ·(refine aCq o rfl ?_;intro b10 m10 o10)
    refine aCS [0,2,3,4,6,7,8,9,11,12,14,15,17,18] [1,5,10,13,16] [19] [0,1,2,3,4,5,6,7,8,9,10,11,12,13,14,15,16,17,18,19] mixed (by kernel_rfl) rfl (fun _ _ _ _ h=>h) ?_;refine fA aM rfl rfl rfl ?_;refine aCc o10 2 rfl aT rfl rfl ?_;refine aCP (fun c13=>?_) (fun hc=>absurd (by omega) hc);refine fA aM rfl rfl rfl ?_;refine aCc o10 2 rfl aT rfl rfl ?_;refine aCP (fun hc=>absurd hc (by omega)) (fun c16=>?_);refine aCh ‹_› (aE _ _) (fun e1 m2 _ oq=>by cases e1) fun e1 m2 oq=>?_
    exact⟨hq,rfl,oq⟩
   ·(refine aCq o rfl ?_;intro b30 m30 o30)
    refine aCS [0,2,3,4,6,7,8,9,11,12,14,15,17,18] [1,5,10,13,16] [19] [0,1,2,3,4,5,6,7,8,9,10,11,12,13,14,15,16,17,18,19] mixed (by kernel_rfl) rfl (fun _ _ _ _ h=>h) ?_;refine fA aM rfl rfl rfl ?_;refine aCc o30 2 rfl aT rfl rfl ?_;refine aCP (fun hc=>absurd hc (by omega)) (fun c33=>?_);refine aCh ‹_› (aE _ _) (fun e1 m2 _ oq=>by cases e1) fun e1 m2 oq=>?_
    exact⟨hq,rfl,oq⟩
  have hfa:=oY hF kd hkd.1 hkd.2;have hf1:=hfa.1;(refine aCq o rfl ?_;intro b50 m50 o50);refine aCS [0,2,3,4,6,7,8,9,11,12,14,15,17,18] [1,5,10,13,16] [19] [0,1,2,3,4,5,6,7,8,9,10,11,12,13,14,15,16,17,18,19] mixed (by kernel_rfl) rfl (fun _ _ _ _ h=>h) ?_;refine fA aM rfl rfl rfl ?_;refine aCc o50 2 rfl aT rfl rfl ?_;refine aCP (fun c53=>?_) (fun hc=>absurd (by omega) hc);refine fA aM rfl rfl rfl ?_;refine aCc o50 2 rfl aT rfl rfl ?_;refine aCP (fun c56=>?_) (fun hc=>absurd (by omega) hc);refine fA aM rfl rfl rfl ?_;refine aCc o50 2 rfl cQ rfl rfl ?_;refine aCk rfl bV ?_;refine fA aM rfl rfl rfl ?_;refine aCc o50 2 rfl aT rfl rfl ?_;refine aCw Tryz.underlying195 pW rfl rfl (by omega) (by omega) ?_;refine fA qL rfl rfl rfl ?_;refine load1 aT rfl (o50.old hf1) ?_;refine aCh ‹_› (aE _ _) (fun e1 m2 oc oq=>?_) fun e1 m2 oq=>?_
  case refine_2 =>
   have e1:=of_decide_eq_false e1;have hq:fZ be (.mk kd tb ks cs ns a s g off)=none:=by rw[fZ,if_neg (fun h=>e1 (by rw[h.2.2.1]))]
   exact⟨hq,rfl,oq⟩
  have hkl:ks.length=iM kd:=by have:=of_decide_eq_true e1;omega
  clear e1 oc;by_cases hkone:kd=1
  ·subst hkone
   obtain rfl:ks=[]:=aDB.1 hkl;have hexQ:fZ be (.mk 1 tb [] cs ns a s g off)=if gD 1 tb cs ns a s g=true then aZ be tb else none:=by
    rw[fZ]
    by_cases hb:gD 1 tb cs ns a s g=true
    ·rw[if_pos ⟨by decide,by decide,rfl,hb⟩,if_pos rfl,if_pos hb]
    ·rw[if_neg (fun h=>hb h.2.2.2),if_neg hb]
   have hB:gD 1 tb cs ns a s g=true↔cs.length=0∧ns.length=0∧a=[]∧s=[]∧g=0:=by simp[gD]
   refine rR (aCg oq 2 rfl aS rfl rfl rfl ?_);(refine aCN oq aS ?_;intro b101 m101 o101);(refine aCf o101 3 rfl aS rfl (by decide) (aI ⟨rfl,rfl⟩ ?_);intro m102 o102);refine rR (fA aM rfl rfl rfl ?_);(refine aCL o102 3 rfl aT rfl (by simp) (aI ⟨rfl,rfl⟩ ?_);intro m104 o104);refine rR (fA aM rfl rfl rfl ?_);(refine aCL o104 3 rfl cQ rfl (by simp) (aI ⟨rfl,rfl⟩ ?_);intro m106 o106);refine rR (fA aM rfl rfl rfl ?_);(refine aCL o106 3 rfl aT rfl (by simp) (aI ⟨rfl,rfl⟩ ?_);intro m108 o108);refine rR (fA aM rfl rfl rfl ?_);refine rR (aCc o108 2 rfl aT rfl rfl ?_);refine aCQ ?_;refine aCS [0,1,2,3,4,7] [5] [6,8,9] [0,1,2,3,4,5,6,7,8,9] mixed (by kernel_rfl) rfl (fun _ _ _ _ h=>h) ?_;refine nC rfl ?_;refine fA bO rfl rfl rfl ?_;refine fA aM rfl rfl rfl ?_;refine aCc o108 2 rfl aL rfl rfl ?_;refine aCh ‹_› (bJ tb _ btb) (fun en m3 oc oq=>?_) fun en m3 oq=>?_
   case refine_2 =>
    exact⟨hexQ.trans (by rw[cS en];split<;>rfl),rfl,oq⟩
   have hnl:=cR en;clear oc;refine aCm rfl rfl (by first|omega|(simp;omega)) ?_;(refine aCM oq aK aL rfl rfl (by decide) (aI rfl ?_);intro b121 m121 o121);refine aH [be++tb] 1 30 [2,3] (i:=4) ‹_› rfl rfl rfl hp rfl (by omega) (by omega) (by simp;omega) (by omega) (by omega) (fun p1 v1 bs1 k1 m1 hp1 hb1 hk1 hl1 oq=>?_);have o4:Own B [box b [p1,v1,.int .i64 k1] 58,row v1 5 1 bs1.length (bytes bs1),box b50 [.int .i64 1,.string ⟨⟨tb⟩⟩,.slice e3 ([]:List Ex).length f3,.slice e1 cs.length f1,.slice e2 ns.length f2,.string ⟨⟨a⟩⟩,.string ⟨⟨s⟩⟩,.int .i64 g,.int .i64 z] 42,box b101 [.int .i64 0,.string ⟨⟨tb⟩⟩,.slice none 0 0,.slice e1 cs.length f1,.slice e2 ns.length f2,.string ⟨⟨a⟩⟩,.string ⟨⟨s⟩⟩,.int .i64 g,.int .i64 0] 42] m1:=oq;clear oq
   rw[show lev+((cK []:Nat):Int)=lev by simp[cK]]
   refine rR (fA aM rfl rfl rfl ?_);(refine aCL o4 3 rfl aL rfl (by simp) (aI ⟨rfl,rfl⟩ ?_);intro m151 o151);refine rR (fA aM rfl rfl rfl ?_);refine rR (aCc o151 2 rfl cQ rfl rfl ?_);refine rR (aCk rfl bV ?_);refine aCZ [10,11,12,67,68,69,70,71,72,73,74,75,76,77,78,79,80,81,82,83,84,85,86,87,88,89,90] [10,67] (fun vs' hh=>vs'=[.int .i64 lev,.int .i64 0]∧Own B [box b [p1,v1,.int .i64 k1] 58,row v1 5 1 bs1.length (bytes bs1),box b50 [.int .i64 1,.string ⟨⟨tb⟩⟩,.slice e3 ([]:List Ex).length f3,.slice e1 cs.length f1,.slice e2 ns.length f2,.string ⟨⟨a⟩⟩,.string ⟨⟨s⟩⟩,.int .i64 g,.int .i64 z] 42,box b101 [.int .i64 0,.string ⟨⟨[]⟩⟩,.slice none 0 0,.slice e1 cs.length f1,.slice e2 ns.length f2,.string ⟨⟨a⟩⟩,.string ⟨⟨s⟩⟩,.int .i64 g,.int .i64 0] 42] hh) (fun vs' _=>0) ?_ ?_
   ·exact⟨rfl,o151⟩
   rintro vs' junk hh ⟨rfl,oh⟩;clear o151 o4;refine aCR ?_;refine rR (fA aM rfl rfl rfl ?_);refine rR (aCc oh 2 rfl aT rfl rfl ?_);refine aCQ ?_;refine rR (fA aM rfl rfl rfl ?_);refine rR (aCc oh 2 rfl aT rfl rfl ?_);refine aCR ?_;refine rR (fA aM rfl rfl rfl ?_);refine rR (aCc oh 3 rfl aL rfl rfl ?_);refine aCQ ?_;refine rR (fA aM rfl rfl rfl ?_);refine rR (aCc oh 3 rfl mL rfl rfl ?_);refine rR (aCk rfl jA ?_);refine aCP (fun c169=>?_) (fun c169=>?_);refine rR (fA aM rfl rfl rfl ?_);refine rR (aCc oh 3 rfl eV rfl rfl ?_);refine rR (aCk rfl aK ?_);refine aCP (fun c173=>?_) (fun c173=>?_);refine rR (fA aM rfl rfl rfl ?_);refine rR (aCc oh 3 rfl aL rfl rfl ?_);refine aCP (fun c176=>?_) (fun c176=>?_);refine rR (fA aM rfl rfl rfl ?_);refine rR (aCc oh 3 rfl aL rfl rfl ?_);refine aCP (fun c179=>?_) (fun c179=>?_);refine rR (fA aM rfl rfl rfl ?_);refine rR (aCc oh 3 rfl aT rfl rfl ?_)
   any_goals (refine aCh (B:=B) ‹_› (aE false _) (fun e8 m8 _ oq=>by cases e8) fun e8 m8 oq=>?_;exact⟨hexQ.trans (if_neg fun hb=>by obtain⟨x0,x1,x2,x3,x4⟩:=hB.1 hb;first|contradiction|omega),rfl,oq⟩)
   refine aCh (B:=B) ‹_› (aE _ _) (fun e8 m8 _ oq=>?_) fun e8 m8 oq=>?_
   case refine_2 =>
    have e8:=of_decide_eq_false e8
    exact⟨hexQ.trans (if_neg fun hb=>by obtain⟨x0,x1,x2,x3,x4⟩:=hB.1 hb;omega),rfl,oq⟩
   have e8:=of_decide_eq_true e8;have hbare:=hB.2 ⟨by omega,by omega,by assumption,by assumption,by omega⟩;refine aCX rfl ?_;exact XEnds.done (hexQ.trans ((if_pos hbare).trans (aA en))) (oq.sel [0,1] rfl) hp1 (by rw[hb1];simp[bG,fL,wr,aD]) hk1 (by omega) (by omega)
  ·exact(by omega:False).elim
theorem prExpr_cD (b n:Nat)(hIH:aAH b n)(kd:Int)(tb:aBs)(ks:List Ex)(cs:List Cnd)(ns:List aBs)(a s:aBs)(g:Int)(off:Nat)(hcls:kd=4∨kd=5∨kd=6)(B:Base)(c:aVs)(be:aBs)(lev:Int)(p v:Value)(k:Int)(bs:aBs)(h:Heap)(hd:fY (.mk kd tb ks cs ns a s g off)≤n+1)(hOK:gA (.mk kd tb ks cs ns a s g off))(hc:kN B.h c (.mk kd tb ks cs ns a s g off))(hp:cO b p)(hbe:be=[]∨be=[32])(hlev:0≤lev∧lev+bY (.mk kd tb ks cs ns a s g off)≤1000000000000)(hT:jO B.h)(hF:gX B.h)
  (o:Own B [box b [p,v,.int .i64 k] 58,row v 5 1 bs.length (bytes bs)] h) (hl:bs.length+2000*fI (.mk kd tb ks cs ns a s g off)≤50000000000000) (hk:0≤k∧k+2000*fI (.mk kd tb ks cs ns a s g off)≤50000000000000) :
  Spec Tryz.prog 128 [.pointer (some ⟨b,0,none⟩),.string ⟨⟨be⟩⟩,.agg ⟨c⟩,.int .i64 lev] h (XEnds B b bs k (2000*fI (.mk kd tb ks cs ns a s g off)) (fZ be (.mk kd tb ks cs ns a s g off)) (lev+bY (.mk kd tb ks cs ns a s g off) - 1)):=by
  rw[fY]at hd
  rw[gA]at hOK
  rw[kN]at hc
  rw[fI]at hl hk ⊢
  rw[bY]at hlev ⊢
  rw[show lev+((cK ks+1:Nat):Int) - 1=lev+cK ks by omega]
  obtain⟨bk,btb,bks,bcs,bns,ba,bs_,bg,lk,lc,ln⟩:=hOK
  obtain⟨vk,vc,vn,z,rfl,q1,q2,xs,q3,rk⟩:=hc
  rw[gR]at q2
  obtain⟨e1,f1,rfl⟩:=q1.isS
  obtain⟨e2,f2,rfl⟩:=q2.isS
  obtain⟨e3,f3,rfl⟩:=q3.isS
  unfold qE;have hxs:xs.length=ks.length:=kH rk;have hbel:be.length≤1:=by rcases hbe with rfl|rfl<;>simp
  refine aCV Tryz.func128 rfl Tryz.ntmps128 (by kernel_rfl) ?_;by_cases hkd:1≤kd∧kd≤8
  case neg =>
   exact(by omega:False).elim
  have hfa:=oY hF kd hkd.1 hkd.2;have hf1:=hfa.1;(refine aCq o rfl ?_;intro b50 m50 o50);refine aCS [0,2,3,4,6,7,8,9,11,12,14,15,17,18] [1,5,10,13,16] [19] [0,1,2,3,4,5,6,7,8,9,10,11,12,13,14,15,16,17,18,19] mixed (by kernel_rfl) rfl (fun _ _ _ _ h=>h) ?_;refine fA aM rfl rfl rfl ?_;refine aCc o50 2 rfl aT rfl rfl ?_;refine aCP (fun c53=>?_) (fun hc=>absurd (by omega) hc);refine fA aM rfl rfl rfl ?_;refine aCc o50 2 rfl aT rfl rfl ?_;refine aCP (fun c56=>?_) (fun hc=>absurd (by omega) hc);refine fA aM rfl rfl rfl ?_;refine aCc o50 2 rfl cQ rfl rfl ?_;refine aCk rfl bV ?_;refine fA aM rfl rfl rfl ?_;refine aCc o50 2 rfl aT rfl rfl ?_;refine aCw Tryz.underlying195 pW rfl rfl (by omega) (by omega) ?_;refine fA qL rfl rfl rfl ?_;refine load1 aT rfl (o50.old hf1) ?_;refine aCh ‹_› (aE _ _) (fun e1 m2 oc oq=>?_) fun e1 m2 oq=>?_
  case refine_2 =>
   have e1:=of_decide_eq_false e1;have hq:fZ be (.mk kd tb ks cs ns a s g off)=none:=by rw[fZ,if_neg (fun h=>e1 (by rw[h.2.2.1]))]
   exact⟨hq,rfl,oq⟩
  have hkl:ks.length=iM kd:=by have:=of_decide_eq_true e1;omega
  clear e1 oc;by_cases hkone:kd=1
  ·exact(by omega:False).elim
  ·have hexQ:fZ be (.mk kd tb ks cs ns a s g off)=if gD kd tb cs ns a s g=true then aJ [some [aD be (cG.getD (kd - 2).toNat []),aO [] [40]],cZ (dY fZ) ks,dT kd cs ns a s g,some [aO [] [41]]] else none:=by
    rw[fZ]
    by_cases hb:gD kd tb cs ns a s g=true
    ·rw[if_pos ⟨hkd.1,hkd.2,hkl,hb⟩,if_neg hkone,if_pos hb,nK]
    ·rw[if_neg (fun h=>hb h.2.2.2),if_neg hb]
   have hf2:=hfa.2 hkone;have hol:=zL (kd - 2).toNat;generalize cG.getD (kd - 2).toNat []=opw at hexQ hf2 hol;clear hfa;refine rR (aCg oq 2 rfl aS rfl rfl rfl ?_);(refine aCN oq aS ?_;intro b201 m201 o201);(refine aCf o201 3 rfl aS rfl (by decide) (aI ⟨rfl,rfl⟩ ?_);intro m202 o202);refine rR (fA aM rfl rfl rfl ?_);(refine aCL o202 3 rfl aT rfl (by simp) (aI ⟨rfl,rfl⟩ ?_);intro m204 o204);refine rR (fA aM rfl rfl rfl ?_);(refine aCL o204 3 rfl cQ rfl (by simp) (aI ⟨rfl,rfl⟩ ?_);intro m206 o206);refine rR (fA aM rfl rfl rfl ?_);(refine aCL o206 3 rfl aT rfl (by simp) (aI ⟨rfl,rfl⟩ ?_);intro m208 o208);refine rR (fA aM rfl rfl rfl ?_);refine rR (aCc o208 2 rfl aT rfl rfl ?_);refine aCP (fun hc=>absurd hc (by omega)) (fun c211=>?_);refine aCS [0,1,2,3,4,6,7,9] [5,8] [10,11] [0,1,2,3,4,5,6,7,8,9,10,11] mixed (by kernel_rfl) rfl (fun _ _ _ _ h=>h) ?_;refine nC rfl ?_;refine fA bO rfl rfl rfl ?_;refine fA aM rfl rfl rfl ?_;refine aCc o208 2 rfl aT rfl rfl ?_;refine aCw Tryz.underlying195 pW rfl rfl (by omega) (by omega) ?_;refine fA qL rfl rfl rfl ?_;refine load1 aL rfl (o208.old hf2) ?_;refine aCm rfl rfl (by first|omega|(simp;omega)) ?_;(refine aCM o208 aK aL rfl rfl (by decide) (aI rfl ?_);intro b220 m220 o220);refine aH [be++opw,[40]] 2 30 [2,3] (i:=4) ‹_› rfl rfl rfl hp rfl (by omega) (by omega) (by simp;omega) (by omega) (by omega) (fun p1 v1 bs1 k1 m1 hp1 hb1 hk1 hl1 oq=>?_);have o4:Own B [box b [p1,v1,.int .i64 k1] 58,row v1 5 1 bs1.length (bytes bs1),box b50 [.int .i64 kd,.string ⟨⟨tb⟩⟩,.slice e3 ks.length f3,.slice e1 cs.length f1,.slice e2 ns.length f2,.string ⟨⟨a⟩⟩,.string ⟨⟨s⟩⟩,.int .i64 g,.int .i64 z] 42,box b201 [.int .i64 0,.string ⟨⟨tb⟩⟩,.slice none 0 0,.slice e1 cs.length f1,.slice e2 ns.length f2,.string ⟨⟨a⟩⟩,.string ⟨⟨s⟩⟩,.int .i64 g,.int .i64 0] 42] m1:=oq
   clear oq;refine rR (fA aM rfl rfl rfl ?_);refine rR (aCc o4 2 rfl cQ rfl rfl ?_);refine rR (aCk rfl bV ?_);refine aCZ [10,11,12,67,68,69,70,71,72,73,74,75,76,77,78,79,80,81,82,83,84,85,86,87,88,89,90] [10,67] (fun vs' hh=>∃(i:Nat) (p' v':Value) (bs':aBs) (k':Int) (ps:List Pc),i≤ks.length∧vs'=[.int .i64 (lev+cK (ks.take i)),.int .i64 i]∧cO b p'∧cZ (dY fZ) (ks.take i)=some ps∧bs'=bs1++bG ps∧k'=k1+ps.length∧bs'.length≤bs1.length+(2000*fS (ks.take i)+30*i)∧k'≤k1+(2000*fS (ks.take i)+30*i)∧Own B [box b [p',v',.int .i64 k'] 58,row v' 5 1 bs'.length (bytes bs'),box b50 [.int .i64 kd,.string ⟨⟨tb⟩⟩,.slice e3 ks.length f3,.slice e1 cs.length f1,.slice e2 ns.length f2,.string ⟨⟨a⟩⟩,.string ⟨⟨s⟩⟩,.int .i64 g,.int .i64 z] 42,box b201 [.int .i64 0,.string ⟨⟨tb⟩⟩,.slice none 0 0,.slice e1 cs.length f1,.slice e2 ns.length f2,.string ⟨⟨a⟩⟩,.string ⟨⟨s⟩⟩,.int .i64 g,.int .i64 0] 42] hh) (fun vs' _=>match vs' with|[_,.int _ i]=>ks.length - i.toNat|_=>0) ?_ ?_
   ·exact⟨0,p1,v1,bs1,k1,[],by omega,by simp[cK],hp1,rfl,by simp[bG],by simp,by omega,by omega,o4⟩
   rintro vs' junk hh ⟨i,p',v',bs',k',ps,hi,rfl,hp',hQ,hb',hk',hl',hk2,oh⟩;clear o4;have hk2s:ks.length≤2:=by rw[hkl];unfold iM;split<;>(try split)<;>omega
   have hszl:=eB ks i;by_cases hlt:i<ks.length
   ·obtain⟨kx,hkx⟩:=getx hlt
    obtain⟨cx,hcx,hrx⟩:=jF rk hkx
    have hdx:=gJ hkx;have hsz:=kY hkx;have hszl2:=eB ks (i+1);have hlv:=jV hkx;have hlvl:bY kx≤cK ks:=kZ hkx;have hlp:=oZ kx;have hxOK:=gU bks hkx;have hrx2:=hrx
    obtain⟨cxv,hcl⟩:=cx
    obtain⟨xk,xt,xks,xcs,xns,xa,xs_,xg,xo⟩:=kx
    rw[kN]at hrx2
    obtain⟨wk,wc,wn,wz,hcv,g1,g2,gx,g3,_⟩:=hrx2
    obtain⟨h1,h2,rfl⟩:=g1.isS
    obtain⟨h3,h4,rfl⟩:=g2.isS
    obtain⟨h5,h6,rfl⟩:=g3.isS
    dsimp only at hcv hrx;subst hcv;unfold qE at hcx hrx hcl;clear g1 g2 g3;by_cases h0:i=0
    ·subst h0
     refine aCP (fun c400=>?_) (fun hc=>absurd (by omega) hc);refine rR (aCn bV aS (q3.ext oh.ext) rfl (by omega) (by omega) ?_);refine rR (aCp aS (q3.ext oh.ext) (fun y:cX=>y.2) (by decide) rfl ‹_› ?_);(refine aCN oh aS ?_;intro b403 m403 o403);(refine aCf o403 4 rfl aS rfl (by decide) (aI ⟨rfl,rfl⟩ ?_);intro m404 o404);refine aCR ?_;refine aCS [0,1,3,4,7,8,10,11] [5,6] [9] [0,1,3,6,7,8,2,4,5,9,10,11] mixed (by kernel_rfl) rfl (fun _ _ _ _ h=>h) ?_;refine aCg o404 4 rfl aS rfl rfl rfl ?_;refine aCW (by omega) (by omega) ?_;(refine aCM (Own.refl _) aK aL rfl rfl (by decide) (aI rfl ?_);intro b406 m406 o406);(refine aI o406.ext ?_;have o407:=Own.call o404 o406;simp only[lcA,lnA]at o407;clear o406);refine idxB o407 5 rfl aK aL rfl rfl (by omega) (by first|omega|(simp;omega)) ?_;refine aCc o407 5 rfl aL rfl rfl ?_;refine XEnds.callJ [2,3] ‹_› rfl rfl (fun J oj=>hIH _ _ _ [] _ p' v' k' bs' _ (aDk hdx (by omega)) hxOK hrx hp' (.inl rfl) (by omega) hT hF oj (by omega) (by omega)) (fun ps2 p2 v2 bs2 k2 m2 hq2 hp2 hb2 hk2' hl2 _ hj2 oq=>?_) (fun m2 hq2 oq=>?_)
     case refine_2 =>
      have:cZ (dY fZ) ks=none:=aR hkx hQ hq2
      exact⟨hexQ.trans (by split;simp only[this,aJ,oMN];rfl),rfl,oq⟩
     have o5:Own B [box b [p2,v2,.int .i64 k2] 58,row v2 5 1 bs2.length (bytes bs2),box b50 [.int .i64 kd,.string ⟨⟨tb⟩⟩,.slice e3 ks.length f3,.slice e1 cs.length f1,.slice e2 ns.length f2,.string ⟨⟨a⟩⟩,.string ⟨⟨s⟩⟩,.int .i64 g,.int .i64 z] 42,box b201 [.int .i64 0,.string ⟨⟨tb⟩⟩,.slice none 0 0,.slice e1 cs.length f1,.slice e2 ns.length f2,.string ⟨⟨a⟩⟩,.string ⟨⟨s⟩⟩,.int .i64 g,.int .i64 0] 42] m2:=oq;clear oq;refine max2 rfl rfl ?_;refine aCW (by omega) (by omega) ?_
     refine⟨rfl,?_⟩
     refine⟨⟨0+1,p2,v2,bs2,k2,ps++ps2,by omega,?_,hp2,bA hkx hQ hq2,by rw[hb2,hb'];simp[bG],by rw[hk2',hk'];simp;omega,by omega,by omega,Own.sel ‹_› [0,1,2,3] rfl⟩,by simp;omega⟩
     congr 2
     omega
    ·obtain rfl:i=1:=by omega
     refine aCP (fun c500=>?_) (fun hc=>absurd (by omega) hc);refine rR (aCn bV aS (q3.ext oh.ext) rfl (by omega) (by omega) ?_);refine rR (aCp aS (q3.ext oh.ext) (fun y:cX=>y.2) (by decide) rfl ‹_› ?_);(refine aCN oh aS ?_;intro b503 m503 o503);(refine aCf o503 4 rfl aS rfl (by decide) (aI ⟨rfl,rfl⟩ ?_);intro m504 o504);refine aCQ ?_;refine rR (nC rfl ?_);refine rR (fA bO rfl rfl rfl ?_);(refine aCM o504 aK aL rfl rfl (by decide) (aI rfl ?_);intro b507 m507 o507);refine aH [[44]] 1 30 [2,3,4] (i:=5) ‹_› rfl rfl rfl hp' rfl (by omega) (by omega) (by simp) (by omega) (by omega) (fun p3 v3 bs3 k3 m3 hp3 hb3 hk3 hl3 oq=>?_);have o5:=oq
     simp only[pick,lgS,lgZ]at o5
     clear oq oh;refine aCS [0,1,3,4,7,8,10,11] [5,6] [9] [0,1,3,6,7,8,2,4,5,9,10,11] mixed (by kernel_rfl) rfl (fun _ _ _ _ h=>h) ?_;refine aCg o5 4 rfl aS rfl rfl rfl ?_;refine aCW (by omega) (by omega) ?_;(refine aCM (Own.refl _) aK aL rfl rfl (by decide) (aI rfl ?_);intro b551 m551 o551);(refine aI o551.ext ?_;have o552:=Own.call o5 o551;simp only[lcA,lnA]at o552;clear o551);refine idxB o552 5 rfl aK aL rfl rfl (by omega) (by first|omega|(simp;omega)) ?_;refine aCc o552 5 rfl aL rfl rfl ?_;refine XEnds.callJ [2,3] ‹_› rfl rfl (fun J oj=>hIH _ _ _ [32] _ p3 v3 k3 bs3 _ (aDk hdx (by omega)) hxOK hrx hp3 (.inr rfl) (by omega) hT hF oj (by omega) (by omega)) (fun ps2 p2 v2 bs2 k2 m2 hq2 hp2 hb2 hk2' hl2 _ hj2 oq=>?_) (fun m2 hq2 oq=>?_)
     case refine_2 =>
      have:cZ (dY fZ) ks=none:=aR hkx hQ (by unfold dY;rw[if_neg (by decide),hq2];rfl)
      exact⟨hexQ.trans (by split;simp only[this,aJ,oMN];rfl),rfl,oq⟩
     have o6:Own B [box b [p2,v2,.int .i64 k2] 58,row v2 5 1 bs2.length (bytes bs2),box b50 [.int .i64 kd,.string ⟨⟨tb⟩⟩,.slice e3 ks.length f3,.slice e1 cs.length f1,.slice e2 ns.length f2,.string ⟨⟨a⟩⟩,.string ⟨⟨s⟩⟩,.int .i64 g,.int .i64 z] 42,box b201 [.int .i64 0,.string ⟨⟨tb⟩⟩,.slice none 0 0,.slice e1 cs.length f1,.slice e2 ns.length f2,.string ⟨⟨a⟩⟩,.string ⟨⟨s⟩⟩,.int .i64 g,.int .i64 0] 42] m2:=oq;clear oq;refine max2 rfl rfl ?_;refine aCW (by omega) (by omega) ?_
     refine⟨rfl,?_⟩
     refine⟨⟨1+1,p2,v2,bs2,k2,ps++(aO [] [44]::ps2),by omega,?_,hp2,bA hkx hQ (by unfold dY;rw[if_neg (by decide),hq2];rfl),by rw[hb2,hb3,hb'];simp[bG,fL,wr,aO],by rw[hk2',hk3,hk'];simp;omega,by omega,by omega,Own.sel ‹_› [0,1,2,3] rfl⟩,by simp;omega⟩
     congr 2
     omega
   have hQ:=fR (aDt hlt) hQ
   rw[aDm (aDt hlt)]at hl' hk2 ⊢
   by_cases hk2x:kd=2
   ·exact(by omega:False).elim
   by_cases hk3x:kd=3
   ·exact(by omega:False).elim
   by_cases hk7x:kd=7
   ·exact(by omega:False).elim
   by_cases hk8x:kd=8
   ·exact(by omega:False).elim
   have hR:dT kd cs ns a s g=some []:=by unfold dT;rw[if_neg hk2x,if_neg hk3x,if_neg hk7x,if_neg hk8x]
   have hB:gD kd tb cs ns a s g=true↔tb=[]∧cs.length=0∧ns.length=0∧a=[]∧s=[]∧g=0:=by simp[gD,hkone,hk2x,hk3x,hk7x,hk8x]
   refine aCP (fun hc=>absurd hc (by omega)) (fun c4100=>?_);refine rR (fA aM rfl rfl rfl ?_);refine rR (aCc oh 2 rfl aT rfl rfl ?_);refine aCP (fun hc=>absurd hc (by omega)) (fun c4103=>?_);refine aCP (fun hc=>absurd hc (by omega)) (fun c4104=>?_);refine aCP (fun hc=>absurd hc (by omega)) (fun c4105=>?_);refine aCP (fun hc=>absurd hc (by omega)) (fun c4106=>?_);refine aCP (fun hc=>absurd hc (by omega)) (fun c4107=>?_);refine rR (fA aM rfl rfl rfl ?_);refine rR (aCc oh 2 rfl aT rfl rfl ?_);refine aCi (fun c4110=>?_) (fun hc=>absurd hc (by first|omega|assumption|decide|exact rfl));refine rR (nC rfl ?_);refine rR (fA bO rfl rfl rfl ?_);(refine aCM oh aK aL rfl rfl (by decide) (aI rfl ?_);intro b4113 m4113 o4113);refine aH [[41]] 1 30 [2,3] (i:=4) ‹_› rfl rfl rfl hp' rfl (by omega) (by omega) (by simp) (by omega) (by omega) (fun p9 v9 bs9 k9 m9 hp9 hb9 hk9 hl9 oq=>?_);have o9:Own B [box b [p9,v9,.int .i64 k9] 58,row v9 5 1 bs9.length (bytes bs9),box b50 [.int .i64 kd,.string ⟨⟨tb⟩⟩,.slice e3 ks.length f3,.slice e1 cs.length f1,.slice e2 ns.length f2,.string ⟨⟨a⟩⟩,.string ⟨⟨s⟩⟩,.int .i64 g,.int .i64 z] 42,box b201 [.int .i64 0,.string ⟨⟨tb⟩⟩,.slice none 0 0,.slice e1 cs.length f1,.slice e2 ns.length f2,.string ⟨⟨a⟩⟩,.string ⟨⟨s⟩⟩,.int .i64 g,.int .i64 0] 42] m9:=oq;clear oq;refine rR (fA aM rfl rfl rfl ?_);refine rR (aCc o9 3 rfl aL rfl rfl ?_);refine aCP (fun c4162=>?_) (fun c4162=>?_);refine rR (fA aM rfl rfl rfl ?_);refine rR (aCc o9 3 rfl mL rfl rfl ?_);refine rR (aCk rfl jA ?_)
   refine aCP (fun c4166=>?_) (fun c4166=>?_);refine rR (fA aM rfl rfl rfl ?_);refine rR (aCc o9 3 rfl eV rfl rfl ?_);refine rR (aCk rfl aK ?_);refine aCP (fun c4170=>?_) (fun c4170=>?_);refine rR (fA aM rfl rfl rfl ?_);refine rR (aCc o9 3 rfl aL rfl rfl ?_);refine aCP (fun c4173=>?_) (fun c4173=>?_);refine rR (fA aM rfl rfl rfl ?_);refine rR (aCc o9 3 rfl aL rfl rfl ?_);refine aCP (fun c4176=>?_) (fun c4176=>?_);refine rR (fA aM rfl rfl rfl ?_);refine rR (aCc o9 3 rfl aT rfl rfl ?_)
   any_goals (refine aCh (B:=B) ‹_› (aE false _) (fun e8 m8 _ oq=>by cases e8) fun e8 m8 oq=>?_;exact⟨hexQ.trans (if_neg fun hb=>by obtain⟨x0,x1,x2,x3,x4,x5⟩:=hB.1 hb;first|contradiction|omega),rfl,oq⟩)
   refine aCh (B:=B) ‹_› (aE _ _) (fun e8 m8 _ oq=>?_) fun e8 m8 oq=>?_
   case refine_2 =>
    have e8:=of_decide_eq_false e8
    exact⟨hexQ.trans (if_neg fun hb=>by obtain⟨x0,x1,x2,x3,x4,x5⟩:=hB.1 hb;omega),rfl,oq⟩
   have e8:=of_decide_eq_true e8;have hbare:=hB.2 ⟨by assumption,by omega,by omega,by assumption,by assumption,by omega⟩;refine aCX rfl ?_;exact XEnds.done (ps:=[aD be opw,aO [] [40]]++(ps++([]++([aO [] [41]]++[])))) (hexQ.trans (by rw[if_pos hbare];simp only[hQ,hR,aJ,oMS])) (oq.sel [0,1] rfl) hp9 (by rw[hb9,hb',hb1];simp[bG,fL,wr,aD,aO]) (by rw[hk9,hk',hk1];simp;omega) (by omega) (by omega)
theorem prExpr_c2 (b n:Nat)(hIH:aAH b n)(kd:Int)(tb:aBs)(ks:List Ex)(cs:List Cnd)(ns:List aBs)(a s:aBs)(g:Int)(off:Nat)(hcls:kd=2)(B:Base)(c:aVs)(be:aBs)(lev:Int)(p v:Value)(k:Int)(bs:aBs)(h:Heap)(hd:fY (.mk kd tb ks cs ns a s g off)≤n+1)(hOK:gA (.mk kd tb ks cs ns a s g off))(hc:kN B.h c (.mk kd tb ks cs ns a s g off))(hp:cO b p)(hbe:be=[]∨be=[32])(hlev:0≤lev∧lev+bY (.mk kd tb ks cs ns a s g off)≤1000000000000)(hT:jO B.h)(hF:gX B.h)
  (o:Own B [box b [p,v,.int .i64 k] 58,row v 5 1 bs.length (bytes bs)] h) (hl:bs.length+2000*fI (.mk kd tb ks cs ns a s g off)≤50000000000000) (hk:0≤k∧k+2000*fI (.mk kd tb ks cs ns a s g off)≤50000000000000) :
  Spec Tryz.prog 128 [.pointer (some ⟨b,0,none⟩),.string ⟨⟨be⟩⟩,.agg ⟨c⟩,.int .i64 lev] h (XEnds B b bs k (2000*fI (.mk kd tb ks cs ns a s g off)) (fZ be (.mk kd tb ks cs ns a s g off)) (lev+bY (.mk kd tb ks cs ns a s g off) - 1)):=by
  rw[fY]at hd
  rw[gA]at hOK
  rw[kN]at hc
  rw[fI]at hl hk ⊢
  rw[bY]at hlev ⊢
  rw[show lev+((cK ks+1:Nat):Int) - 1=lev+cK ks by omega]
  obtain⟨bk,btb,bks,bcs,bns,ba,bs_,bg,lk,lc,ln⟩:=hOK
  obtain⟨vk,vc,vn,z,rfl,q1,q2,xs,q3,rk⟩:=hc
  rw[gR]at q2
  obtain⟨e1,f1,rfl⟩:=q1.isS
  obtain⟨e2,f2,rfl⟩:=q2.isS
  obtain⟨e3,f3,rfl⟩:=q3.isS
  unfold qE;have hxs:xs.length=ks.length:=kH rk;have hbel:be.length≤1:=by rcases hbe with rfl|rfl<;>simp
  refine aCV Tryz.func128 rfl Tryz.ntmps128 (by kernel_rfl) ?_;by_cases hkd:1≤kd∧kd≤8
  case neg =>
   exact(by omega:False).elim
  have hfa:=oY hF kd hkd.1 hkd.2;have hf1:=hfa.1;(refine aCq o rfl ?_;intro b50 m50 o50);refine aCS [0,2,3,4,6,7,8,9,11,12,14,15,17,18] [1,5,10,13,16] [19] [0,1,2,3,4,5,6,7,8,9,10,11,12,13,14,15,16,17,18,19] mixed (by kernel_rfl) rfl (fun _ _ _ _ h=>h) ?_;refine fA aM rfl rfl rfl ?_;refine aCc o50 2 rfl aT rfl rfl ?_;refine aCP (fun c53=>?_) (fun hc=>absurd (by omega) hc);refine fA aM rfl rfl rfl ?_;refine aCc o50 2 rfl aT rfl rfl ?_;refine aCP (fun c56=>?_) (fun hc=>absurd (by omega) hc);refine fA aM rfl rfl rfl ?_;refine aCc o50 2 rfl cQ rfl rfl ?_;refine aCk rfl bV ?_;refine fA aM rfl rfl rfl ?_;refine aCc o50 2 rfl aT rfl rfl ?_;refine aCw Tryz.underlying195 pW rfl rfl (by omega) (by omega) ?_;refine fA qL rfl rfl rfl ?_;refine load1 aT rfl (o50.old hf1) ?_;refine aCh ‹_› (aE _ _) (fun e1 m2 oc oq=>?_) fun e1 m2 oq=>?_
  case refine_2 =>
   have e1:=of_decide_eq_false e1;have hq:fZ be (.mk kd tb ks cs ns a s g off)=none:=by rw[fZ,if_neg (fun h=>e1 (by rw[h.2.2.1]))]
   exact⟨hq,rfl,oq⟩
  have hkl:ks.length=iM kd:=by have:=of_decide_eq_true e1;omega
  clear e1 oc;by_cases hkone:kd=1
  ·exact(by omega:False).elim
  ·have hexQ:fZ be (.mk kd tb ks cs ns a s g off)=if gD kd tb cs ns a s g=true then aJ [some [aD be (cG.getD (kd - 2).toNat []),aO [] [40]],cZ (dY fZ) ks,dT kd cs ns a s g,some [aO [] [41]]] else none:=by
    rw[fZ]
    by_cases hb:gD kd tb cs ns a s g=true
    ·rw[if_pos ⟨hkd.1,hkd.2,hkl,hb⟩,if_neg hkone,if_pos hb,nK]
    ·rw[if_neg (fun h=>hb h.2.2.2),if_neg hb]
   have hf2:=hfa.2 hkone;have hol:=zL (kd - 2).toNat;generalize cG.getD (kd - 2).toNat []=opw at hexQ hf2 hol;clear hfa;refine rR (aCg oq 2 rfl aS rfl rfl rfl ?_);(refine aCN oq aS ?_;intro b201 m201 o201);(refine aCf o201 3 rfl aS rfl (by decide) (aI ⟨rfl,rfl⟩ ?_);intro m202 o202);refine rR (fA aM rfl rfl rfl ?_);(refine aCL o202 3 rfl aT rfl (by simp) (aI ⟨rfl,rfl⟩ ?_);intro m204 o204);refine rR (fA aM rfl rfl rfl ?_);(refine aCL o204 3 rfl cQ rfl (by simp) (aI ⟨rfl,rfl⟩ ?_);intro m206 o206);refine rR (fA aM rfl rfl rfl ?_);(refine aCL o206 3 rfl aT rfl (by simp) (aI ⟨rfl,rfl⟩ ?_);intro m208 o208);refine rR (fA aM rfl rfl rfl ?_);refine rR (aCc o208 2 rfl aT rfl rfl ?_);refine aCP (fun hc=>absurd hc (by omega)) (fun c211=>?_);refine aCS [0,1,2,3,4,6,7,9] [5,8] [10,11] [0,1,2,3,4,5,6,7,8,9,10,11] mixed (by kernel_rfl) rfl (fun _ _ _ _ h=>h) ?_;refine nC rfl ?_;refine fA bO rfl rfl rfl ?_;refine fA aM rfl rfl rfl ?_;refine aCc o208 2 rfl aT rfl rfl ?_;refine aCw Tryz.underlying195 pW rfl rfl (by omega) (by omega) ?_;refine fA qL rfl rfl rfl ?_;refine load1 aL rfl (o208.old hf2) ?_;refine aCm rfl rfl (by first|omega|(simp;omega)) ?_;(refine aCM o208 aK aL rfl rfl (by decide) (aI rfl ?_);intro b220 m220 o220);refine aH [be++opw,[40]] 2 30 [2,3] (i:=4) ‹_› rfl rfl rfl hp rfl (by omega) (by omega) (by simp;omega) (by omega) (by omega) (fun p1 v1 bs1 k1 m1 hp1 hb1 hk1 hl1 oq=>?_);have o4:Own B [box b [p1,v1,.int .i64 k1] 58,row v1 5 1 bs1.length (bytes bs1),box b50 [.int .i64 kd,.string ⟨⟨tb⟩⟩,.slice e3 ks.length f3,.slice e1 cs.length f1,.slice e2 ns.length f2,.string ⟨⟨a⟩⟩,.string ⟨⟨s⟩⟩,.int .i64 g,.int .i64 z] 42,box b201 [.int .i64 0,.string ⟨⟨tb⟩⟩,.slice none 0 0,.slice e1 cs.length f1,.slice e2 ns.length f2,.string ⟨⟨a⟩⟩,.string ⟨⟨s⟩⟩,.int .i64 g,.int .i64 0] 42] m1:=oq
   clear oq;refine rR (fA aM rfl rfl rfl ?_);refine rR (aCc o4 2 rfl cQ rfl rfl ?_);refine rR (aCk rfl bV ?_);refine aCZ [10,11,12,67,68,69,70,71,72,73,74,75,76,77,78,79,80,81,82,83,84,85,86,87,88,89,90] [10,67] (fun vs' hh=>∃(i:Nat) (p' v':Value) (bs':aBs) (k':Int) (ps:List Pc),i≤ks.length∧vs'=[.int .i64 (lev+cK (ks.take i)),.int .i64 i]∧cO b p'∧cZ (dY fZ) (ks.take i)=some ps∧bs'=bs1++bG ps∧k'=k1+ps.length∧bs'.length≤bs1.length+(2000*fS (ks.take i)+30*i)∧k'≤k1+(2000*fS (ks.take i)+30*i)∧Own B [box b [p',v',.int .i64 k'] 58,row v' 5 1 bs'.length (bytes bs'),box b50 [.int .i64 kd,.string ⟨⟨tb⟩⟩,.slice e3 ks.length f3,.slice e1 cs.length f1,.slice e2 ns.length f2,.string ⟨⟨a⟩⟩,.string ⟨⟨s⟩⟩,.int .i64 g,.int .i64 z] 42,box b201 [.int .i64 0,.string ⟨⟨tb⟩⟩,.slice none 0 0,.slice e1 cs.length f1,.slice e2 ns.length f2,.string ⟨⟨a⟩⟩,.string ⟨⟨s⟩⟩,.int .i64 g,.int .i64 0] 42] hh) (fun vs' _=>match vs' with|[_,.int _ i]=>ks.length - i.toNat|_=>0) ?_ ?_
   ·exact⟨0,p1,v1,bs1,k1,[],by omega,by simp[cK],hp1,rfl,by simp[bG],by simp,by omega,by omega,o4⟩
   rintro vs' junk hh ⟨i,p',v',bs',k',ps,hi,rfl,hp',hQ,hb',hk',hl',hk2,oh⟩;clear o4;have hk2s:ks.length≤2:=by rw[hkl];unfold iM;split<;>(try split)<;>omega
   have hszl:=eB ks i;by_cases hlt:i<ks.length
   ·obtain⟨kx,hkx⟩:=getx hlt
    obtain⟨cx,hcx,hrx⟩:=jF rk hkx
    have hdx:=gJ hkx;have hsz:=kY hkx;have hszl2:=eB ks (i+1);have hlv:=jV hkx;have hlvl:bY kx≤cK ks:=kZ hkx;have hlp:=oZ kx;have hxOK:=gU bks hkx;have hrx2:=hrx
    obtain⟨cxv,hcl⟩:=cx
    obtain⟨xk,xt,xks,xcs,xns,xa,xs_,xg,xo⟩:=kx
    rw[kN]at hrx2
    obtain⟨wk,wc,wn,wz,hcv,g1,g2,gx,g3,_⟩:=hrx2
    obtain⟨h1,h2,rfl⟩:=g1.isS
    obtain⟨h3,h4,rfl⟩:=g2.isS
    obtain⟨h5,h6,rfl⟩:=g3.isS
    dsimp only at hcv hrx;subst hcv;unfold qE at hcx hrx hcl;clear g1 g2 g3;by_cases h0:i=0
    ·subst h0
     refine aCP (fun c400=>?_) (fun hc=>absurd (by omega) hc);refine rR (aCn bV aS (q3.ext oh.ext) rfl (by omega) (by omega) ?_);refine rR (aCp aS (q3.ext oh.ext) (fun y:cX=>y.2) (by decide) rfl ‹_› ?_);(refine aCN oh aS ?_;intro b403 m403 o403);(refine aCf o403 4 rfl aS rfl (by decide) (aI ⟨rfl,rfl⟩ ?_);intro m404 o404);refine aCR ?_;refine aCS [0,1,3,4,7,8,10,11] [5,6] [9] [0,1,3,6,7,8,2,4,5,9,10,11] mixed (by kernel_rfl) rfl (fun _ _ _ _ h=>h) ?_;refine aCg o404 4 rfl aS rfl rfl rfl ?_;refine aCW (by omega) (by omega) ?_;(refine aCM (Own.refl _) aK aL rfl rfl (by decide) (aI rfl ?_);intro b406 m406 o406);(refine aI o406.ext ?_;have o407:=Own.call o404 o406;simp only[lcA,lnA]at o407;clear o406);refine idxB o407 5 rfl aK aL rfl rfl (by omega) (by first|omega|(simp;omega)) ?_;refine aCc o407 5 rfl aL rfl rfl ?_;refine XEnds.callJ [2,3] ‹_› rfl rfl (fun J oj=>hIH _ _ _ [] _ p' v' k' bs' _ (aDk hdx (by omega)) hxOK hrx hp' (.inl rfl) (by omega) hT hF oj (by omega) (by omega)) (fun ps2 p2 v2 bs2 k2 m2 hq2 hp2 hb2 hk2' hl2 _ hj2 oq=>?_) (fun m2 hq2 oq=>?_)
     case refine_2 =>
      have:cZ (dY fZ) ks=none:=aR hkx hQ hq2
      exact⟨hexQ.trans (by split;simp only[this,aJ,oMN];rfl),rfl,oq⟩
     have o5:Own B [box b [p2,v2,.int .i64 k2] 58,row v2 5 1 bs2.length (bytes bs2),box b50 [.int .i64 kd,.string ⟨⟨tb⟩⟩,.slice e3 ks.length f3,.slice e1 cs.length f1,.slice e2 ns.length f2,.string ⟨⟨a⟩⟩,.string ⟨⟨s⟩⟩,.int .i64 g,.int .i64 z] 42,box b201 [.int .i64 0,.string ⟨⟨tb⟩⟩,.slice none 0 0,.slice e1 cs.length f1,.slice e2 ns.length f2,.string ⟨⟨a⟩⟩,.string ⟨⟨s⟩⟩,.int .i64 g,.int .i64 0] 42] m2:=oq;clear oq;refine max2 rfl rfl ?_;refine aCW (by omega) (by omega) ?_
     refine⟨rfl,?_⟩
     refine⟨⟨0+1,p2,v2,bs2,k2,ps++ps2,by omega,?_,hp2,bA hkx hQ hq2,by rw[hb2,hb'];simp[bG],by rw[hk2',hk'];simp;omega,by omega,by omega,Own.sel ‹_› [0,1,2,3] rfl⟩,by simp;omega⟩
     congr 2
     omega
    ·obtain rfl:i=1:=by omega
     refine aCP (fun c500=>?_) (fun hc=>absurd (by omega) hc);refine rR (aCn bV aS (q3.ext oh.ext) rfl (by omega) (by omega) ?_);refine rR (aCp aS (q3.ext oh.ext) (fun y:cX=>y.2) (by decide) rfl ‹_› ?_);(refine aCN oh aS ?_;intro b503 m503 o503);(refine aCf o503 4 rfl aS rfl (by decide) (aI ⟨rfl,rfl⟩ ?_);intro m504 o504);refine aCQ ?_;refine rR (nC rfl ?_);refine rR (fA bO rfl rfl rfl ?_);(refine aCM o504 aK aL rfl rfl (by decide) (aI rfl ?_);intro b507 m507 o507);refine aH [[44]] 1 30 [2,3,4] (i:=5) ‹_› rfl rfl rfl hp' rfl (by omega) (by omega) (by simp) (by omega) (by omega) (fun p3 v3 bs3 k3 m3 hp3 hb3 hk3 hl3 oq=>?_);have o5:=oq
     simp only[pick,lgS,lgZ]at o5
     clear oq oh;refine aCS [0,1,3,4,7,8,10,11] [5,6] [9] [0,1,3,6,7,8,2,4,5,9,10,11] mixed (by kernel_rfl) rfl (fun _ _ _ _ h=>h) ?_;refine aCg o5 4 rfl aS rfl rfl rfl ?_;refine aCW (by omega) (by omega) ?_;(refine aCM (Own.refl _) aK aL rfl rfl (by decide) (aI rfl ?_);intro b551 m551 o551);(refine aI o551.ext ?_;have o552:=Own.call o5 o551;simp only[lcA,lnA]at o552;clear o551);refine idxB o552 5 rfl aK aL rfl rfl (by omega) (by first|omega|(simp;omega)) ?_;refine aCc o552 5 rfl aL rfl rfl ?_;refine XEnds.callJ [2,3] ‹_› rfl rfl (fun J oj=>hIH _ _ _ [32] _ p3 v3 k3 bs3 _ (aDk hdx (by omega)) hxOK hrx hp3 (.inr rfl) (by omega) hT hF oj (by omega) (by omega)) (fun ps2 p2 v2 bs2 k2 m2 hq2 hp2 hb2 hk2' hl2 _ hj2 oq=>?_) (fun m2 hq2 oq=>?_)
     case refine_2 =>
      have:cZ (dY fZ) ks=none:=aR hkx hQ (by unfold dY;rw[if_neg (by decide),hq2];rfl)
      exact⟨hexQ.trans (by split;simp only[this,aJ,oMN];rfl),rfl,oq⟩
     have o6:Own B [box b [p2,v2,.int .i64 k2] 58,row v2 5 1 bs2.length (bytes bs2),box b50 [.int .i64 kd,.string ⟨⟨tb⟩⟩,.slice e3 ks.length f3,.slice e1 cs.length f1,.slice e2 ns.length f2,.string ⟨⟨a⟩⟩,.string ⟨⟨s⟩⟩,.int .i64 g,.int .i64 z] 42,box b201 [.int .i64 0,.string ⟨⟨tb⟩⟩,.slice none 0 0,.slice e1 cs.length f1,.slice e2 ns.length f2,.string ⟨⟨a⟩⟩,.string ⟨⟨s⟩⟩,.int .i64 g,.int .i64 0] 42] m2:=oq;clear oq;refine max2 rfl rfl ?_;refine aCW (by omega) (by omega) ?_
     refine⟨rfl,?_⟩
     refine⟨⟨1+1,p2,v2,bs2,k2,ps++(aO [] [44]::ps2),by omega,?_,hp2,bA hkx hQ (by unfold dY;rw[if_neg (by decide),hq2];rfl),by rw[hb2,hb3,hb'];simp[bG,fL,wr,aO],by rw[hk2',hk3,hk'];simp;omega,by omega,by omega,Own.sel ‹_› [0,1,2,3] rfl⟩,by simp;omega⟩
     congr 2
     omega
   have hQ:=fR (aDt hlt) hQ
   rw[aDm (aDt hlt)]at hl' hk2 ⊢
   by_cases hk2x:kd=2
   ·subst hk2x
    have hB:gD 2 tb cs ns a s g=true↔tb=[]∧ns.length=0∧a=[]∧s=[]∧g=0:=by simp[gD]
    refine aCP (fun hc=>absurd hc (by omega)) (fun c860=>?_);refine rR (fA aM rfl rfl rfl ?_);refine rR (aCc oh 2 rfl aT rfl rfl ?_);refine aCR ?_;refine aCQ ?_;refine rR (fA aM rfl rfl rfl ?_);refine rR (aCc oh 2 rfl mL rfl rfl ?_);refine WEnds.callJ [2,3] ‹_› rfl rfl (fun J oj=>tV _ b p' v' k' bs' cs _ _ hp' hT q1 bcs oj (by omega) (by omega)) (fun ps2 p2 v2 bs2 k2 m2 hq2 hp2 hb2 hk2' hl2 _ hj2 oq=>?_) (fun m2 hq2 oq=>?_)
    case refine_2 =>
     have hR:dT 2 cs ns a s g=none:=hq2
     exact⟨hexQ.trans (by split;simp only[hQ,hR,aJ,oMN,oMS];rfl),rfl,oq⟩
    have o6:Own B [box b [p2,v2,.int .i64 k2] 58,row v2 5 1 bs2.length (bytes bs2),box b50 [.int .i64 2,.string ⟨⟨tb⟩⟩,.slice e3 ks.length f3,.slice e1 cs.length f1,.slice e2 ns.length f2,.string ⟨⟨a⟩⟩,.string ⟨⟨s⟩⟩,.int .i64 g,.int .i64 z] 42,box b201 [.int .i64 0,.string ⟨⟨tb⟩⟩,.slice none 0 0,.slice e1 cs.length f1,.slice e2 ns.length f2,.string ⟨⟨a⟩⟩,.string ⟨⟨s⟩⟩,.int .i64 g,.int .i64 0] 42] m2:=oq;clear oq oh;have hR:dT 2 cs ns a s g=some ps2:=hq2;refine rR (fA aM rfl rfl rfl ?_);(refine aCL o6 3 rfl mL rfl (by simp) (aI ⟨rfl,rfl⟩ ?_);intro m921 o921);refine rR (fA aM rfl rfl rfl ?_);refine rR (aCc o921 2 rfl aT rfl rfl ?_);refine aCQ ?_;refine rR (nC rfl ?_);refine rR (fA bO rfl rfl rfl ?_);(refine aCM o921 aK aL rfl rfl (by decide) (aI rfl ?_);intro b926 m926 o926);refine aH [[41]] 1 30 [2,3] (i:=4) ‹_› rfl rfl rfl hp2 rfl (by omega) (by omega) (by simp) (by omega) (by omega) (fun p9 v9 bs9 k9 m9 hp9 hb9 hk9 hl9 oq=>?_);have o9:Own B [box b [p9,v9,.int .i64 k9] 58,row v9 5 1 bs9.length (bytes bs9),box b50 [.int .i64 2,.string ⟨⟨tb⟩⟩,.slice e3 ks.length f3,.slice e1 cs.length f1,.slice e2 ns.length f2,.string ⟨⟨a⟩⟩,.string ⟨⟨s⟩⟩,.int .i64 g,.int .i64 z] 42,box b201 [.int .i64 0,.string ⟨⟨tb⟩⟩,.slice none 0 0,.slice none 0 0,.slice e2 ns.length f2,.string ⟨⟨a⟩⟩,.string ⟨⟨s⟩⟩,.int .i64 g,.int .i64 0] 42] m9:=oq;clear oq;refine rR (fA aM rfl rfl rfl ?_);refine rR (aCc o9 3 rfl aL rfl rfl ?_);refine aCP (fun c982=>?_) (fun c982=>?_);refine rR (fA aM rfl rfl rfl ?_);refine rR (aCc o9 3 rfl mL rfl rfl ?_)
    refine rR (aCk rfl jA ?_);refine aCQ ?_;refine rR (fA aM rfl rfl rfl ?_);refine rR (aCc o9 3 rfl eV rfl rfl ?_);refine rR (aCk rfl aK ?_);refine aCP (fun c989=>?_) (fun c989=>?_);refine rR (fA aM rfl rfl rfl ?_);refine rR (aCc o9 3 rfl aL rfl rfl ?_);refine aCP (fun c992=>?_) (fun c992=>?_);refine rR (fA aM rfl rfl rfl ?_);refine rR (aCc o9 3 rfl aL rfl rfl ?_);refine aCP (fun c995=>?_) (fun c995=>?_);refine rR (fA aM rfl rfl rfl ?_);refine rR (aCc o9 3 rfl aT rfl rfl ?_)
    any_goals (refine aCh (B:=B) ‹_› (aE false _) (fun e8 m8 _ oq=>by cases e8) fun e8 m8 oq=>?_;exact⟨hexQ.trans (if_neg fun hb=>by obtain⟨x0,x1,x2,x3,x4⟩:=hB.1 hb;first|contradiction|omega),rfl,oq⟩)
    refine aCh (B:=B) ‹_› (aE _ _) (fun e8 m8 _ oq=>?_) fun e8 m8 oq=>?_
    case refine_2 =>
     have e8:=of_decide_eq_false e8
     exact⟨hexQ.trans (if_neg fun hb=>by obtain⟨x0,x1,x2,x3,x4⟩:=hB.1 hb;omega),rfl,oq⟩
    have e8:=of_decide_eq_true e8;have hbare:=hB.2 ⟨by assumption,by omega,by assumption,by assumption,by omega⟩;refine aCX rfl ?_;exact XEnds.done (ps:=[aD be opw,aO [] [40]]++(ps++(ps2++([aO [] [41]]++[])))) (hexQ.trans (by rw[if_pos hbare];simp only[hQ,hR,aJ,oMS])) (oq.sel [0,1] rfl) hp9 (by rw[hb9,hb2,hb',hb1];simp[bG,fL,wr,aD,aO]) (by rw[hk9,hk2',hk',hk1];simp;omega) (by omega) (by omega)
   by_cases hk3x:kd=3
   ·exact(by omega:False).elim
   by_cases hk7x:kd=7
   ·exact(by omega:False).elim
   by_cases hk8x:kd=8
   ·exact(by omega:False).elim
   exact(by omega:False).elim
theorem prExpr_c3 (b n:Nat)(hIH:aAH b n)(kd:Int)(tb:aBs)(ks:List Ex)(cs:List Cnd)(ns:List aBs)(a s:aBs)(g:Int)(off:Nat)(hcls:kd=3)(B:Base)(c:aVs)(be:aBs)(lev:Int)(p v:Value)(k:Int)(bs:aBs)(h:Heap)(hd:fY (.mk kd tb ks cs ns a s g off)≤n+1)(hOK:gA (.mk kd tb ks cs ns a s g off))(hc:kN B.h c (.mk kd tb ks cs ns a s g off))(hp:cO b p)(hbe:be=[]∨be=[32])(hlev:0≤lev∧lev+bY (.mk kd tb ks cs ns a s g off)≤1000000000000)(hT:jO B.h)(hF:gX B.h)
  (o:Own B [box b [p,v,.int .i64 k] 58,row v 5 1 bs.length (bytes bs)] h) (hl:bs.length+2000*fI (.mk kd tb ks cs ns a s g off)≤50000000000000) (hk:0≤k∧k+2000*fI (.mk kd tb ks cs ns a s g off)≤50000000000000) :
  Spec Tryz.prog 128 [.pointer (some ⟨b,0,none⟩),.string ⟨⟨be⟩⟩,.agg ⟨c⟩,.int .i64 lev] h (XEnds B b bs k (2000*fI (.mk kd tb ks cs ns a s g off)) (fZ be (.mk kd tb ks cs ns a s g off)) (lev+bY (.mk kd tb ks cs ns a s g off) - 1)):=by
  rw[fY]at hd
  rw[gA]at hOK
  rw[kN]at hc
  rw[fI]at hl hk ⊢
  rw[bY]at hlev ⊢
  rw[show lev+((cK ks+1:Nat):Int) - 1=lev+cK ks by omega]
  obtain⟨bk,btb,bks,bcs,bns,ba,bs_,bg,lk,lc,ln⟩:=hOK
  obtain⟨vk,vc,vn,z,rfl,q1,q2,xs,q3,rk⟩:=hc
  rw[gR]at q2
  obtain⟨e1,f1,rfl⟩:=q1.isS
  obtain⟨e2,f2,rfl⟩:=q2.isS
  obtain⟨e3,f3,rfl⟩:=q3.isS
  unfold qE;have hxs:xs.length=ks.length:=kH rk;have hbel:be.length≤1:=by rcases hbe with rfl|rfl<;>simp
  refine aCV Tryz.func128 rfl Tryz.ntmps128 (by kernel_rfl) ?_;by_cases hkd:1≤kd∧kd≤8
  case neg =>
   exact(by omega:False).elim
  have hfa:=oY hF kd hkd.1 hkd.2;have hf1:=hfa.1;(refine aCq o rfl ?_;intro b50 m50 o50);refine aCS [0,2,3,4,6,7,8,9,11,12,14,15,17,18] [1,5,10,13,16] [19] [0,1,2,3,4,5,6,7,8,9,10,11,12,13,14,15,16,17,18,19] mixed (by kernel_rfl) rfl (fun _ _ _ _ h=>h) ?_;refine fA aM rfl rfl rfl ?_;refine aCc o50 2 rfl aT rfl rfl ?_;refine aCP (fun c53=>?_) (fun hc=>absurd (by omega) hc);refine fA aM rfl rfl rfl ?_;refine aCc o50 2 rfl aT rfl rfl ?_;refine aCP (fun c56=>?_) (fun hc=>absurd (by omega) hc);refine fA aM rfl rfl rfl ?_;refine aCc o50 2 rfl cQ rfl rfl ?_;refine aCk rfl bV ?_;refine fA aM rfl rfl rfl ?_;refine aCc o50 2 rfl aT rfl rfl ?_;refine aCw Tryz.underlying195 pW rfl rfl (by omega) (by omega) ?_;refine fA qL rfl rfl rfl ?_;refine load1 aT rfl (o50.old hf1) ?_;refine aCh ‹_› (aE _ _) (fun e1 m2 oc oq=>?_) fun e1 m2 oq=>?_
  case refine_2 =>
   have e1:=of_decide_eq_false e1;have hq:fZ be (.mk kd tb ks cs ns a s g off)=none:=by rw[fZ,if_neg (fun h=>e1 (by rw[h.2.2.1]))]
   exact⟨hq,rfl,oq⟩
  have hkl:ks.length=iM kd:=by have:=of_decide_eq_true e1;omega
  clear e1 oc;by_cases hkone:kd=1
  ·exact(by omega:False).elim
  ·have hexQ:fZ be (.mk kd tb ks cs ns a s g off)=if gD kd tb cs ns a s g=true then aJ [some [aD be (cG.getD (kd - 2).toNat []),aO [] [40]],cZ (dY fZ) ks,dT kd cs ns a s g,some [aO [] [41]]] else none:=by
    rw[fZ]
    by_cases hb:gD kd tb cs ns a s g=true
    ·rw[if_pos ⟨hkd.1,hkd.2,hkl,hb⟩,if_neg hkone,if_pos hb,nK]
    ·rw[if_neg (fun h=>hb h.2.2.2),if_neg hb]
   have hf2:=hfa.2 hkone;have hol:=zL (kd - 2).toNat;generalize cG.getD (kd - 2).toNat []=opw at hexQ hf2 hol;clear hfa;refine rR (aCg oq 2 rfl aS rfl rfl rfl ?_);(refine aCN oq aS ?_;intro b201 m201 o201);(refine aCf o201 3 rfl aS rfl (by decide) (aI ⟨rfl,rfl⟩ ?_);intro m202 o202);refine rR (fA aM rfl rfl rfl ?_);(refine aCL o202 3 rfl aT rfl (by simp) (aI ⟨rfl,rfl⟩ ?_);intro m204 o204);refine rR (fA aM rfl rfl rfl ?_);(refine aCL o204 3 rfl cQ rfl (by simp) (aI ⟨rfl,rfl⟩ ?_);intro m206 o206);refine rR (fA aM rfl rfl rfl ?_);(refine aCL o206 3 rfl aT rfl (by simp) (aI ⟨rfl,rfl⟩ ?_);intro m208 o208);refine rR (fA aM rfl rfl rfl ?_);refine rR (aCc o208 2 rfl aT rfl rfl ?_);refine aCP (fun hc=>absurd hc (by omega)) (fun c211=>?_);refine aCS [0,1,2,3,4,6,7,9] [5,8] [10,11] [0,1,2,3,4,5,6,7,8,9,10,11] mixed (by kernel_rfl) rfl (fun _ _ _ _ h=>h) ?_;refine nC rfl ?_;refine fA bO rfl rfl rfl ?_;refine fA aM rfl rfl rfl ?_;refine aCc o208 2 rfl aT rfl rfl ?_;refine aCw Tryz.underlying195 pW rfl rfl (by omega) (by omega) ?_;refine fA qL rfl rfl rfl ?_;refine load1 aL rfl (o208.old hf2) ?_;refine aCm rfl rfl (by first|omega|(simp;omega)) ?_;(refine aCM o208 aK aL rfl rfl (by decide) (aI rfl ?_);intro b220 m220 o220);refine aH [be++opw,[40]] 2 30 [2,3] (i:=4) ‹_› rfl rfl rfl hp rfl (by omega) (by omega) (by simp;omega) (by omega) (by omega) (fun p1 v1 bs1 k1 m1 hp1 hb1 hk1 hl1 oq=>?_);have o4:Own B [box b [p1,v1,.int .i64 k1] 58,row v1 5 1 bs1.length (bytes bs1),box b50 [.int .i64 kd,.string ⟨⟨tb⟩⟩,.slice e3 ks.length f3,.slice e1 cs.length f1,.slice e2 ns.length f2,.string ⟨⟨a⟩⟩,.string ⟨⟨s⟩⟩,.int .i64 g,.int .i64 z] 42,box b201 [.int .i64 0,.string ⟨⟨tb⟩⟩,.slice none 0 0,.slice e1 cs.length f1,.slice e2 ns.length f2,.string ⟨⟨a⟩⟩,.string ⟨⟨s⟩⟩,.int .i64 g,.int .i64 0] 42] m1:=oq
   clear oq;refine rR (fA aM rfl rfl rfl ?_);refine rR (aCc o4 2 rfl cQ rfl rfl ?_);refine rR (aCk rfl bV ?_);refine aCZ [10,11,12,67,68,69,70,71,72,73,74,75,76,77,78,79,80,81,82,83,84,85,86,87,88,89,90] [10,67] (fun vs' hh=>∃(i:Nat) (p' v':Value) (bs':aBs) (k':Int) (ps:List Pc),i≤ks.length∧vs'=[.int .i64 (lev+cK (ks.take i)),.int .i64 i]∧cO b p'∧cZ (dY fZ) (ks.take i)=some ps∧bs'=bs1++bG ps∧k'=k1+ps.length∧bs'.length≤bs1.length+(2000*fS (ks.take i)+30*i)∧k'≤k1+(2000*fS (ks.take i)+30*i)∧Own B [box b [p',v',.int .i64 k'] 58,row v' 5 1 bs'.length (bytes bs'),box b50 [.int .i64 kd,.string ⟨⟨tb⟩⟩,.slice e3 ks.length f3,.slice e1 cs.length f1,.slice e2 ns.length f2,.string ⟨⟨a⟩⟩,.string ⟨⟨s⟩⟩,.int .i64 g,.int .i64 z] 42,box b201 [.int .i64 0,.string ⟨⟨tb⟩⟩,.slice none 0 0,.slice e1 cs.length f1,.slice e2 ns.length f2,.string ⟨⟨a⟩⟩,.string ⟨⟨s⟩⟩,.int .i64 g,.int .i64 0] 42] hh) (fun vs' _=>match vs' with|[_,.int _ i]=>ks.length - i.toNat|_=>0) ?_ ?_
   ·exact⟨0,p1,v1,bs1,k1,[],by omega,by simp[cK],hp1,rfl,by simp[bG],by simp,by omega,by omega,o4⟩
   rintro vs' junk hh ⟨i,p',v',bs',k',ps,hi,rfl,hp',hQ,hb',hk',hl',hk2,oh⟩;clear o4;have hk2s:ks.length≤2:=by rw[hkl];unfold iM;split<;>(try split)<;>omega
   have hszl:=eB ks i;by_cases hlt:i<ks.length
   ·obtain⟨kx,hkx⟩:=getx hlt
    obtain⟨cx,hcx,hrx⟩:=jF rk hkx
    have hdx:=gJ hkx;have hsz:=kY hkx;have hszl2:=eB ks (i+1);have hlv:=jV hkx;have hlvl:bY kx≤cK ks:=kZ hkx;have hlp:=oZ kx;have hxOK:=gU bks hkx;have hrx2:=hrx
    obtain⟨cxv,hcl⟩:=cx
    obtain⟨xk,xt,xks,xcs,xns,xa,xs_,xg,xo⟩:=kx
    rw[kN]at hrx2
    obtain⟨wk,wc,wn,wz,hcv,g1,g2,gx,g3,_⟩:=hrx2
    obtain⟨h1,h2,rfl⟩:=g1.isS
    obtain⟨h3,h4,rfl⟩:=g2.isS
    obtain⟨h5,h6,rfl⟩:=g3.isS
    dsimp only at hcv hrx;subst hcv;unfold qE at hcx hrx hcl;clear g1 g2 g3;by_cases h0:i=0
    ·subst h0
     refine aCP (fun c400=>?_) (fun hc=>absurd (by omega) hc);refine rR (aCn bV aS (q3.ext oh.ext) rfl (by omega) (by omega) ?_);refine rR (aCp aS (q3.ext oh.ext) (fun y:cX=>y.2) (by decide) rfl ‹_› ?_);(refine aCN oh aS ?_;intro b403 m403 o403);(refine aCf o403 4 rfl aS rfl (by decide) (aI ⟨rfl,rfl⟩ ?_);intro m404 o404);refine aCR ?_;refine aCS [0,1,3,4,7,8,10,11] [5,6] [9] [0,1,3,6,7,8,2,4,5,9,10,11] mixed (by kernel_rfl) rfl (fun _ _ _ _ h=>h) ?_;refine aCg o404 4 rfl aS rfl rfl rfl ?_;refine aCW (by omega) (by omega) ?_;(refine aCM (Own.refl _) aK aL rfl rfl (by decide) (aI rfl ?_);intro b406 m406 o406);(refine aI o406.ext ?_;have o407:=Own.call o404 o406;simp only[lcA,lnA]at o407;clear o406);refine idxB o407 5 rfl aK aL rfl rfl (by omega) (by first|omega|(simp;omega)) ?_;refine aCc o407 5 rfl aL rfl rfl ?_;refine XEnds.callJ [2,3] ‹_› rfl rfl (fun J oj=>hIH _ _ _ [] _ p' v' k' bs' _ (aDk hdx (by omega)) hxOK hrx hp' (.inl rfl) (by omega) hT hF oj (by omega) (by omega)) (fun ps2 p2 v2 bs2 k2 m2 hq2 hp2 hb2 hk2' hl2 _ hj2 oq=>?_) (fun m2 hq2 oq=>?_)
     case refine_2 =>
      have:cZ (dY fZ) ks=none:=aR hkx hQ hq2
      exact⟨hexQ.trans (by split;simp only[this,aJ,oMN];rfl),rfl,oq⟩
     have o5:Own B [box b [p2,v2,.int .i64 k2] 58,row v2 5 1 bs2.length (bytes bs2),box b50 [.int .i64 kd,.string ⟨⟨tb⟩⟩,.slice e3 ks.length f3,.slice e1 cs.length f1,.slice e2 ns.length f2,.string ⟨⟨a⟩⟩,.string ⟨⟨s⟩⟩,.int .i64 g,.int .i64 z] 42,box b201 [.int .i64 0,.string ⟨⟨tb⟩⟩,.slice none 0 0,.slice e1 cs.length f1,.slice e2 ns.length f2,.string ⟨⟨a⟩⟩,.string ⟨⟨s⟩⟩,.int .i64 g,.int .i64 0] 42] m2:=oq;clear oq;refine max2 rfl rfl ?_;refine aCW (by omega) (by omega) ?_
     refine⟨rfl,?_⟩
     refine⟨⟨0+1,p2,v2,bs2,k2,ps++ps2,by omega,?_,hp2,bA hkx hQ hq2,by rw[hb2,hb'];simp[bG],by rw[hk2',hk'];simp;omega,by omega,by omega,Own.sel ‹_› [0,1,2,3] rfl⟩,by simp;omega⟩
     congr 2
     omega
    ·obtain rfl:i=1:=by omega
     refine aCP (fun c500=>?_) (fun hc=>absurd (by omega) hc);refine rR (aCn bV aS (q3.ext oh.ext) rfl (by omega) (by omega) ?_);refine rR (aCp aS (q3.ext oh.ext) (fun y:cX=>y.2) (by decide) rfl ‹_› ?_);(refine aCN oh aS ?_;intro b503 m503 o503);(refine aCf o503 4 rfl aS rfl (by decide) (aI ⟨rfl,rfl⟩ ?_);intro m504 o504);refine aCQ ?_;refine rR (nC rfl ?_);refine rR (fA bO rfl rfl rfl ?_);(refine aCM o504 aK aL rfl rfl (by decide) (aI rfl ?_);intro b507 m507 o507);refine aH [[44]] 1 30 [2,3,4] (i:=5) ‹_› rfl rfl rfl hp' rfl (by omega) (by omega) (by simp) (by omega) (by omega) (fun p3 v3 bs3 k3 m3 hp3 hb3 hk3 hl3 oq=>?_);have o5:=oq
     simp only[pick,lgS,lgZ]at o5
     clear oq oh;refine aCS [0,1,3,4,7,8,10,11] [5,6] [9] [0,1,3,6,7,8,2,4,5,9,10,11] mixed (by kernel_rfl) rfl (fun _ _ _ _ h=>h) ?_;refine aCg o5 4 rfl aS rfl rfl rfl ?_;refine aCW (by omega) (by omega) ?_;(refine aCM (Own.refl _) aK aL rfl rfl (by decide) (aI rfl ?_);intro b551 m551 o551);(refine aI o551.ext ?_;have o552:=Own.call o5 o551;simp only[lcA,lnA]at o552;clear o551);refine idxB o552 5 rfl aK aL rfl rfl (by omega) (by first|omega|(simp;omega)) ?_;refine aCc o552 5 rfl aL rfl rfl ?_;refine XEnds.callJ [2,3] ‹_› rfl rfl (fun J oj=>hIH _ _ _ [32] _ p3 v3 k3 bs3 _ (aDk hdx (by omega)) hxOK hrx hp3 (.inr rfl) (by omega) hT hF oj (by omega) (by omega)) (fun ps2 p2 v2 bs2 k2 m2 hq2 hp2 hb2 hk2' hl2 _ hj2 oq=>?_) (fun m2 hq2 oq=>?_)
     case refine_2 =>
      have:cZ (dY fZ) ks=none:=aR hkx hQ (by unfold dY;rw[if_neg (by decide),hq2];rfl)
      exact⟨hexQ.trans (by split;simp only[this,aJ,oMN];rfl),rfl,oq⟩
     have o6:Own B [box b [p2,v2,.int .i64 k2] 58,row v2 5 1 bs2.length (bytes bs2),box b50 [.int .i64 kd,.string ⟨⟨tb⟩⟩,.slice e3 ks.length f3,.slice e1 cs.length f1,.slice e2 ns.length f2,.string ⟨⟨a⟩⟩,.string ⟨⟨s⟩⟩,.int .i64 g,.int .i64 z] 42,box b201 [.int .i64 0,.string ⟨⟨tb⟩⟩,.slice none 0 0,.slice e1 cs.length f1,.slice e2 ns.length f2,.string ⟨⟨a⟩⟩,.string ⟨⟨s⟩⟩,.int .i64 g,.int .i64 0] 42] m2:=oq;clear oq;refine max2 rfl rfl ?_;refine aCW (by omega) (by omega) ?_
     refine⟨rfl,?_⟩
     refine⟨⟨1+1,p2,v2,bs2,k2,ps++(aO [] [44]::ps2),by omega,?_,hp2,bA hkx hQ (by unfold dY;rw[if_neg (by decide),hq2];rfl),by rw[hb2,hb3,hb'];simp[bG,fL,wr,aO],by rw[hk2',hk3,hk'];simp;omega,by omega,by omega,Own.sel ‹_› [0,1,2,3] rfl⟩,by simp;omega⟩
     congr 2
     omega
   have hQ:=fR (aDt hlt) hQ
   rw[aDm (aDt hlt)]at hl' hk2 ⊢
   by_cases hk2x:kd=2
   ·exact(by omega:False).elim
   by_cases hk3x:kd=3
   ·subst hk3x
    have hB:gD 3 tb cs ns a s g=true↔tb=[]∧cs.length=0∧a=[]∧s=[]∧g=0:=by simp[gD]
    have hRe:dT 3 cs ns a s g=aJ [some [aD [32] [111,110]],hH aZ [32] ns]:=rfl;refine aCP (fun hc=>absurd hc (by omega)) (fun c1100=>?_);refine rR (fA aM rfl rfl rfl ?_);refine rR (aCc oh 2 rfl aT rfl rfl ?_);refine aCR ?_;refine aCR ?_;refine aCQ ?_;refine rR (nC rfl ?_);refine rR (fA bO rfl rfl rfl ?_);(refine aCM oh aK aL rfl rfl (by decide) (aI rfl ?_);intro b1105 m1105 o1105);refine aH [[32,111,110]] 1 30 [2,3] (i:=4) ‹_› rfl rfl rfl hp' rfl (by omega) (by omega) (by simp) (by omega) (by omega) (fun p2 v2 bs2 k2 m2 hp2 hb2 hk2' hl2 oq=>?_);have o6:Own B [box b [p2,v2,.int .i64 k2] 58,row v2 5 1 bs2.length (bytes bs2),box b50 [.int .i64 3,.string ⟨⟨tb⟩⟩,.slice e3 ks.length f3,.slice e1 cs.length f1,.slice e2 ns.length f2,.string ⟨⟨a⟩⟩,.string ⟨⟨s⟩⟩,.int .i64 g,.int .i64 z] 42,box b201 [.int .i64 0,.string ⟨⟨tb⟩⟩,.slice none 0 0,.slice e1 cs.length f1,.slice e2 ns.length f2,.string ⟨⟨a⟩⟩,.string ⟨⟨s⟩⟩,.int .i64 g,.int .i64 0] 42] m2:=oq;clear oq oh;refine rR (fA aM rfl rfl rfl ?_);refine rR (aCc o6 2 rfl eV rfl rfl ?_);refine WEnds.callJ [2,3] ‹_› rfl rfl (fun J oj=>mO ⟨B.h,J++B.T⟩ b p2 v2 k2 bs2 [32] ns _ _ hp2 (fun L h o=>(q2.ext (Own.ext (B:=⟨B.h,J++B.T⟩) o)).to1) oj (by omega) bns (by omega) (by omega) (.inr rfl)) (fun ps3 p3 v3 bs3 k3 m3 hq3 hp3 hb3 hk3' hl3 _ hj3 oq=>?_) (fun m3 hq3 oq=>?_)
    case refine_2 =>
     have hR:dT 3 cs ns a s g=none:=by rw[hRe];simp only[hq3,aJ,oMN]
     exact⟨hexQ.trans (by split;simp only[hQ,hR,aJ,oMN,oMS];rfl),rfl,oq⟩
    have o7:Own B [box b [p3,v3,.int .i64 k3] 58,row v3 5 1 bs3.length (bytes bs3),box b50 [.int .i64 3,.string ⟨⟨tb⟩⟩,.slice e3 ks.length f3,.slice e1 cs.length f1,.slice e2 ns.length f2,.string ⟨⟨a⟩⟩,.string ⟨⟨s⟩⟩,.int .i64 g,.int .i64 z] 42,box b201 [.int .i64 0,.string ⟨⟨tb⟩⟩,.slice none 0 0,.slice e1 cs.length f1,.slice e2 ns.length f2,.string ⟨⟨a⟩⟩,.string ⟨⟨s⟩⟩,.int .i64 g,.int .i64 0] 42] m3:=oq;clear oq o6;have hR:dT 3 cs ns a s g=some ([aD [32] [111,110]]++(ps3++[])):=by rw[hRe];simp only[hq3,aJ,oMS]
    refine rR (fA aM rfl rfl rfl ?_);(refine aCL o7 3 rfl eV rfl (by simp) (aI ⟨rfl,rfl⟩ ?_);intro m1221 o1221);refine rR (fA aM rfl rfl rfl ?_);refine rR (aCc o1221 2 rfl aT rfl rfl ?_);refine aCQ ?_;refine rR (nC rfl ?_);refine rR (fA bO rfl rfl rfl ?_);(refine aCM o1221 aK aL rfl rfl (by decide) (aI rfl ?_);intro b1226 m1226 o1226);refine aH [[41]] 1 30 [2,3] (i:=4) ‹_› rfl rfl rfl hp3 rfl (by omega) (by omega) (by simp) (by omega) (by omega) (fun p9 v9 bs9 k9 m9 hp9 hb9 hk9 hl9 oq=>?_);have o9:Own B [box b [p9,v9,.int .i64 k9] 58,row v9 5 1 bs9.length (bytes bs9),box b50 [.int .i64 3,.string ⟨⟨tb⟩⟩,.slice e3 ks.length f3,.slice e1 cs.length f1,.slice e2 ns.length f2,.string ⟨⟨a⟩⟩,.string ⟨⟨s⟩⟩,.int .i64 g,.int .i64 z] 42,box b201 [.int .i64 0,.string ⟨⟨tb⟩⟩,.slice none 0 0,.slice e1 cs.length f1,.slice none 0 0,.string ⟨⟨a⟩⟩,.string ⟨⟨s⟩⟩,.int .i64 g,.int .i64 0] 42] m9:=oq;clear oq;refine rR (fA aM rfl rfl rfl ?_);refine rR (aCc o9 3 rfl aL rfl rfl ?_);refine aCP (fun c1282=>?_) (fun c1282=>?_);refine rR (fA aM rfl rfl rfl ?_);refine rR (aCc o9 3 rfl mL rfl rfl ?_);refine rR (aCk rfl jA ?_);refine aCP (fun c1286=>?_) (fun c1286=>?_);refine rR (fA aM rfl rfl rfl ?_);refine rR (aCc o9 3 rfl eV rfl rfl ?_);refine rR (aCk rfl aK ?_);refine aCQ ?_;refine rR (fA aM rfl rfl rfl ?_);refine rR (aCc o9 3 rfl aL rfl rfl ?_);refine aCP (fun c1292=>?_) (fun c1292=>?_);refine rR (fA aM rfl rfl rfl ?_);refine rR (aCc o9 3 rfl aL rfl rfl ?_);refine aCP (fun c1295=>?_) (fun c1295=>?_);refine rR (fA aM rfl rfl rfl ?_)
    refine rR (aCc o9 3 rfl aT rfl rfl ?_)
    any_goals (refine aCh (B:=B) ‹_› (aE false _) (fun e8 m8 _ oq=>by cases e8) fun e8 m8 oq=>?_;exact⟨hexQ.trans (if_neg fun hb=>by obtain⟨x0,x1,x2,x3,x4⟩:=hB.1 hb;first|contradiction|omega),rfl,oq⟩)
    refine aCh (B:=B) ‹_› (aE _ _) (fun e8 m8 _ oq=>?_) fun e8 m8 oq=>?_
    case refine_2 =>
     have e8:=of_decide_eq_false e8
     exact⟨hexQ.trans (if_neg fun hb=>by obtain⟨x0,x1,x2,x3,x4⟩:=hB.1 hb;omega),rfl,oq⟩
    have e8:=of_decide_eq_true e8;have hbare:=hB.2 ⟨by assumption,by omega,by assumption,by assumption,by omega⟩;refine aCX rfl ?_;exact XEnds.done (ps:=[aD be opw,aO [] [40]]++(ps++(([aD [32] [111,110]]++(ps3++[]))++([aO [] [41]]++[])))) (hexQ.trans (by rw[if_pos hbare];simp only[hQ,hR,aJ,oMS])) (oq.sel [0,1] rfl) hp9 (by rw[hb9,hb3,hb2,hb',hb1];simp[bG,fL,wr,aD,aO]) (by rw[hk9,hk3',hk2',hk',hk1];simp;omega) (by omega) (by omega)
   by_cases hk7x:kd=7
   ·exact(by omega:False).elim
   by_cases hk8x:kd=8
   ·exact(by omega:False).elim
   exact(by omega:False).elim
theorem prExpr_c7 (b n:Nat)(hIH:aAH b n)(kd:Int)(tb:aBs)(ks:List Ex)(cs:List Cnd)(ns:List aBs)(a s:aBs)(g:Int)(off:Nat)(hcls:kd=7)(B:Base)(c:aVs)(be:aBs)(lev:Int)(p v:Value)(k:Int)(bs:aBs)(h:Heap)(hd:fY (.mk kd tb ks cs ns a s g off)≤n+1)(hOK:gA (.mk kd tb ks cs ns a s g off))(hc:kN B.h c (.mk kd tb ks cs ns a s g off))(hp:cO b p)(hbe:be=[]∨be=[32])(hlev:0≤lev∧lev+bY (.mk kd tb ks cs ns a s g off)≤1000000000000)(hT:jO B.h)(hF:gX B.h)
  (o:Own B [box b [p,v,.int .i64 k] 58,row v 5 1 bs.length (bytes bs)] h) (hl:bs.length+2000*fI (.mk kd tb ks cs ns a s g off)≤50000000000000) (hk:0≤k∧k+2000*fI (.mk kd tb ks cs ns a s g off)≤50000000000000) :
  Spec Tryz.prog 128 [.pointer (some ⟨b,0,none⟩),.string ⟨⟨be⟩⟩,.agg ⟨c⟩,.int .i64 lev] h (XEnds B b bs k (2000*fI (.mk kd tb ks cs ns a s g off)) (fZ be (.mk kd tb ks cs ns a s g off)) (lev+bY (.mk kd tb ks cs ns a s g off) - 1)):=by
  rw[fY]at hd
  rw[gA]at hOK
  rw[kN]at hc
  rw[fI]at hl hk ⊢
  rw[bY]at hlev ⊢
  rw[show lev+((cK ks+1:Nat):Int) - 1=lev+cK ks by omega]
  obtain⟨bk,btb,bks,bcs,bns,ba,bs_,bg,lk,lc,ln⟩:=hOK
  obtain⟨vk,vc,vn,z,rfl,q1,q2,xs,q3,rk⟩:=hc
  rw[gR]at q2
  obtain⟨e1,f1,rfl⟩:=q1.isS
  obtain⟨e2,f2,rfl⟩:=q2.isS
  obtain⟨e3,f3,rfl⟩:=q3.isS
  unfold qE;have hxs:xs.length=ks.length:=kH rk;have hbel:be.length≤1:=by rcases hbe with rfl|rfl<;>simp
  refine aCV Tryz.func128 rfl Tryz.ntmps128 (by kernel_rfl) ?_;by_cases hkd:1≤kd∧kd≤8
  case neg =>
   exact(by omega:False).elim
  have hfa:=oY hF kd hkd.1 hkd.2;have hf1:=hfa.1;(refine aCq o rfl ?_;intro b50 m50 o50);refine aCS [0,2,3,4,6,7,8,9,11,12,14,15,17,18] [1,5,10,13,16] [19] [0,1,2,3,4,5,6,7,8,9,10,11,12,13,14,15,16,17,18,19] mixed (by kernel_rfl) rfl (fun _ _ _ _ h=>h) ?_;refine fA aM rfl rfl rfl ?_;refine aCc o50 2 rfl aT rfl rfl ?_;refine aCP (fun c53=>?_) (fun hc=>absurd (by omega) hc);refine fA aM rfl rfl rfl ?_;refine aCc o50 2 rfl aT rfl rfl ?_;refine aCP (fun c56=>?_) (fun hc=>absurd (by omega) hc);refine fA aM rfl rfl rfl ?_;refine aCc o50 2 rfl cQ rfl rfl ?_;refine aCk rfl bV ?_;refine fA aM rfl rfl rfl ?_;refine aCc o50 2 rfl aT rfl rfl ?_;refine aCw Tryz.underlying195 pW rfl rfl (by omega) (by omega) ?_;refine fA qL rfl rfl rfl ?_;refine load1 aT rfl (o50.old hf1) ?_;refine aCh ‹_› (aE _ _) (fun e1 m2 oc oq=>?_) fun e1 m2 oq=>?_
  case refine_2 =>
   have e1:=of_decide_eq_false e1;have hq:fZ be (.mk kd tb ks cs ns a s g off)=none:=by rw[fZ,if_neg (fun h=>e1 (by rw[h.2.2.1]))]
   exact⟨hq,rfl,oq⟩
  have hkl:ks.length=iM kd:=by have:=of_decide_eq_true e1;omega
  clear e1 oc;by_cases hkone:kd=1
  ·exact(by omega:False).elim
  ·have hexQ:fZ be (.mk kd tb ks cs ns a s g off)=if gD kd tb cs ns a s g=true then aJ [some [aD be (cG.getD (kd - 2).toNat []),aO [] [40]],cZ (dY fZ) ks,dT kd cs ns a s g,some [aO [] [41]]] else none:=by
    rw[fZ]
    by_cases hb:gD kd tb cs ns a s g=true
    ·rw[if_pos ⟨hkd.1,hkd.2,hkl,hb⟩,if_neg hkone,if_pos hb,nK]
    ·rw[if_neg (fun h=>hb h.2.2.2),if_neg hb]
   have hf2:=hfa.2 hkone;have hol:=zL (kd - 2).toNat;generalize cG.getD (kd - 2).toNat []=opw at hexQ hf2 hol;clear hfa;refine rR (aCg oq 2 rfl aS rfl rfl rfl ?_);(refine aCN oq aS ?_;intro b201 m201 o201);(refine aCf o201 3 rfl aS rfl (by decide) (aI ⟨rfl,rfl⟩ ?_);intro m202 o202);refine rR (fA aM rfl rfl rfl ?_);(refine aCL o202 3 rfl aT rfl (by simp) (aI ⟨rfl,rfl⟩ ?_);intro m204 o204);refine rR (fA aM rfl rfl rfl ?_);(refine aCL o204 3 rfl cQ rfl (by simp) (aI ⟨rfl,rfl⟩ ?_);intro m206 o206);refine rR (fA aM rfl rfl rfl ?_);(refine aCL o206 3 rfl aT rfl (by simp) (aI ⟨rfl,rfl⟩ ?_);intro m208 o208);refine rR (fA aM rfl rfl rfl ?_);refine rR (aCc o208 2 rfl aT rfl rfl ?_);refine aCP (fun hc=>absurd hc (by omega)) (fun c211=>?_);refine aCS [0,1,2,3,4,6,7,9] [5,8] [10,11] [0,1,2,3,4,5,6,7,8,9,10,11] mixed (by kernel_rfl) rfl (fun _ _ _ _ h=>h) ?_;refine nC rfl ?_;refine fA bO rfl rfl rfl ?_;refine fA aM rfl rfl rfl ?_;refine aCc o208 2 rfl aT rfl rfl ?_;refine aCw Tryz.underlying195 pW rfl rfl (by omega) (by omega) ?_;refine fA qL rfl rfl rfl ?_;refine load1 aL rfl (o208.old hf2) ?_;refine aCm rfl rfl (by first|omega|(simp;omega)) ?_;(refine aCM o208 aK aL rfl rfl (by decide) (aI rfl ?_);intro b220 m220 o220);refine aH [be++opw,[40]] 2 30 [2,3] (i:=4) ‹_› rfl rfl rfl hp rfl (by omega) (by omega) (by simp;omega) (by omega) (by omega) (fun p1 v1 bs1 k1 m1 hp1 hb1 hk1 hl1 oq=>?_);have o4:Own B [box b [p1,v1,.int .i64 k1] 58,row v1 5 1 bs1.length (bytes bs1),box b50 [.int .i64 kd,.string ⟨⟨tb⟩⟩,.slice e3 ks.length f3,.slice e1 cs.length f1,.slice e2 ns.length f2,.string ⟨⟨a⟩⟩,.string ⟨⟨s⟩⟩,.int .i64 g,.int .i64 z] 42,box b201 [.int .i64 0,.string ⟨⟨tb⟩⟩,.slice none 0 0,.slice e1 cs.length f1,.slice e2 ns.length f2,.string ⟨⟨a⟩⟩,.string ⟨⟨s⟩⟩,.int .i64 g,.int .i64 0] 42] m1:=oq
   clear oq;refine rR (fA aM rfl rfl rfl ?_);refine rR (aCc o4 2 rfl cQ rfl rfl ?_);refine rR (aCk rfl bV ?_);refine aCZ [10,11,12,67,68,69,70,71,72,73,74,75,76,77,78,79,80,81,82,83,84,85,86,87,88,89,90] [10,67] (fun vs' hh=>∃(i:Nat) (p' v':Value) (bs':aBs) (k':Int) (ps:List Pc),i≤ks.length∧vs'=[.int .i64 (lev+cK (ks.take i)),.int .i64 i]∧cO b p'∧cZ (dY fZ) (ks.take i)=some ps∧bs'=bs1++bG ps∧k'=k1+ps.length∧bs'.length≤bs1.length+(2000*fS (ks.take i)+30*i)∧k'≤k1+(2000*fS (ks.take i)+30*i)∧Own B [box b [p',v',.int .i64 k'] 58,row v' 5 1 bs'.length (bytes bs'),box b50 [.int .i64 kd,.string ⟨⟨tb⟩⟩,.slice e3 ks.length f3,.slice e1 cs.length f1,.slice e2 ns.length f2,.string ⟨⟨a⟩⟩,.string ⟨⟨s⟩⟩,.int .i64 g,.int .i64 z] 42,box b201 [.int .i64 0,.string ⟨⟨tb⟩⟩,.slice none 0 0,.slice e1 cs.length f1,.slice e2 ns.length f2,.string ⟨⟨a⟩⟩,.string ⟨⟨s⟩⟩,.int .i64 g,.int .i64 0] 42] hh) (fun vs' _=>match vs' with|[_,.int _ i]=>ks.length - i.toNat|_=>0) ?_ ?_
   ·exact⟨0,p1,v1,bs1,k1,[],by omega,by simp[cK],hp1,rfl,by simp[bG],by simp,by omega,by omega,o4⟩
   rintro vs' junk hh ⟨i,p',v',bs',k',ps,hi,rfl,hp',hQ,hb',hk',hl',hk2,oh⟩;clear o4;have hk2s:ks.length≤2:=by rw[hkl];unfold iM;split<;>(try split)<;>omega
   have hszl:=eB ks i;by_cases hlt:i<ks.length
   ·obtain⟨kx,hkx⟩:=getx hlt
    obtain⟨cx,hcx,hrx⟩:=jF rk hkx
    have hdx:=gJ hkx;have hsz:=kY hkx;have hszl2:=eB ks (i+1);have hlv:=jV hkx;have hlvl:bY kx≤cK ks:=kZ hkx;have hlp:=oZ kx;have hxOK:=gU bks hkx;have hrx2:=hrx
    obtain⟨cxv,hcl⟩:=cx
    obtain⟨xk,xt,xks,xcs,xns,xa,xs_,xg,xo⟩:=kx
    rw[kN]at hrx2
    obtain⟨wk,wc,wn,wz,hcv,g1,g2,gx,g3,_⟩:=hrx2
    obtain⟨h1,h2,rfl⟩:=g1.isS
    obtain⟨h3,h4,rfl⟩:=g2.isS
    obtain⟨h5,h6,rfl⟩:=g3.isS
    dsimp only at hcv hrx;subst hcv;unfold qE at hcx hrx hcl;clear g1 g2 g3;by_cases h0:i=0
    ·subst h0
     refine aCP (fun c400=>?_) (fun hc=>absurd (by omega) hc);refine rR (aCn bV aS (q3.ext oh.ext) rfl (by omega) (by omega) ?_);refine rR (aCp aS (q3.ext oh.ext) (fun y:cX=>y.2) (by decide) rfl ‹_› ?_);(refine aCN oh aS ?_;intro b403 m403 o403);(refine aCf o403 4 rfl aS rfl (by decide) (aI ⟨rfl,rfl⟩ ?_);intro m404 o404);refine aCR ?_;refine aCS [0,1,3,4,7,8,10,11] [5,6] [9] [0,1,3,6,7,8,2,4,5,9,10,11] mixed (by kernel_rfl) rfl (fun _ _ _ _ h=>h) ?_;refine aCg o404 4 rfl aS rfl rfl rfl ?_;refine aCW (by omega) (by omega) ?_;(refine aCM (Own.refl _) aK aL rfl rfl (by decide) (aI rfl ?_);intro b406 m406 o406);(refine aI o406.ext ?_;have o407:=Own.call o404 o406;simp only[lcA,lnA]at o407;clear o406);refine idxB o407 5 rfl aK aL rfl rfl (by omega) (by first|omega|(simp;omega)) ?_;refine aCc o407 5 rfl aL rfl rfl ?_;refine XEnds.callJ [2,3] ‹_› rfl rfl (fun J oj=>hIH _ _ _ [] _ p' v' k' bs' _ (aDk hdx (by omega)) hxOK hrx hp' (.inl rfl) (by omega) hT hF oj (by omega) (by omega)) (fun ps2 p2 v2 bs2 k2 m2 hq2 hp2 hb2 hk2' hl2 _ hj2 oq=>?_) (fun m2 hq2 oq=>?_)
     case refine_2 =>
      have:cZ (dY fZ) ks=none:=aR hkx hQ hq2
      exact⟨hexQ.trans (by split;simp only[this,aJ,oMN];rfl),rfl,oq⟩
     have o5:Own B [box b [p2,v2,.int .i64 k2] 58,row v2 5 1 bs2.length (bytes bs2),box b50 [.int .i64 kd,.string ⟨⟨tb⟩⟩,.slice e3 ks.length f3,.slice e1 cs.length f1,.slice e2 ns.length f2,.string ⟨⟨a⟩⟩,.string ⟨⟨s⟩⟩,.int .i64 g,.int .i64 z] 42,box b201 [.int .i64 0,.string ⟨⟨tb⟩⟩,.slice none 0 0,.slice e1 cs.length f1,.slice e2 ns.length f2,.string ⟨⟨a⟩⟩,.string ⟨⟨s⟩⟩,.int .i64 g,.int .i64 0] 42] m2:=oq;clear oq;refine max2 rfl rfl ?_;refine aCW (by omega) (by omega) ?_
     refine⟨rfl,?_⟩
     refine⟨⟨0+1,p2,v2,bs2,k2,ps++ps2,by omega,?_,hp2,bA hkx hQ hq2,by rw[hb2,hb'];simp[bG],by rw[hk2',hk'];simp;omega,by omega,by omega,Own.sel ‹_› [0,1,2,3] rfl⟩,by simp;omega⟩
     congr 2
     omega
    ·obtain rfl:i=1:=by omega
     refine aCP (fun c500=>?_) (fun hc=>absurd (by omega) hc);refine rR (aCn bV aS (q3.ext oh.ext) rfl (by omega) (by omega) ?_);refine rR (aCp aS (q3.ext oh.ext) (fun y:cX=>y.2) (by decide) rfl ‹_› ?_);(refine aCN oh aS ?_;intro b503 m503 o503);(refine aCf o503 4 rfl aS rfl (by decide) (aI ⟨rfl,rfl⟩ ?_);intro m504 o504);refine aCQ ?_;refine rR (nC rfl ?_);refine rR (fA bO rfl rfl rfl ?_);(refine aCM o504 aK aL rfl rfl (by decide) (aI rfl ?_);intro b507 m507 o507);refine aH [[44]] 1 30 [2,3,4] (i:=5) ‹_› rfl rfl rfl hp' rfl (by omega) (by omega) (by simp) (by omega) (by omega) (fun p3 v3 bs3 k3 m3 hp3 hb3 hk3 hl3 oq=>?_);have o5:=oq
     simp only[pick,lgS,lgZ]at o5
     clear oq oh;refine aCS [0,1,3,4,7,8,10,11] [5,6] [9] [0,1,3,6,7,8,2,4,5,9,10,11] mixed (by kernel_rfl) rfl (fun _ _ _ _ h=>h) ?_;refine aCg o5 4 rfl aS rfl rfl rfl ?_;refine aCW (by omega) (by omega) ?_;(refine aCM (Own.refl _) aK aL rfl rfl (by decide) (aI rfl ?_);intro b551 m551 o551);(refine aI o551.ext ?_;have o552:=Own.call o5 o551;simp only[lcA,lnA]at o552;clear o551);refine idxB o552 5 rfl aK aL rfl rfl (by omega) (by first|omega|(simp;omega)) ?_;refine aCc o552 5 rfl aL rfl rfl ?_;refine XEnds.callJ [2,3] ‹_› rfl rfl (fun J oj=>hIH _ _ _ [32] _ p3 v3 k3 bs3 _ (aDk hdx (by omega)) hxOK hrx hp3 (.inr rfl) (by omega) hT hF oj (by omega) (by omega)) (fun ps2 p2 v2 bs2 k2 m2 hq2 hp2 hb2 hk2' hl2 _ hj2 oq=>?_) (fun m2 hq2 oq=>?_)
     case refine_2 =>
      have:cZ (dY fZ) ks=none:=aR hkx hQ (by unfold dY;rw[if_neg (by decide),hq2];rfl)
      exact⟨hexQ.trans (by split;simp only[this,aJ,oMN];rfl),rfl,oq⟩
     have o6:Own B [box b [p2,v2,.int .i64 k2] 58,row v2 5 1 bs2.length (bytes bs2),box b50 [.int .i64 kd,.string ⟨⟨tb⟩⟩,.slice e3 ks.length f3,.slice e1 cs.length f1,.slice e2 ns.length f2,.string ⟨⟨a⟩⟩,.string ⟨⟨s⟩⟩,.int .i64 g,.int .i64 z] 42,box b201 [.int .i64 0,.string ⟨⟨tb⟩⟩,.slice none 0 0,.slice e1 cs.length f1,.slice e2 ns.length f2,.string ⟨⟨a⟩⟩,.string ⟨⟨s⟩⟩,.int .i64 g,.int .i64 0] 42] m2:=oq;clear oq;refine max2 rfl rfl ?_;refine aCW (by omega) (by omega) ?_
     refine⟨rfl,?_⟩
     refine⟨⟨1+1,p2,v2,bs2,k2,ps++(aO [] [44]::ps2),by omega,?_,hp2,bA hkx hQ (by unfold dY;rw[if_neg (by decide),hq2];rfl),by rw[hb2,hb3,hb'];simp[bG,fL,wr,aO],by rw[hk2',hk3,hk'];simp;omega,by omega,by omega,Own.sel ‹_› [0,1,2,3] rfl⟩,by simp;omega⟩
     congr 2
     omega
   have hQ:=fR (aDt hlt) hQ
   rw[aDm (aDt hlt)]at hl' hk2 ⊢
   by_cases hk2x:kd=2
   ·exact(by omega:False).elim
   by_cases hk3x:kd=3
   ·exact(by omega:False).elim
   by_cases hk7x:kd=7
   ·subst hk7x
    have hB:gD 7 tb cs ns a s g=true↔tb=[]∧cs.length=0∧ns.length=0∧g=0:=by simp[gD]
    have hRe:dT 7 cs ns a s g=aJ [some [aO [] [44]],aZ [32] a,some [aD [32] [97,115]],aZ [32] s]:=rfl;refine aCP (fun hc=>absurd hc (by omega)) (fun c1400=>?_);refine rR (fA aM rfl rfl rfl ?_);refine rR (aCc oh 2 rfl aT rfl rfl ?_);refine aCR ?_;refine aCR ?_;refine aCR ?_;refine aCQ ?_;refine aCS [0,1,2,3,6,7,10] [4,8] [9,11,12] [0,1,2,3,4,7,8,5,6,9,10,11,12] mixed (by kernel_rfl) rfl (fun _ _ _ _ h=>h) ?_;refine nC rfl ?_;refine fA bO rfl rfl rfl ?_;refine fA aM rfl rfl rfl ?_;refine aCc oh 2 rfl aL rfl rfl ?_;refine fA aM rfl rfl rfl ?_;refine aCc oh 2 rfl aL rfl rfl ?_;refine aCh (B:=B) ‹_› (bJ a _ ba) (fun ea mea ocea oq=>?_) fun ea mea oq=>?_
    case refine_2 =>
     have hR:dT 7 cs ns a s g=none:=by rw[hRe];simp only[cS ea,aJ,oMN]
     exact⟨hexQ.trans (by split;simp only[hQ,hR,aJ,oMN,oMS];rfl),rfl,oq⟩
    have hnlea:=cR ea
    refine⟨ocea.ext,?_⟩
    clear ocea;refine aCm rfl rfl (by first|omega|(simp;omega)) ?_;refine aCh (B:=B) ‹_› (bJ s _ bs_) (fun es mes oces oq=>?_) fun es mes oq=>?_
    case refine_2 =>
     have hR:dT 7 cs ns a s g=none:=by rw[hRe];simp only[aA ea,cS es,aJ,oMN]
     exact⟨hexQ.trans (by split;simp only[hQ,hR,aJ,oMN,oMS];rfl),rfl,oq⟩
    have hnles:=cR es;clear oces oh;refine aCm rfl rfl (by first|omega|(simp;omega)) ?_;(refine aCM oq aK aL rfl rfl (by decide) (aI rfl ?_);intro b1521 m1521 o1521);refine aH [[44],[32]++a,[32,97,115],[32]++s] 4 30 [2,3] (i:=4) ‹_› rfl rfl rfl hp' rfl (by omega) (by omega) (by simp;omega) (by omega) (by omega) (fun p2 v2 bs2 k2 m2 hp2 hb2 hk2' hl2 oq=>?_);have o6:Own B [box b [p2,v2,.int .i64 k2] 58,row v2 5 1 bs2.length (bytes bs2),box b50 [.int .i64 7,.string ⟨⟨tb⟩⟩,.slice e3 ks.length f3,.slice e1 cs.length f1,.slice e2 ns.length f2,.string ⟨⟨a⟩⟩,.string ⟨⟨s⟩⟩,.int .i64 g,.int .i64 z] 42,box b201 [.int .i64 0,.string ⟨⟨tb⟩⟩,.slice none 0 0,.slice e1 cs.length f1,.slice e2 ns.length f2,.string ⟨⟨a⟩⟩,.string ⟨⟨s⟩⟩,.int .i64 g,.int .i64 0] 42] m2:=oq;clear oq;have hR:dT 7 cs ns a s g=some [aO [] [44],aD [32] a,aD [32] [97,115],aD [32] s]:=by rw[hRe];simp only[aA ea,aA es,aJ,oMS];rfl
    refine rR (fA aM rfl rfl rfl ?_);(refine aCL o6 3 rfl aL rfl (by simp) (aI ⟨rfl,rfl⟩ ?_);intro m1581 o1581);refine rR (fA aM rfl rfl rfl ?_);(refine aCL o1581 3 rfl aL rfl (by simp) (aI ⟨rfl,rfl⟩ ?_);intro m1583 o1583);refine rR (fA aM rfl rfl rfl ?_);refine rR (aCc o1583 2 rfl aT rfl rfl ?_);refine aCQ ?_;refine rR (nC rfl ?_);refine rR (fA bO rfl rfl rfl ?_);(refine aCM o1583 aK aL rfl rfl (by decide) (aI rfl ?_);intro b1588 m1588 o1588);refine aH [[41]] 1 30 [2,3] (i:=4) ‹_› rfl rfl rfl hp2 rfl (by omega) (by omega) (by simp) (by omega) (by omega) (fun p9 v9 bs9 k9 m9 hp9 hb9 hk9 hl9 oq=>?_);have o9:Own B [box b [p9,v9,.int .i64 k9] 58,row v9 5 1 bs9.length (bytes bs9),box b50 [.int .i64 7,.string ⟨⟨tb⟩⟩,.slice e3 ks.length f3,.slice e1 cs.length f1,.slice e2 ns.length f2,.string ⟨⟨a⟩⟩,.string ⟨⟨s⟩⟩,.int .i64 g,.int .i64 z] 42,box b201 [.int .i64 0,.string ⟨⟨tb⟩⟩,.slice none 0 0,.slice e1 cs.length f1,.slice e2 ns.length f2,.string ⟨⟨[]⟩⟩,.string ⟨⟨[]⟩⟩,.int .i64 g,.int .i64 0] 42] m9:=oq;clear oq;refine rR (fA aM rfl rfl rfl ?_);refine rR (aCc o9 3 rfl aL rfl rfl ?_);refine aCP (fun c1642=>?_) (fun c1642=>?_);refine rR (fA aM rfl rfl rfl ?_);refine rR (aCc o9 3 rfl mL rfl rfl ?_);refine rR (aCk rfl jA ?_);refine aCP (fun c1646=>?_) (fun c1646=>?_);refine rR (fA aM rfl rfl rfl ?_);refine rR (aCc o9 3 rfl eV rfl rfl ?_);refine rR (aCk rfl aK ?_);refine aCP (fun c1650=>?_) (fun c1650=>?_);refine rR (fA aM rfl rfl rfl ?_);refine rR (aCc o9 3 rfl aL rfl rfl ?_);refine aCQ ?_;refine rR (fA aM rfl rfl rfl ?_)
    refine rR (aCc o9 3 rfl aL rfl rfl ?_);refine aCQ ?_;refine rR (fA aM rfl rfl rfl ?_);refine rR (aCc o9 3 rfl aT rfl rfl ?_)
    any_goals (refine aCh (B:=B) ‹_› (aE false _) (fun e8 m8 _ oq=>by cases e8) fun e8 m8 oq=>?_;exact⟨hexQ.trans (if_neg fun hb=>by obtain⟨x0,x1,x2,x3⟩:=hB.1 hb;first|contradiction|omega),rfl,oq⟩)
    refine aCh (B:=B) ‹_› (aE _ _) (fun e8 m8 _ oq=>?_) fun e8 m8 oq=>?_
    case refine_2 =>
     have e8:=of_decide_eq_false e8
     exact⟨hexQ.trans (if_neg fun hb=>by obtain⟨x0,x1,x2,x3⟩:=hB.1 hb;omega),rfl,oq⟩
    have e8:=of_decide_eq_true e8;have hbare:=hB.2 ⟨by assumption,by omega,by omega,by omega⟩;refine aCX rfl ?_;exact XEnds.done (ps:=[aD be opw,aO [] [40]]++(ps++([aO [] [44],aD [32] a,aD [32] [97,115],aD [32] s]++([aO [] [41]]++[])))) (hexQ.trans (by rw[if_pos hbare];simp only[hQ,hR,aJ,oMS])) (oq.sel [0,1] rfl) hp9 (by rw[hb9,hb2,hb',hb1];simp[bG,fL,wr,aD,aO]) (by rw[hk9,hk2',hk',hk1];simp;omega) (by omega) (by omega)
   by_cases hk8x:kd=8
   ·exact(by omega:False).elim
   exact(by omega:False).elim
end Go.Proofs.YtohlogbnpfofpaaGreatDoor
