/- Part 3 of the proof of matches_lifted: VcSync, VcArr, VcTree, VcPtr, Structs, VcDrawP, VcMap, VcFork, VcSame, VcAny, VcAp, Law, Law3, Shelf, Dec. -/
import Derived.Laws.LoneSync
import Derived.Laws.CopyRow
import Derived.Laws.Pointers
import Derived.Lib.BufferWrite
import Derived.ProofKit
import Derived.LaidMore
import Derived.OpenShut
import Derived.Stop.Joined
import Derived.Stop.LaidErr
import Derived.SliceStrings
import Derived.SevenTiedAt
import Derived.Lib.SmallJoins
import Derived.Shelf.Vars
import Derived.Deep.Strs
import Derived.Shelf.Strconv.Atoi
import Derived.Shelf.Small.Strs
import Derived.Shelf.Strings.Prefix
import Derived.Shelf.Strings.Search1
import Derived.Ground.Names2Prog
import Derived.Shelf.Strings.Count
import Derived.Shelf.LaysM
import Derived.Shelf.LaysC
import Derived.Shelf.Strconv.Itoa3
import Derived.Shelf.Strings.Builder1
import Derived.Test.YtohlogbnpfofpaaGreatDoorProg
import Derived.Lib.ItoaMem
import Derived.Test.YtohlogbnpfofpaaGreatDoorPX02
set_option linter.all false
set_option maxHeartbeats 100000000
set_option maxRecDepth 100000
namespace Go.Proofs.YtohlogbnpfofpaaGreatDoor
open Go
section
variable {P : Program} {f : FuncId} {fn : Func} {B : Base} {L : List Item} {h : Heap}
theorem XSpec.mark0 (hf:P.funcs[f]?=some fn)(hname:(fn.name == "runtime.NumGoroutine")=false)(hb:fn.body.isNone=true)(hn:Extern.findNext fn=none)(m:Mark)
  (he:Extern.find fn=some (λ_=>do mark m;pure Extern.Race.none_)):XSpec P f [] h (Ret λv h'=>v=.tuple #[]/\h'=h) :=
 λw hw=>⟨_,w,run_call_mark0 hf hname hb hn m he w,.refl w,rfl,hw⟩
theorem XSpec.marked (hf:P.funcs[f]?=some fn)(hname:(fn.name == "runtime.NumGoroutine")=false)(hb:fn.body.isNone=true)(hn:Extern.findNext fn=none)(m:Addr->Mark)
  (he:Extern.find fn=some (Extern.Race.marked m)) (a:Addr):XSpec P f [.pointer (some a)] h (Ret λv h'=>v=.tuple #[]/\h'=h) :=
 λw hw=>⟨_,w,run_call_marked hf hname hb hn m he a w,.refl w,rfl,hw⟩
theorem XSpec.load (hf:P.funcs[f]?=some fn)(hname:(fn.name == "runtime.NumGoroutine")=false)(hb:fn.body.isNone=true)(hn:Extern.findNext fn=none)(k:IntKind)
  (he:Extern.find fn=some (Extern.Atomic.loadT (.int k))) {a:Addr} {x:Int} (hc:bI h a=some (.int k x)):XSpec P f [.pointer (some a)] h (Ret λv h'=>v=.int k x/\h'=h) :=
 λw hw=>⟨_,w,run_call_load hf hname hb hn k he (by rw[hH,hw];exact hc),.refl w,rfl,hw⟩
theorem Own.setCell {w:World}(o:Own B L w.heap)(q:Nat) {b:Nat}{cs:aVs}{t:TypeId}(hk:L[q]?=some (box b cs t))(off:Nat)(v:Value) :
  Own B (L.set q (box b (cs.set off v) t)) (w.setCell ⟨b,off,none⟩ v).heap:=by
 have hb:=o.boxBlk q hk;refine o.set hk zS (λx _ hx=>?_) (sJ hb) (λx hx=>.inl hx) (λx hx=>?_)
 ·have:=(iT [v] w b off).2.1 x hx
  simpa[wsets] using this
 ·have:=o.hi _ (aDY hk) x hx
  simpa using this
theorem Same.setCell (w:World)(a:Addr)(v:Value):Same w (w.setCell a v):=⟨rfl,rfl,rfl,by simp⟩
theorem aBn {w:World}(o:Own B L w.heap)(q:Nat) {b:Nat}{cs:aVs}{t:TypeId}(hk:L[q]?=some (box b cs t)) {off:Nat}{v:Value}(hv:cs[off]?=some v) :
  w.cell? ⟨b,off,none⟩=some v/\w.frozen? ⟨b,off,none⟩=false:=by
 have hb:=o.boxBlk q hk
 refine⟨by rw[hH,o.cellB q hk];exact hv,?_⟩
 simp[World.frozen?,hb]
theorem XSpec.cas (hf:P.funcs[f]?=some fn)(hname:(fn.name == "runtime.NumGoroutine")=false)(hb:fn.body.isNone=true)(hn:Extern.findNext fn=none)(k:IntKind)
  (he:Extern.find fn=some (Extern.Atomic.casT (.int k))) (o:Own B L h) (q:Nat) {b off:Nat} {cs:aVs} {t:TypeId} (hk:L[q]?=some (box b cs t)) {x y:Int} (hv:cs[off]?=some (.int k x)) :
  XSpec P f [.pointer (some ⟨b,off,none⟩),.int k x,.int k y] h (Ret λv h'=>v=.bool true/\Own B (L.set q (box b (cs.set off (.int k y)) t)) h'):=λw hw=>by
 subst hw
 obtain⟨hc,hz⟩:=aBn o q hk hv
 exact⟨_,_,run_call_cas_hit hf hname hb hn k he hc hz,Same.setCell _ _ _,rfl,o.setCell q hk off _⟩
theorem XSpec.store (hf:P.funcs[f]?=some fn)(hname:(fn.name == "runtime.NumGoroutine")=false)(hb:fn.body.isNone=true)(hn:Extern.findNext fn=none)
  (he:Extern.find fn=some Extern.Atomic.storeT) (o:Own B L h) (q:Nat) {b off:Nat} {cs:aVs} {t:TypeId} (hk:L[q]?=some (box b cs t)) {k:IntKind} {y:Int} {u:Value} (hv:cs[off]?=some u) :
  XSpec P f [.pointer (some ⟨b,off,none⟩),.int k y] h (Ret λv h'=>v=.tuple #[]/\Own B (L.set q (box b (cs.set off (.int k y)) t)) h'):=λw hw=>by
 subst hw
 obtain⟨hc,hz⟩:=aBn o q hk hv
 exact⟨_,_,run_call_store hf hname hb hn he hc hz,Same.setCell _ _ _,rfl,o.setCell q hk off _⟩
theorem XSpec.add (hf:P.funcs[f]?=some fn)(hname:(fn.name == "runtime.NumGoroutine")=false)(hb:fn.body.isNone=true)(hn:Extern.findNext fn=none)(k:IntKind)
  (he:Extern.find fn=some (Extern.Atomic.update (Op.intArith .add) k true)) (o:Own B L h) (q:Nat) {b off:Nat} {cs:aVs} {t:TypeId} (hk:L[q]?=some (box b cs t)) {x y:Int} (hv:cs[off]?=some (.int k x)) :
  XSpec P f [.pointer (some ⟨b,off,none⟩),.int k y] h (Ret λv h'=>v=.int k (k.wrap (x+y))/\Own B (L.set q (box b (cs.set off (.int k (k.wrap (x+y)))) t)) h'):=λw hw=>by
 subst hw
 obtain⟨hc,hz⟩:=aBn o q hk hv
 exact⟨_,_,run_call_add hf hname hb hn k he hc hz (by simp[Op.intArith]),Same.setCell _ _ _,rfl,o.setCell q hk off _⟩
theorem StillVC.toUnsafe {ty:TypeId}{s:aVs}{K:KK}{src dst e:TypeId}{x:Operand}{a:Addr}{v:Value}(hs:P.underlying src=some (.pointer e))(hd:P.underlying dst=some .unsafePointer)
  (hsz:((P.info? e).map λi=>decide (i.size=0))=some false) (hx:ev s x=.pointer (some a)) (hc:bI h a=some v) (hk:K (.pointer (some a)) false h):StillVC false P (.convert src dst x) ty s h K :=
 ⟨.pointer (some a),false,[(a,v)],by simp,by simpa using hc,λw hw=>by
  have:w.cell? a=some v:=hw (a,v) zS
  have:=run_convert_to_unsafe (P:=P) (src:=src) (dst:=dst) hs hd hsz this
  simp[execOp,hx,this],hk⟩
end
def DSpec (P:Program)(f:FuncId)(args:aVs)(h:Heap)(R:Ending->Heap->Prop):Prop :=
 (∃ fn,P.funcs[f]?=some fn/\fn.body.isNone=false/\(fn.name == "runtime.NumGoroutine")=false) /\
 ∀(u:FrameMode) (w:World),w.heap=h->CallsD P f args.toArray u w λe u' w'=>u'=u/\Same w w'/\R e w'.heap
theorem DSpec.enter {P:Program}{f:FuncId}{fn:Func}{c:Code}{n:Nat}{args:aVs}{h:Heap}{R:Ending->Heap->Prop}
  (hf:P.funcs[f]?=some fn) (hb:fn.body=some c) (hn:fn.ntmps=n) (hname:(fn.name == "runtime.NumGoroutine")=false)
  (hv:nL args n λs=>vcode P c (zV P fn R) s h):DSpec P f args h R:=by
 refine⟨⟨fn,hf,by simp[hb],hname⟩,λu w hw=>?_⟩
 subst hw
 rw[oJ]at hv
 have hwp:=eH (w0:=w) (ds:=[]) c _ _ w (.refl w) hv;have he:act (args++List.replicate (n - args.length) undef) []={ tmps:=args.toArray++Array.replicate (fn.ntmps - args.toArray.size) undef,defers:=[] }:=by
  simp[act,hn]
 rw[he]at hwp
 refine callsD_of_wp (R:=λe w'=>Same w w'/\R e w'.heap) hf hb (wp_mono hwp ?_);rintro e a w' ⟨s',rfl,hs',hq⟩;cases e with
 | normal=>obtain⟨v,hr,hR⟩:=hq.ex;exact⟨rfl,v,hr w' rfl,hs',hR⟩
 | ret=>obtain⟨v,hr,hR⟩:=hq.ex;exact⟨rfl,v,hr w' rfl,hs',hR⟩
 | panic c=>exact⟨rfl,hs',hq⟩
 | _=>exact hq.elim
theorem yY {P:Program}{fn:Func}{tmps:Array Value}{R:Ending->World->Prop}{f:FuncId}{args:aVs}{ds:List Deferred}{w:World}{Post:Value->Heap->Prop}
  (sp:DSpec P f args w.heap (Ret Post)) (hk:∀ v w',Same w w'->Post v w'.heap->Leaves P fn tmps R ds .returning w') :
  Leaves P fn tmps R ({ target:=.fn (.func f) #[],args:=args.toArray }::ds) .returning w:=by
 obtain⟨⟨gn,hg,hbody,hname⟩,hsp⟩:=sp
 refine leaves_cons (f:=f) (args:=args.toArray) zS ?_ ?_
 ·have h1:¬ gn.name = "runtime.NumGoroutine":=by simpa using hname
  have h2:¬ gn.body=none:=by intro e;simp[e]at hbody
  simp[invoke,callFunc,hg,h1,h2]
 ·refine(hsp .returning w rfl).mono ?_
  rintro e u' w' ⟨rfl,hs,hR⟩;cases e with
  | returned v=>exact hk v w' hs hR
  | panicked c=>exact hR.elim
  | outgrown=>exact hR.elim
theorem rX {P:Program}{id t1 t2 t3 T k g:Nat}{more:List Operand}{s:aVs}{w:World}{ds:List Deferred}{b o off sz:Nat}{places:List (Nat×Nat)}{aggs:List Bool}{zero:aVs}
  {ty1 ty2 aK yF:TypeId} {p1 p2 p3 p4:String} {a1 a2 a3 a4:Array Edge} {tys:Array TypeId} {Q:Exit->Act->World->Prop}
  (hT:StructT P T places aggs zero) (hp:places[k]?=some (off,sz)) (hz:Nat.beq sz 0=false) (h0:sget s 0=.pointer (some ⟨b,o,none⟩)) (_h1:0<t1) (h2:t1<t2) (h3:t2<t3) (hl:t3<s.length) (hm:∀ x∈more,∃ v,x=.const v)
  (hk:Q .normal (act (((s.set t1 (.pointer (some ⟨b,o,none⟩))).set t2 (.pointer (some ⟨b,o,none⟩))).set t3 (.pointer (some ⟨b,o+off,none⟩))) (⟨.fn (.func g) #[],(.pointer (some ⟨b,o+off,none⟩)::more.map (ev s)).toArray⟩::ds)) w) :
  (Code.region id #[⟨some t1,.move (.tmp 0),ty1,p1,a1,none⟩,⟨some t2,.nilCheck (.tmp t1),ty2,p2,a2,none⟩,⟨some t3,.fieldAddr T (.tmp t2) k,aK,p3,a3,none⟩,⟨none,.defer ⟨.value (.func g),⟨.tmp t3::more⟩,tys⟩,yF,p4,a4,none⟩] false).wp P Q (act s ds) w:=by
 have gs:∀(s:aVs) (t:Nat) (v:Value),t<s.length->sget (s.set t v) t=v:=λs t v ht=>by rw[← dS];simp[List.getD,ht]
 refine wp_region ?_;show wpOps P _ Q [0,1,2,3] (act s ds) w;unfold wpOps
 simp only[aEl,lgZ,Region.wanted,if_true]
 refine .inl ?_;have e1:ev s (.tmp 0)=.pointer (some ⟨b,o,none⟩):=h0;have r1:(execOp (ev s) ⟨none,.move (.tmp 0),ty1, "",#[],none⟩).run P w=.ok (.value (.pointer (some ⟨b,o,none⟩))) w:=by simp[execOp,e1]
 simp only[Oper.wp,fV,eU,r1,Oper.upon,wL]
 unfold wpOps
 simp only[aEl,lgS,lgZ,Region.wanted,if_true]
 refine .inl ?_;have e2:ev (s.set t1 (.pointer (some ⟨b,o,none⟩))) (.tmp t1)=.pointer (some ⟨b,o,none⟩):=gs _ _ _ zO;have r2:(execOp (ev (s.set t1 (.pointer (some ⟨b,o,none⟩)))) ⟨none,.nilCheck (.tmp t1),ty2, "",#[],none⟩).run P w=.ok (.value (.pointer (some ⟨b,o,none⟩))) w:=by simp[execOp,e2]
 simp only[Oper.wp,fV,eU,r2,Oper.upon,wL]
 unfold wpOps
 simp only[aEl,lgS,lgZ,Region.wanted,if_true]
 refine .inl ?_;have e3:ev ((s.set t1 (.pointer (some ⟨b,o,none⟩))).set t2 (.pointer (some ⟨b,o,none⟩))) (.tmp t2)=.pointer (some ⟨b,o,none⟩):=gs _ _ _ (by simp;omega)
 obtain⟨v,l,reads,hre,_,hrun,hv⟩:=(StillVC.fA (pr:=true) (P:=P) (ty:=aK) (s:=(s.set t1 (.pointer (some ⟨b,o,none⟩))).set t2 (.pointer (some ⟨b,o,none⟩))) (h:=w.heap) (x:=.tmp t2) (f:=k)
  (K:=λv _ _=>v=.pointer (some ⟨b,o+off,none⟩)) hT e3 hp hz rfl).ex
 subst hv;have r3:=hrun w (by rw[hre rfl];simp)
 simp only[Oper.wp,fV,eU,r3,Oper.upon,wL]
 unfold wpOps
 simp only[aEl,lgS,lgZ,Region.wanted,if_true]
 refine .inl ?_;have e5:more.map (ev (((s.set t1 (.pointer (some ⟨b,o,none⟩))).set t2 (.pointer (some ⟨b,o,none⟩))).set t3 (.pointer (some ⟨b,o+off,none⟩))))=more.map (ev s):=by
  refine List.map_congr_left λx hx=>?_
  obtain⟨v,rfl⟩:=hm x hx
  rfl
 simp only[Oper.wp,fV]
 have e7:=gs ((s.set t1 (.pointer (some ⟨b,o,none⟩))).set t2 (.pointer (some ⟨b,o,none⟩))) t3 (.pointer (some ⟨b,o+off,none⟩)) (by simp;omega)
 simp[execOp,resolve,e5,ev,Deferred.ofValue,Oper.upon,wpOps,e7]
 exact hk
section
variable {P : Program} {ty : TypeId} {s : aVs} {h0 : Base} {h : Heap} {L : List Item} {K : KK} {Q : QQ} {pr : Bool}
theorem StillVC.aDo {t e:TypeId}{n by_:Nat}{x i:Operand}{agg:Bool}{zero:aVs}{b o:Nat}{k:IntKind}{m:Int}(hu:P.underlying t=some (.array n e))(hE:TyI P e agg zero by_)
  (hx:ev s x=.pointer (some ⟨b,o,none⟩)) (hi:ev s i=.int k m) (h1:0<=m) (h2:m<n) (hk:K (.pointer (some ⟨b,o+m.toNat*zero.length,none⟩)) false h):StillVC pr P (.indexAddr t x i) ty s h K:=by
 refine .pure' _ false (λw=>?_) hk;have he:P.elem t=e:=by simp[Program.elem,hu]
 have hn:P.arrayLen t=n:=by simp[Program.arrayLen,hu]
 have hu':P.underlying t=some (.array (P.arrayLen t) (P.elem t)):=by rw[he,hn];exact hu
 simp[execOp,hi,hx,run_indexAt_array w t _ _ _ hu',h1,h2,he,hn,hE.sizeOf,Addr.add_lit]
theorem StillVC.sliceFB {t e:TypeId}{by_:Nat}{x l:Operand}{agg:Bool}{z:Value}{b n c:Nat}{k:IntKind}{i:Int}(hS:dN P t e)(hE:TyI P e agg [z] by_)(hx:ev s x=.slice (some ⟨b,0,none⟩) n c)
  (hl:ev s l=.int k i) (h0:0<=i) (h1:i<=n) (h2:i<c) (hk:K (.slice (some ⟨b,i.toNat,none⟩) (n - i.toNat) (c - i.toNat)) false h):StillVC pr P (.slice t x (some l) none none) ty s h K:=by
 have he:P.elem t=e:=by unfold dN at hS;simp[Program.elem,hS]
 have hS':P.underlying t=some (.slice (P.elem t)):=by rw[he];exact hS
 have hne:¬ c=i.toNat:=by omega
 have e1:sliced (some ⟨b,0,none⟩) i.toNat n c 1=.slice (some ⟨b,i.toNat,none⟩) (n - i.toNat) (c - i.toNat):=by
  simp[sliced,hne,Addr.add_lit]
 rw[← e1]at hk
 refine .pure' _ false (λw=>?_) hk
 simp[execOp,hx,hl,run_sliceAt_slice w t _ _ _ _ hS',run_slice_l w t _ n c hS' k i h0 h1,he,hE.sizeOf]
theorem RunVC.copyB {t u e:TypeId}{x y:Operand}{z:Value}{by_ b off n c:Nat}{cs ys:aVs}{t':TypeId}(o:Own h0 L h)(k:Nat)(hk:L[k]?=some (box b cs t'))(hS:dN P t e)(hE:TyI P e false [z] by_)
  (hx:ev s x=.slice (some ⟨b,off,none⟩) n c) (hA:Arr h (ev s y) ys) (hpos:0<ys.length) (hn:ys.length<=n) (hl:off+ys.length<=cs.length) (h1:∀ u∈ys,u.oneCell'=true)
  (hK:∀ h',pK L k (box b (cs.take off++ys++cs.drop (off+ys.length)) t') λL'=>Own h0 L' h'->K (.int .i64 ys.length) false h'):RunVC P (.call ⟨.builtin .copy,⟨[x,y]⟩,⟨[t,u]⟩⟩) ty s h K Q :=
 .of λw hw=>by
  subst hw
  obtain⟨i,z',hi,hs,hz',hzc,hby⟩:=hE.info
  have hb:=o.boxBlk k hk
  obtain⟨a,cap,hv,hcap,r⟩:=hA
  rcases r with rfl|⟨g,og,rfl,hc⟩
  ·simp at hpos
  have hr:=run_copy_row (P:=P) w t u ty e b off n c ⟨g,og,none⟩ ys.length cap cs.toArray t' ys hS (by simp[hi];simpa using hs) hb (show ys.length=Nat.min ys.length n from(Nat.min_eq_left hn).symm)
   (λj v hj=>by
    rw[Addr.add_lit,hH]
    obtain⟨hj',_⟩:=aDZ.1 hj
    rw[hc j hj'];exact hj) (by simpa using hl) h1
  refine⟨.int .i64 ys.length,false,w.setRow b (cs.take off++ys++cs.drop (off+ys.length)).toArray,?_,?_,?_⟩
  ·simp only[execOp,resolve,Sem.run_bind,Sem.run_pure,Result.andThen_ok]
   simp[invoke,builtin,hx,hv,hr,goInt]
  ·exact⟨rfl,rfl,rfl,by simp[World.setRow]⟩
  ·have:=hK (w.setRow b (cs.take off++ys++cs.drop (off+ys.length)).toArray).heap
   rw[tA]at this
   refine this (o.set hk (by simp[World.setRow]) (λx _ hx=>?_) ?_ (λx hx=>.inl hx) (λx hx=>?_))
   ·have hne:¬ b=x:=λe=>hx e.symm
    simp[World.setRow,Array.getElem?_modify,hne]
   ·exact setRow_heap w b cs.toArray _ t' (0,0) hb
   ·have:=o.hi _ (aDY hk) x hx
    simpa[World.setRow] using this
theorem RunVC.storeAll {t:TypeId}{a x:Operand}{zero vs:aVs}{by_:Nat}{agg:Bool}{b:Nat}{cs:aVs}{t':TypeId}(o:Own h0 L h)(k:Nat)(hk:L[k]?=some (box b cs t'))(hT:TyI P t agg zero by_)
  (ha:ev s a=.pointer (some ⟨b,0,none⟩)) (hx:ev s x=.agg ⟨vs⟩) (hv:vs.length=zero.length) (hc:cs.length=zero.length) (h1:vs.all (λu=>u.oneCell')=true)
  (hK:∀ h',pK L k (box b vs t') λL'=>Own h0 L' h'->K undef false h'):RunVC P (.store t a x) ty s h K Q:=by
 refine StillVC.aDF o k hk hT ha zO ?_
 rw[oY,hx,oK]
 refine⟨⟨hv,h1⟩,λh'=>?_⟩
 rw[xL]
 have e:lset cs 0 (Value.agg ⟨vs⟩).cells.toList=vs:=by
  show lset cs 0 vs=vs
  rw[zZ vs cs 0 zO]
  simp
  omega
 rw[e]
 exact hK h'
theorem RunVC.invokeR {x:Operand}{name:String}{args:List Operand}{tys:Array TypeId}{g:FuncId}{full:aVs}{recv:Value}{Post:Value->Heap->Prop}(hx:ev s x=recv)
  (hm:∀ w:World,(callMethod recv name (args.map (ev s)).toArray).run P w=.ok (.enter g full.toArray) w) (sp:bG P g full h Post) (hk:∀ v h',Post v h'->K v false h') :
  RunVC P (.call ⟨.invoke x name,⟨args⟩,tys⟩) ty s h K Q where
 run w hw ds dst pos after guard next Q' hn hq:=by
  have hrun:(execOp (ev s) ⟨none,.call ⟨.invoke x name,⟨args⟩,tys⟩,ty, "",#[],none⟩).run P w=.ok (.enter g full.toArray) w:=by
   have:=hm w
   have e:List.take args.length (List.map (ev s) args)=List.map (ev s) args:=aEa zS
   simpa[execOp,resolve,invoke,hx,e] using this
  simp only[Oper.wp,fV,eU,hrun,Oper.upon]
  refine(sp.2 w hw).mono λe w' ⟨hs,hR⟩=>?_
  cases e with
  | returned v=>exact hn v false w' hs (hk v _ hR)
  | panicked c=>exact hR.elim
  | outgrown=>exact hR.elim
theorem StillVC.strLss {t t':TypeId}{x y:Operand}{a b:aBs}(hx:ev s x=sv a)(hy:ev s y=sv b)(hk:K (.bool (Op.bytesLess a b)) false h):StillVC pr P (.binOp .lss t x y t') ty s h K :=
 .pure' _ false (λw=>by simp[execOp,hx,hy,eqGuard_at_string,binOp,Op.stringOp]) hk
theorem StillVC.strGtr {t t':TypeId}{x y:Operand}{a b:aBs}(hx:ev s x=sv a)(hy:ev s y=sv b)(hk:K (.bool (!(Op.bytesLess a b||a == b))) false h):StillVC pr P (.binOp .gtr t x y t') ty s h K :=
 .pure' _ false (λw=>by simp[execOp,hx,hy,eqGuard_at_string,binOp,Op.stringOp]) hk
end
theorem Own.of_ext {h h':Heap}(e:Ext h h'):Own h [] h':=OwnR.own ⟨e,by simp,by simp,by simp,.nil⟩
theorem Own.thenE {B:Base}{L:List Item}{h h':Heap}(o':Own h [] h')(o:Own B L h):Own B L h':=o.ext' o'
theorem Own.rowIs {B:Base}{L:List Item}{h:Heap}(o:Own B L h)(k:Nat) {v:Value}{e sz n:Nat}{xs:aVs}(hk:L[k]?=some (row v e sz n xs)):∃ a c,v=.slice a n c:=by
 obtain⟨_,r⟩:uE h e sz v n xs:=o.sat _ (aDY hk)
 rcases r with ⟨rfl,rfl⟩|⟨g,cap,cur,rfl,_⟩
 ·exact⟨_,_,rfl⟩
 ·exact⟨_,_,rfl⟩
section
variable {B : Base} {L : List Item} {h h' : Heap}
theorem Own.satK (o:Own B L h)(k:Nat) {x:Item}(hk:L[k]?=some x):x.sat h:=o.sat _ (aDY hk)
def Reads (I:Item)(sz:Nat)(v:Value)(n:Nat)(xs:aVs):Prop:=∀ h:Heap,I.sat h->aY sz h v n xs
theorem Own.reads (o:Own B L h)(k:Nat) {I:Item}{sz n:Nat}{v:Value}{xs:aVs}(r:Reads I sz v n xs)(hk:L[k]?=some I):aY sz h v n xs:=r h (o.satK k hk)
theorem StillVC.sliceTok {pr:Bool}{P:Program}{ty:TypeId}{s:aVs}{K:KK}{t e:TypeId}{by_ n:Nat}{x l:Operand}{agg:Bool}{zero xs:aVs}{k:IntKind}{i:Int}{I:Item}(hS:dN P t e)(hE:TyI P e agg zero by_)(hR:Reads I zero.length (ev s x) n xs)(hI:I.sat h)
  (hl:ev s l=.int k i) (h0:0<=i) (h1:i<=n) (hk:∀ v,Reads I zero.length v (n - i.toNat) (xs.drop (i.toNat*zero.length))->K v false h):StillVC pr P (.slice t x (some l) none none) ty s h K:=by
 obtain⟨hxl,a,cap,hv,hcl,_⟩:=hR h hI
 have he:P.elem t=e:=by unfold dN at hS;simp[Program.elem,hS]
 have hS':P.underlying t=some (.slice (P.elem t)):=by rw[he];exact hS
 refine .pure' (sliced a i.toNat n cap zero.length) false (λw=>?_) (hk _ λh' hI'=>?_)
 ·simp[execOp,hv,hl,run_sliceAt_slice w t _ _ _ _ hS',run_slice_l w t a n cap hS' k i h0 h1,he,hE.sizeOf]
 ·obtain⟨_,a',cap',hv',_,r⟩:=hR h' hI'
  rw[hv]at hv'
  injection hv' with ea _ ec
  subst ea ec;have hlen:(xs.drop (i.toNat*zero.length)).length=(n - i.toNat)*zero.length:=by rw[List.length_drop,hxl,Nat.sub_mul]
  refine⟨hlen,if cap=i.toNat then a else a.map (·.add (i.toNat*zero.length)),cap - i.toNat,rfl,by omega,?_⟩
  by_cases hz:n<=i.toNat
  ·left;omega
  ·rcases r with rfl|⟨b,o,rfl,hc⟩
   ·omega
   ·refine .inr ⟨b,o+i.toNat*zero.length,by rw[if_neg zO];simp[Addr.add_lit],λj hj=>?_⟩
    rw[hlen]at hj
    rw[Nat.add_assoc,hc (i.toNat*zero.length+j) (by rw[hxl];rw[Nat.sub_mul]at hj;omega),aEM]
theorem Reads.isS {I:Item}{sz n:Nat}{v:Value}{xs:aVs}(r:Reads I sz v n xs)(hI:I.sat h):∃ a c,v=.slice a n c:=by
 obtain⟨_,a,c,hv,_⟩:=r h hI
 exact⟨a,c,hv⟩
def iV:Item:=⟨λ_=>False,λ_=>True,λ_ _ _ _=>trivial⟩
def fE (x y:Item):Item where
 fp b:=x.fp b∨y.fp b
 sat h:=x.sat h/\y.sat h
 loc h h' e:=λk=>⟨x.loc h h' (λb hb=>e b (.inl hb)) k.1,y.loc h h' (λb hb=>e b (.inr hb)) k.2⟩
theorem Own.emptyI' (o:Own B L h):Own B (iV::L) h where
 ext:=OwnR.ext o
 sat x hx:=by
  rcases aEd.1 hx with rfl|hx
  ·trivial
  ·exact OwnR.sat o x hx
 lo x hx b hb:=by
  rcases aEd.1 hx with rfl|hx
  ·exact hb.elim
  ·exact OwnR.lo o x hx b hb
 hi x hx b hb:=by
  rcases aEd.1 hx with rfl|hx
  ·exact hb.elim
  ·exact OwnR.hi o x hx b hb
 dis:=List.pairwise_cons.2 ⟨λ_ _ _ hb=>hb.elim,OwnR.dis o⟩
theorem Own.join {x y:Item}(o:Own B (x::y::L) h):Own B (fE x y::L) h where
 ext:=OwnR.ext o
 sat z hz:=by
  rcases aEd.1 hz with rfl|hz
  ·exact⟨OwnR.sat o x zS,OwnR.sat o y zS⟩
  ·exact OwnR.sat o z (by simp at hz ⊢;exact .inr (.inr hz))
 lo z hz b hb:=by
  rcases aEd.1 hz with rfl|hz
  ·rcases hb with hb|hb
   ·exact OwnR.lo o x zS b hb
   ·exact OwnR.lo o y zS b hb
  ·exact OwnR.lo o z (by simp at hz ⊢;exact .inr (.inr hz)) b hb
 hi z hz b hb:=by
  rcases aEd.1 hz with rfl|hz
  ·rcases hb with hb|hb
   ·exact OwnR.hi o x zS b hb
   ·exact OwnR.hi o y zS b hb
  ·exact OwnR.hi o z (by simp at hz ⊢;exact .inr (.inr hz)) b hb
 dis:=by
  have hd:=OwnR.dis o
  simp only[lcA,List.pairwise_cons]at hd
  obtain⟨h1,h2,h3⟩:=hd
  refine List.pairwise_cons.2 ⟨λz hz b hb=>?_,h3⟩
  rcases hb with hb|hb
  ·exact h1 z (List.mem_cons_of_mem _ hz) b hb
  ·exact h2 z hz b hb
theorem eG {v:Value}{e:TypeId}{sz n:Nat}{xs:aVs}:Reads (row v e sz n xs) sz v n xs:=λ_ r=>uE.arrN r
theorem xY {b n c sz:Nat}{cs:aVs}{t:TypeId}(hn:cs.length=n*sz)(hc:n<=c):Reads (box b cs t) sz (.slice (some ⟨b,0,none⟩) n c) n cs:=λh r=>by
 refine⟨hn,_,c,rfl,hc,.inr ⟨b,0,rfl,λi hi=>?_⟩⟩
 have hb:h[b]?=some (.cells cs.toArray t (0,0)):=r
 simp[bI,hb]
theorem aT {I:Item}{sz:Nat}:Reads I sz (.slice none 0 0) 0 []:=λh _=>aY.nil sz h
theorem Reads.inl {I J:Item}{sz n:Nat}{v:Value}{xs:aVs}(r:Reads I sz v n xs):Reads (fE I J) sz v n xs:=λh s=>r h s.1
theorem Reads.inr {I J:Item}{sz n:Nat}{v:Value}{xs:aVs}(r:Reads J sz v n xs):Reads (fE I J) sz v n xs:=λh s=>r h s.2
end
section
variable {P : Program} {ty : TypeId} {s : aVs} {h0 : Base} {h : Heap} {L : List Item} {K : KK} {Q : QQ} {pr : Bool}
theorem StillVC.eqP {t t':TypeId}{x y:Operand}{a:Option Addr}(hp:P.underlying t=some (.pointer (P.pointee t)))(hx:ev s x=.pointer a)(hy:ev s y=.pointer none)(hk:K (.bool a.isNone) false h):StillVC pr P (.binOp .eql t x y t') ty s h K :=
 .pure' _ false (λw=>by simp[execOp,hx,hy,eqGuard_at_pointer,run_eql_pointer_nil w t a hp]) hk
theorem RunVC.eqP {t t':TypeId}{x y:Operand}{a:Option Addr}(hp:P.underlying t=some (.pointer (P.pointee t)))(hx:ev s x=.pointer a)(hy:ev s y=.pointer none)(hk:K (.bool a.isNone) false h):RunVC P (.binOp .eql t x y t') ty s h K Q:=(StillVC.eqP hp hx hy hk).run
end
end Go.Proofs.YtohlogbnpfofpaaGreatDoor
namespace Go.Proofs.YtohlogbnpfofpaaGreatDoor
open Go StillVC
set_option maxRecDepth 100000
theorem u8_5:U8I Tryz.prog 5:=by unfold U8I;kernel_rfl
theorem aB7:Tryz.prog.underlying 20=some (.interface (Tryz.prog.methodsAt 20)):=by kernel_rfl
theorem mD:StructT Tryz.prog 24 [(0,1)] [false] [.slice none 0 0]:=.mk' (by kernel_rfl) uD
theorem aE:StructT Tryz.prog 42 [(0,1),(1,1),(2,1),(3,1),(4,1),(5,1),(6,1),(7,1),(8,1)] [false,false,false,false,false,false,false,false,false] [.int .i64 0,sv [],.slice none 0 0,.slice none 0 0,.slice none 0 0,sv [],sv [],.int .i64 0,.int .i64 0]:=.mk' (by kernel_rfl) aQ
theorem aA:StructT Tryz.prog 44 [(0,1),(1,1),(2,1),(3,1),(4,1),(5,1),(6,1),(7,1),(8,1),(9,1),(10,1),(11,1),(12,1),(13,1),(14,1),(15,1),(16,9)] [false,false,false,false,false,false,false,false,false,false,false,false,false,false,false,false,true] [.int .i64 0,sv [],.int .i64 0,sv [],sv [],.slice none 0 0,.slice none 0 0,.int .i64 0,.int .i64 0,.int .i64 0,.slice none 0 0,sv [],sv [],.slice none 0 0,.slice none 0 0,.slice none 0 0,.int .i64 0,sv [],.slice none 0 0,.slice none 0 0,.slice none 0 0,sv [],sv [],.int .i64 0,.int .i64 0]:=.mk' (by kernel_rfl) bU
theorem wT:StructT Tryz.prog 54 [(0,1),(1,1)] [false,false] [.pointer none,.slice none 0 0]:=.mk' (by kernel_rfl) ty54
theorem aAq:StructT Tryz.prog 56 [(0,2),(2,1)] [true,false] [.pointer none,.slice none 0 0,.int .i64 0]:=.mk' (by kernel_rfl) ty56
theorem cC:StructT Tryz.prog 58 [(0,3)] [true] [.pointer none,.slice none 0 0,.int .i64 0]:=.mk' (by kernel_rfl) ty58
theorem st68:StructT Tryz.prog 68 [(0,1),(1,1)] [false,false] [.int .i64 0,.int .i64 0]:=.mk' (by kernel_rfl) ty68
theorem con68:lH Tryz.prog 68=true:=by kernel_rfl
theorem gV:StructT Tryz.prog 72 [(0,1),(1,1)] [false,false] [.slice none 0 0,.int .i64 0]:=.mk' (by kernel_rfl) ty72
theorem arr80:ArrT Tryz.prog 80 79 11 (.nilFunc) 8:=⟨Tryz.underlying80,ty79⟩
theorem nW:xE Tryz.prog 93 [(0,2),(1,2),(2,3)]=true:=by kernel_rfl
theorem bP:StructT Tryz.prog 93 [(0,1),(1,1),(2,1)] [false,false,false] [.int .i64 0,.int .i64 0,sv []]:=.mk' (by kernel_rfl) cG
theorem wS:StructT Tryz.prog 95 [(0,1),(1,3)] [false,true] [sv [],.int .i64 0,.int .i64 0,sv []]:=.mk' (by kernel_rfl) oN
theorem pl98:xE Tryz.prog 98 [(0,3),(1,3)]=true:=by kernel_rfl
theorem aAp:StructT Tryz.prog 98 [(0,1),(1,1)] [false,false] [sv [],sv []]:=.mk' (by kernel_rfl) kT
theorem st102:StructT Tryz.prog 102 [(0,1),(1,1)] [false,false] [.int .i64 0,.int .i64 0]:=.mk' (by kernel_rfl) ty102
theorem con102:lH Tryz.prog 102=true:=by kernel_rfl
theorem dY:StructT Tryz.prog 106 [(0,1),(1,1)] [false,false] [sv [],.int .i64 0]:=.mk' (by kernel_rfl) ty106
theorem arr108:ArrT Tryz.prog 108 107 4 (.nilFunc) 8:=⟨Tryz.underlying108,ty107⟩
theorem st110:StructT Tryz.prog 110 [(0,4)] [true] [.nilFunc,.nilFunc,.nilFunc,.nilFunc]:=.mk' (by kernel_rfl) ty110
theorem fU:StructT Tryz.prog 112 [(0,1),(1,1),(2,1),(3,1)] [false,false,false,false] [.int .i64 0,sv [],.int .i64 0,.int .i64 0]:=.mk' (by kernel_rfl) bR
theorem arr115:ArrT Tryz.prog 115 9 10 (sv []) 16:=⟨Tryz.underlying115,aC⟩
theorem iG:StructT Tryz.prog 132 [(0,1),(1,1),(2,3)] [false,false,true] [sv [],.int .i64 0,.int .i64 0,.int .i64 0,sv []]:=.mk' (by kernel_rfl) eV
theorem iK:StructT Tryz.prog 134 [(0,1),(1,1)] [false,false] [.int .i64 0,.int .i64 0]:=.mk' (by kernel_rfl) ty134
theorem bO:StructT Tryz.prog 136 [(0,1),(1,1),(2,1),(3,2),(5,1),(6,1)] [false,false,false,true,false,false] [sv [],.int .i64 0,.int .i64 0,.int .i64 0,.int .i64 0,.int .i64 0,.int .i64 0]:=.mk' (by kernel_rfl) cT
theorem cY:StructT Tryz.prog 140 [(0,1),(1,1),(2,1),(3,3)] [false,false,false,true] [sv [],sv [],.bool false,.int .i64 0,.int .i64 0,sv []]:=.mk' (by kernel_rfl) lE
theorem fG:StructT Tryz.prog 142 [(0,6),(6,1),(7,6),(13,1)] [true,false,true,false] [sv [],sv [],.bool false,.int .i64 0,.int .i64 0,sv [],.int .i64 0,sv [],sv [],.bool false,.int .i64 0,.int .i64 0,sv [],.int .i64 0]:=.mk' (by kernel_rfl) eB
theorem cX:StructT Tryz.prog 188 [(0,1),(1,1),(2,1)] [false,false,false] [sv [],.bool false,.nilFunc]:=.mk' (by kernel_rfl) aX
theorem sE:StructT Tryz.prog 194 [(0,1),(1,1)] [false,false] [sv [],.int .i64 0]:=.mk' (by kernel_rfl) rQ
theorem st210:StructT Tryz.prog 210 [(0,0),(0,1)] [true,false] [.int .u32 0]:=.mk' (by kernel_rfl) ty210
theorem st212:StructT Tryz.prog 212 [(0,1),(1,1)] [false,false] [.int .i32 0,.int .u32 0]:=.mk' (by kernel_rfl) ty212
theorem st214:StructT Tryz.prog 214 [(0,0),(0,2)] [true,true] [.int .i32 0,.int .u32 0]:=.mk' (by kernel_rfl) ty214
theorem st216:StructT Tryz.prog 216 [(0,0),(0,1),(1,2)] [true,true,true] [.int .u32 0,.int .i32 0,.int .u32 0]:=.mk' (by kernel_rfl) ty216
theorem aBU:StructT Tryz.prog 220 [(0,3),(3,1),(4,1)] [true,false,false] [.int .u32 0,.int .i32 0,.int .u32 0,.nilIface,.slice none 0 0]:=.mk' (by kernel_rfl) ty220
end Go.Proofs.YtohlogbnpfofpaaGreatDoor
namespace Go.Proofs.YtohlogbnpfofpaaGreatDoor
open Go
def aC8 (Q:QQ)(ops:Array Oper):Prop:=∀(i:Nat)(o:Oper)(d:Tmp),ops[i]?=some o->o.dst=some d->∀ c s v h,Q (.panic c) (s.set d v) h->Q (.panic c) s h
def dstsIn (PD:List Nat)(ops:Array Oper):Bool:=ops.toList.all λo=>match o.dst with|some d=>mem PD d|none=>true
theorem aC8.of {Q:QQ}{ops:Array Oper}(PD:List Nat)(hd:dstsIn PD ops=true)(hp:∀ d,mem PD d=true->∀ c s v h,Q (.panic c) (s.set d v) h->Q (.panic c) s h):aC8 Q ops:=by
 intro i o d hi ho c s v h hq;have hm:o∈ops.toList:=by
  have:ops.toList[i]?=some o:=by simpa using hi
  exact aDY this
 have:=aD4.1 hd o hm
 rw[ho]at this
 exact hp d this c s v h hq
theorem aCS {Q:QQ}{ops:Array Oper}{w0:World}{ds:List Deferred}{i:Nat}{o:Oper}(hp:aC8 Q ops)(hi:ops[i]?=some o)(v:Value):∀ c a w,lift w0 ds Q (.panic c) (Act.put a o.dst v) w->lift w0 ds Q (.panic c) a w:=by
 rintro c a w ⟨s,ha,hs,hq⟩;cases hd:o.dst with
 | none=>rw[hd]at ha;exact⟨s,ha,hs,hq⟩
 | some d =>
  rw[hd]at ha
  have hds:a.defers=ds:=by
   have:(a.put (some d) v).defers=ds:=by rw[ha];rfl
   exact this
  obtain⟨tm,df⟩:=a
  simp only at hds;subst hds;have e:s=tm.toList.set d v:=by
   have:=congrArg Act.tmps ha
   simp[Act.put,act]at this
   have:=congrArg Array.toList this
   simpa using this.symm
  subst e
  exact⟨tm.toList,by simp[act],hs,hp i o d hi hd c _ v _ hq⟩
theorem pH {l:aVs}{d n:Nat}{v:Value}(h:d≠n):sget (l.set d v) n=sget l n:=by
 rw[← dS,← dS,aEi,aEi,aEJ h]
section
variable {P : Program} {ops : Array Oper} {Q : QQ} {w0 : World} {ds : List Deferred} {st0 stR tails : List Nat} {E : Heap -> Heap -> Prop} {A : Addr -> Prop}
theorem step_skipP {listed:Array Bool}{i n:Nat}{o:Oper}{s:aVs}{w:World}(hE0:∀ h,E h h)(hp:aC8 Q ops)(hsel:Region.noSelect ops=true)
  (hi:ops[i]?=some o) (hw:Region.wanted o (yielded ops (act s ds).tmps)=false) (hcl:Closed ops listed)
  (hok:(bif mem st0 i||mem stR i then(Region.ready .any ops listed).contains i&&Region.free .any ops listed i else(Region.ready .any ops listed) == [i])=true)
  (ih:jU E P ops (lift w0 ds Q) (λj=>!mem tails j) n (listed.setIfInBounds i true) ((act s ds).put o.dst undef) w) :
  jU E P ops (lift w0 ds Q) (λj=>!mem tails j) (n+1) listed (act s ds) w:=by
 cases hc:(mem st0 i||mem stR i) with
 | true =>
  rw[hc]at hok
  simp only[cond_true,aD0]at hok
  exact mH hi (Region.noSelect_spec hsel) (aCS hp hi _) hE0 zS (.inl rfl) n listed _ w hcl (Region.free_spec hi hok.2) (by simpa using hok.1) (.inr ⟨hw,rfl⟩) zS ih
 | false =>
  rw[hc]at hok
  simp only[cond_false,beq_iff_eq]at hok
  refine⟨λh=>(by rw[h]at hok;cases hok),λj hj=>?_⟩
  rw[hok]at hj
  simp only[aD5]at hj;subst hj
  unfold wpOp
  simp only[hi,hw,aD9,if_false]
  exact⟨λ_=>hE0 _,ih⟩
theorem step_runP {listed:Array Bool}{i n:Nat}{dst:Option Tmp}{op:Op}{ty:TypeId}{pos:String}{after:Array Edge}{guard:Option (Nat×Bool)}{D:List Nat}{s:aVs}{w:World}{K:KK}
  (hE0:∀ h,E h h) (hEA:∀ h h' a v,E h h'->A a->bI h a=some v->bI h' a=some v) (hp:aC8 Q ops) (hsel:Region.noSelect ops=true) (htails:jV ops stR tails=true)
  (hi:ops[i]?=some ⟨dst,op,ty,pos,after,guard⟩) (hw:Region.wanted ⟨dst,op,ty,pos,after,guard⟩ (yielded ops (act s ds).tmps)=true) (hcl:Closed ops listed) (hs:Same w0 w)
  (hok:(bif mem st0 i||mem stR i then(Region.ready .any ops listed).contains i&&Region.free .any ops listed i else(Region.ready .any ops listed) == [i])=true)
  (hv:pY E A P st0 stR tails i op ty D s w.heap K Q)
  (ih:∀ v l w',Same w0 w'->K v l w'.heap->jU E P ops (lift w0 ds Q) (λj=>!mem tails j) n (listed.setIfInBounds i true) ((act s ds).put dst v) w') :
  jU E P ops (lift w0 ds Q) (λj=>!mem tails j) (n+1) listed (act s ds) w:=by
 have still:(mem st0 i||mem stR i)=true->(mem stR i=false->vopS true P op ty D s w.heap K)->(mem stR i=true->StillVCA A P op ty s w.heap K)->jU E P ops (lift w0 ds Q) (λj=>!mem tails j) (n+1) listed (act s ds) w:=by
  intro hc hv0 hvR
  rw[hc]at hok
  simp only[cond_true,aD0]at hok
  cases hm:mem stR i with
  | false =>
   obtain⟨v,l,reads,hre,hr,hrun,hk⟩:=(oM (hv0 hm)).ex
   have:=hre rfl
   subst this;exact mH (oi:=⟨dst,op,ty,pos,after,guard⟩) (v:=v) (reads:=[]) hi (Region.noSelect_spec hsel) (aCS hp hi _) hE0 zS (.inl rfl) n listed _ w hcl (Region.free_spec hi hok.2) (by simpa using hok.1) (.inl ⟨hw,λw hw'=>by rw[fV,eU];exact hrun w hw'⟩) (λr hm=>hr r hm) (ih v l w hs hk)
  | true =>
   obtain⟨v,l,reads,hr,hA,hrun,hk⟩:=(hvR hm).ex
   refine mH (oi:=⟨dst,op,ty,pos,after,guard⟩) (v:=v) (reads:=reads) hi (Region.noSelect_spec hsel) (aCS hp hi _) hE0 (λh h' he r hr' hc=>hEA h h' r.1 r.2 he (hA r hr') hc) ?_ n listed _ w hcl (Region.free_spec hi hok.2) (by simpa using hok.1) (.inl ⟨hw,λw hw'=>by rw[fV,eU];exact hrun w hw'⟩) (λr hm=>hr r hm) (ih v l w hs hk)
   right
   intro j hne hf;have hjt:j∈tails:=by rw[← mem_iff];simpa using hf
   have:=aD4.1 (aD4.1 htails j hjt) i ((mem_iff _ _).1 hm)
   simp only[aEB,beq_iff_eq]at this
   rcases this with h|h
   ·exact absurd h.symm hne
   ·simpa using h
 unfold pY at hv;cases h0:mem st0 i with
 | true =>
  rw[h0]at hv
  refine still (by simp[h0]) (λ_=>hv) (λ_=>?_)
  exact(oM hv).toA
 | false =>
  rw[h0]at hv
  simp only[cond_false]at hv
  cases hR:mem stR i with
  | true=>rw[hR]at hv;exact still (by simp[hR]) (λh=>by rw[hR]at h;cases h) (λ_=>yD hv)
  | false =>
   rw[hR]at hv
   simp only[cond_false]at hv
   rw[h0,hR]at hok
   simp only[Bool.or_false,cond_false,beq_iff_eq]at hok
   have fin:∀ K':KK,(∀ v l h',K' v l h'->(mem tails i=false->E w.heap h')/\K v l h')->vop P op ty D s w.heap K' Q->jU E P ops (lift w0 ds Q) (λj=>!mem tails j) (n+1) listed (act s ds) w:=by
    intro K' hK' hv'
    refine⟨λh=>(by rw[h]at hok;cases hok),λj hj=>?_⟩
    rw[hok]at hj
    simp only[aD5]at hj;subst hj
    unfold wpOp
    simp only[hi,hw,if_true]
    exact .inl ((nZ hv').run w rfl ds dst pos after guard _ _
     (λv l w' hw' hk=>⟨λhf=>(hK' v l _ hk).1 (by simpa using hf),ih v l w' (hs.trans hw') (hK' v l _ hk).2⟩)
     (λc w' hw' hq=>⟨s,rfl,hs.trans hw',hq⟩))
   cases ht:mem tails i with
   | true=>rw[ht]at hv;exact fin K (λv l h' hk=>⟨λh=>(by rw[ht]at h;cases h),hk⟩) hv
   | false=>rw[ht]at hv;exact fin _ (λv l h' hk=>⟨λ_=>hk.1,hk.2⟩) hv
theorem yB (hE0:∀ h,E h h)(hEA:∀ h h' a v,E h h'->A a->bI h a=some v->bI h' a=some v)(hp:aC8 Q ops)(hsel:Region.noSelect ops=true)(htails:jV ops stR tails=true) :
  ∀(ord:List Nat) (D:List Nat) (s:aVs) (w:World) (listed:Array Bool),Same w0 w->Closed ops listed->rT ops st0 stR ord listed=true->pF E A P ops.toList st0 stR tails ord D s w.heap Q ->
   jU E P ops (lift w0 ds Q) (λj=>!mem tails j) ord.length listed (act s ds) w
 | [],D,s,w,listed,hs,_,hok,hv=>⟨by simpa[rT] using hok,s,rfl,hs,hv⟩
 | i::rest,D,s,w,listed,hs,hcl,hok,hv=>by
  simp only[rT,aD0]at hok
  obtain⟨hok,hrest⟩:=hok
  have hready:i∈Region.ready .any ops listed:=by
   cases hc:(mem st0 i||mem stR i) with
   | true=>rw[hc]at hok;simp only[cond_true,aD0]at hok;simpa using hok.1
   | false=>rw[hc]at hok;simp only[cond_false,beq_iff_eq]at hok;rw[hok];simp
  have hcl':=hcl.set hready;have goOn:∀ D s (w:World),Same w0 w->pF E A P ops.toList st0 stR tails rest D s w.heap Q->jU E P ops (lift w0 ds Q) (λj=>!mem tails j) rest.length (listed.setIfInBounds i true) (act s ds) w :=
   λD s w hs hv=>yB hE0 hEA hp hsel htails rest D s w _ hs hcl' hrest hv
  simp only[aAh,lJ]at hv
  cases ho:sV ops.toList i with
  | none=>simp[ho]at hv
  | some o =>
   have hi:ops[i]?=some o:=by rw[← ho,← qZ];simp
   obtain⟨dst,op,ty,pos,after,guard⟩:=o
   have run:∀ D D' s,Region.wanted ⟨dst,op,ty,pos,after,guard⟩ (yielded ops (act s ds).tmps)=true ->
     pY E A P st0 stR tails i op ty D s w.heap (λv l h'=>eI s dst v λs'=>pF E A P ops.toList st0 stR tails rest (gU D' dst l) s' h' Q) Q ->
     jU E P ops (lift w0 ds Q) (λj=>!mem tails j) (rest.length+1) listed (act s ds) w:=λD D' s hw hv =>
    step_runP hE0 hEA hp hsel htails hi hw hcl hs hok hv λv l w' hs' hk=>by rw[iD];rw[gQ]at hk;exact goOn _ _ _ hs' hk
   have skip:∀ D s,Region.wanted ⟨dst,op,ty,pos,after,guard⟩ (yielded ops (act s ds).tmps)=false ->
     (eI s dst undef λs'=>pF E A P ops.toList st0 stR tails rest D s' w.heap Q) ->
     jU E P ops (lift w0 ds Q) (λj=>!mem tails j) (rest.length+1) listed (act s ds) w:=λD s hw hk =>
    step_skipP hE0 hp hsel hi hw hcl hok (by rw[iD];rw[gQ]at hk;exact goOn _ _ _ hs hk)
   cases guard with
   | none=>simp only[ho]at hv;exact run _ _ _ (by simp[Region.wanted]) hv
   | some gw =>
    obtain⟨j,want⟩:=gw
    simp only[ho]at hv
    cases hd:nG ops.toList j with
    | none=>simp[hd]at hv
    | some g =>
     simp only[hd]at hv
     cases hm:mem D g with
     | true =>
      simp only[hm]at hv
      split at hv
      ·rename_i hg
       have hy:=dZ (ds:=ds) hd hg;cases want with
       | true=>exact run _ _ _ (by simp[Region.wanted,hy]) hv
       | false=>exact skip _ _ (by simp[Region.wanted,hy]) hv
      ·rename_i hg
       have hy:=dZ (ds:=ds) hd hg;cases want with
       | false=>exact run _ _ _ (by simp[Region.wanted,hy]) hv
       | true=>exact skip _ _ (by simp[Region.wanted,hy]) hv
      ·rename_i h1 h2
       have hy:=eY (ds:=ds) (s:=s) hd (λt e=>match t,e with|true,e=>h1 e|false,e=>h2 e);exact skip _ _ (by simp[Region.wanted,hy]) hv
     | false =>
      simp only[hm]at hv
      split at hv
      ·rename_i t hg
       have hy:=dZ (ds:=ds) hd hg;cases t with
       | true =>
        have hv:=hv.y rfl
        rw[gA,hG s g _ hg]at hv
        cases want with
        | true=>exact run _ _ _ (by simp[Region.wanted,hy]) hv
        | false=>exact skip _ _ (by simp[Region.wanted,hy]) hv
       | false =>
        have hv:=hv.n rfl
        rw[gA,hG s g _ hg]at hv
        cases want with
        | false=>exact run _ _ _ (by simp[Region.wanted,hy]) hv
        | true=>exact skip _ _ (by simp[Region.wanted,hy]) hv
      ·rename_i h1
       have hy:=eY (ds:=ds) (s:=s) hd (λt e=>h1 t e);exact skip _ _ (by simp[Region.wanted,hy]) hv
theorem DrawVC.introP {id:Nat}{s:aVs}{h:Heap}(E:Heap->Heap->Prop)(A:Addr->Prop)(hE0:∀ h,E h h)(hEA:∀ h h' a v,E h h'->A a->bI h a=some v->bI h' a=some v)
  (st0 stR tails ord:List Nat) (hm:P.follows .mixedOrders=true) (hok:tL ops st0 stR tails ord=true) (hlen:ord.length=ops.size)
  (hp:aC8 Q ops) (hv:pF E A P ops.toList st0 stR tails ord [] s h Q):DrawVC P id ops s h Q where
 wp w0 w ds hw hs:=by
  subst hw
  simp only[tL,aD0]at hok
  refine wp_region_any hm (vH (E:=E) (fl:=λj=>!mem tails j) _ _ _ _ ?_);have hcl:Closed ops (Array.replicate ops.size false):=by
   intro j hj
   exfalso
   by_cases hlt:j<ops.size<;>simp[hlt]at hj
  have:=yB (P:=P) (w0:=w0) (ds:=ds) (E:=E) (A:=A) hE0 hEA hp hok.1.1 hok.1.2 ord [] s { w with drawn:=w.drawn+1 } _ (hs.trans ⟨rfl,rfl,rfl,by simp⟩) hcl hok.2 hv
  rw[hlen]at this
  exact this
theorem DrawVC.introBP {id:Nat}{s:aVs}{h:Heap}(b:Nat)
  (st0 stR tails ord:List Nat) (hm:P.follows .mixedOrders=true) (hok:tL ops st0 stR tails ord=true) (hlen:ord.length=ops.size)
  (hp:aC8 Q ops) (hv:pF (λh h'=>h'[b]?=h[b]?) (λa=>a.block=b) P ops.toList st0 stR tails ord [] s h Q):DrawVC P id ops s h Q :=
 DrawVC.introP (λh h'=>h'[b]?=h[b]?) (λa=>a.block=b) (λ_=>rfl) (λh h' a v he ha hc=>by subst ha;rw[iW he];exact hc) st0 stR tails ord hm hok hlen hp hv
end
def panQ (I:List PanicEntry->aVs->Heap->Prop)(Q:QQ):QQ:=λe s h =>
 match e with
 | .panic c=>I c s h
 | e=>Q e s h
theorem panQ_le {I:List PanicEntry->aVs->Heap->Prop}{Q:QQ}(hI:∀ c s h,I c s h->Q (.panic c) s h)(e:Exit)(s:aVs)(h:Heap)(hq:panQ I Q e s h):Q e s h:=by
 cases e<;>first|exact hI _ _ _ hq|exact hq
theorem DeferVC.closureP {P:Program}{fn:Func}{id g t:Nat}{rest:Code}{R:Ending->Heap->Prop}{s:aVs}{h:Heap}{caps:List Operand}{ty ty':TypeId}{pos pos':String}{after after':Array Edge}{tys:Array TypeId}(I:List PanicEntry->aVs->Heap->Prop)(ht:t<s.length)
  (hk:zT s caps λcap=>(∀ c s h,I c s h->LeaveVC P fn ⟨.fn (.func g) ⟨cap⟩,#[]⟩ (.panicking c) s h R)/\oP s t (.func (.func g) ⟨[]⟩ ⟨cap⟩) λs1=>vcode P rest (panQ I (ngQ (aAY P fn ⟨.fn (.func g) ⟨cap⟩,#[]⟩ R))) s1 h) :
  DeferVC P fn id #[⟨some t,.makeFunc (.func g) ⟨[]⟩ ⟨caps⟩,ty,pos,after,none⟩,⟨none,.defer ⟨.value (.tmp t),⟨[]⟩,tys⟩,ty',pos',after',none⟩] rest R s h:=by
 refine DeferVC.closure ht ?_
 simp only[pP,gA]at hk ⊢
 exact jL rest (panQ_le hk.1) _ _ hk.2
def mapI (r:Nat)(es:List MapEntry)(clock:Nat):Item where
 fp x:=x=r
 sat h:=h[r]?=some (.map es.toArray clock)
 loc _ _ e:=λk=>(e r rfl).trans k
section
variable {P : Program} {ty : TypeId} {s : aVs} {h0 : Base} {h : Heap} {L : List Item} {K : KK} {Q : QQ}
theorem RunVC.makeMap {t:TypeId}(o:Own h0 L h)(hk:∀ r h',pM L (mapI r [] 0) λL'=>Own h0 L' h'->K (.map (some r)) false h'):RunVC P (.makeMap t none) ty s h K Q :=
 .of λw hw=>by
  subst hw
  refine⟨.map (some w.heap.size),false,{ w with heap:=w.heap.push (.map #[] 0) },by simp[execOp,Instr.makeMap,newObj,Sem.run],⟨rfl,rfl,rfl,by simp⟩,?_⟩
  have:=hk w.heap.size (w.heap.push (.map #[] 0))
  rw[nF]at this
  refine this (o.callR ⟨⟨by simp,λb hb=>by rw[Array.getElem?_push,if_neg zO]⟩,?_,?_,?_,aEI _ _⟩)
  ·intro x hx;simp only[aD5]at hx;subst hx
   simp[mapI]
  ·intro x hx b hb;simp only[aD5]at hx;subst hx;cases hb;exact aD6 _
  ·intro x hx b hb;simp only[aD5]at hx;subst hx;cases hb;simp
theorem getMap {w:World}{r:Nat}{es:Array MapEntry}{clock:Nat}(hb:w.heap[r]?=some (.map es clock)):(getObj r).run P w=.ok (.map es clock) w:=by simp[getObj,Sem.run,hb]
theorem setMap {w:World}{r:Nat}{es:Array MapEntry}{clock:Nat}(o:Obj)(hb:w.heap[r]?=some (.map es clock)):(setObj r o).run P w=.ok () { w with heap:=w.heap.setIfInBounds r o }:=by simp[setObj,Sem.run,hb]
theorem vO {kt:TypeId}{ik:IntKind}{n:Int}{b:Bool}(hkt:P.underlying kt=some (.int ik))(w:World):∀ k,k≠0->(Instr.checkKey b k kt (.int ik n)).run P w=.ok () w
 | 0,h=>absurd rfl h
 | k+1,_=>by simp[Instr.checkKey,run_underlying hkt]
theorem yK {kt:TypeId}{ik:IntKind}{n:Int}{es:List MapEntry}{r:Option (Nat×Value)}(hkt:P.underlying kt=some (.int ik))(hf:Instr.findNow (.int ik) (.int ik n) es 0=some r)(w:World):(Instr.findKey kt (.int ik n) es).run P w=.ok r w:=by
 simp[Instr.findKey,run_underlying hkt,hf]
theorem RunVC.insert {t kt et:TypeId}{m k x:Operand}{ik:IntKind}{n:Int}{r:Nat}{es:List MapEntry}{c:Nat}(o:Own h0 L h)(i:Nat)(hi:L[i]?=some (mapI r es c))(hu:P.underlying t=some (.map kt et))(hkt:P.underlying kt=some (.int ik))
  (hm:ev s m=.map (some r)) (hn:ev s k=.int ik n) (hf:Instr.findNow (.int ik) (.int ik n) es 0=some none)
  (hK:∀ h',pK L i (mapI r (es++[⟨.int ik n,ev s x,c⟩]) (c+1)) λL'=>Own h0 L' h'->K undef false h'):RunVC P (.insert t m k x) ty s h K Q :=
 .of_skip λw hw=>by
  subst hw;have hb:w.heap[r]?=some (.map es.toArray c):=o.sat _ (aDY hi)
  refine⟨{ w with heap:=w.heap.setIfInBounds r (.map (es.toArray.push ⟨.int ik n,ev s x,c⟩) (c+1)) },?_,⟨rfl,rfl,rfl,by simp⟩,?_⟩
  ·simp[execOp,hm,hn,Instr.mapUpdate,run_underlying hu,getMap hb,vO hkt w 10000 zD,yK hkt hf,setMap _ hb]
  ·have:=hK (w.heap.setIfInBounds r (.map (es.toArray.push ⟨.int ik n,ev s x,c⟩) (c+1)))
   rw[tA]at this
   have hlt:r<w.heap.size:=(Array.getElem?_eq_some_iff.1 hb).1;refine this (o.set hi zS (λb _ hnb=>?_) ?_ (λb hb=>.inl hb) (λb hb=>?_))
   ·rw[Array.getElem?_setIfInBounds_ne (λe=>hnb e.symm)]
   ·simp[mapI,hlt]
   ·cases hb;simpa using hlt
theorem RunVC.lookup {t kt et:TypeId}{m k:Operand}{ik:IntKind}{n:Int}{r i:Nat}{es:List MapEntry}{c:Nat}{v:Value}(o:Own h0 L h)(j:Nat)(hj:L[j]?=some (mapI r es c))(hu:P.underlying t=some (.map kt et))(hkt:P.underlying kt=some (.int ik))
  (hm:ev s m=.map (some r)) (hn:ev s k=.int ik n) (hf:Instr.findNow (.int ik) (.int ik n) es 0=some (some (i,v))) (hK:K v false h):RunVC P (.lookup t m k false) ty s h K Q :=
 .of λw hw=>by
  subst hw;have hb:w.heap[r]?=some (.map es.toArray c):=o.sat _ (aDY hj)
  exact⟨v,false,w,by simp[execOp,hm,hn,Instr.lookup,run_underlying hu,getMap hb,vO hkt w 10000 zD,yK hkt hf],.refl w,hK⟩
theorem StillVC.sliceG {pr:Bool}{t e:TypeId}{n by_ b:Nat}{x:Operand}{agg:Bool}{zero:aVs}(hu:P.underlying t=some (.array n e))(hE:TyI P e agg zero by_)(hx:ev s x=.pointer (some ⟨b,0,none⟩))
  (hk:K (.slice (some ⟨b,0,none⟩) n n) false h):StillVC pr P (.slice t x none none none) ty s h K:=by
 refine .pure' _ false (λw=>?_) hk;have he:P.elem t=e:=by simp[Program.elem,hu]
 have hn:P.arrayLen t=n:=by simp[Program.arrayLen,hu]
 have hu':P.underlying t=some (.array (P.arrayLen t) (P.elem t)):=by rw[he,hn];exact hu
 simp[execOp,hx,run_sliceAt_array_all w t _ hu',he,hn,hE.sizeOf,slicedAt,Addr.add_lit]
theorem RunVC.sliceG {t e:TypeId}{n by_ b:Nat}{x:Operand}{agg:Bool}{zero:aVs}(hu:P.underlying t=some (.array n e))(hE:TyI P e agg zero by_)(hx:ev s x=.pointer (some ⟨b,0,none⟩))
  (hk:K (.slice (some ⟨b,0,none⟩) n n) false h):RunVC P (.slice t x none none none) ty s h K Q:=(StillVC.sliceG hu hE hx hk).run
theorem aAB {fn:Func}{a b c ta tb tc:Nat}{za zb zc:aVs}{ya yb yc pa pb pc:Nat}{u v x:Value}(hf:fn.results=#[.cell a ta,.cell b tb,.cell c tc])
  (hA:TyI P ta true za ya) (hz:za.length=1) (hB:TyI P tb false zb yb) (hC:TyI P tc false zc yc) (ea:sget s a=.pointer (some ⟨pa,0,none⟩)) (eb:sget s b=.pointer (some ⟨pb,0,none⟩)) (ec:sget s c=.pointer (some ⟨pc,0,none⟩))
  (ca:bI h ⟨pa,0,none⟩=some u) (cb:bI h ⟨pb,0,none⟩=some v) (cc:bI h ⟨pc,0,none⟩=some x) (w:World) (hw:w.heap=h) :
  (results fn s.toArray).run P w=.ok (.tuple ⟨[.agg ⟨[u]⟩,v,x]⟩) w:=by
 have e1:s.toArray.getD a undef=.pointer (some ⟨pa,0,none⟩):=by rw[← ea,← dS];simp
 have e2:s.toArray.getD b undef=.pointer (some ⟨pb,0,none⟩):=by rw[← eb,← dS];simp
 have e3:s.toArray.getD c undef=.pointer (some ⟨pc,0,none⟩):=by rw[← ec,← dS];simp
 simp only[Array.getD_eq_getD_getElem?,aEl]at e1 e2 e3
 subst hw;have hc:=jG (P:=P) (w:=w) (a:=⟨pa,0,none⟩) [u] 0 #[] (λj hj=>by
  obtain rfl:j=0:=by simpa using hj
  rw[Addr.add_lit,hH];exact ca)
 rw[← hH]at cb cc
 simp only[aD1,aD2,aEg]at hc
 simp[results,hf,e1,e2,e3,asAddr,loadVar,hA.isAgg,hB.isAgg,hC.isAgg,hA.sizeOf,hz,loadCells,hc,run_load,cb,cc]
theorem RetVC.cell3A {fn:Func}{R:Value->Heap->Prop}{a b c ta tb tc:Nat}{za zb zc:aVs}{ya yb yc pa pb pc:Nat}{u v x:Value}(hf:fn.results=#[.cell a ta,.cell b tb,.cell c tc])
  (hA:TyI P ta true za ya) (hz:za.length=1) (hB:TyI P tb false zb yb) (hC:TyI P tc false zc yc) (ea:sget s a=.pointer (some ⟨pa,0,none⟩)) (eb:sget s b=.pointer (some ⟨pb,0,none⟩)) (ec:sget s c=.pointer (some ⟨pc,0,none⟩))
  (ca:bI h ⟨pa,0,none⟩=some u) (cb:bI h ⟨pb,0,none⟩=some v) (cc:bI h ⟨pc,0,none⟩=some x) (hr:R (.tuple ⟨[.agg ⟨[u]⟩,v,x]⟩) h):RetVC P fn s h R where
 ex:=⟨_,λw hw=>aAB hf hA hz hB hC ea eb ec ca cb cc w hw,hr⟩
theorem Spec.enterD2 {P:Program}{f:FuncId}{fn:Func}{r0 r1 c1 rest:Code}{id n:Nat}{ops:Array Oper}{args:aVs}{h:Heap}{R:Ending->Heap->Prop}
  (hf:P.funcs[f]?=some fn) (hb:fn.body=some (.seq r0 (.seq r1 (.seq c1 (.seq (.region id ops false) rest))))) (hn:fn.ntmps=n) (hname:(fn.name == "runtime.NumGoroutine")=false)
  (hv:nL args n λs=>vcode P r0 (zY (λs h=>vcode P r1 (zY (λs h=>vcode P c1 (zY (λs h=>DeferVC P fn id ops rest R s h) (zV P fn R)) s h) (zV P fn R)) s h) (zV P fn R)) s h):Spec P f args h R:=by
 refine⟨⟨fn,hf,by simp[hb],hname⟩,λw hw=>?_⟩
 subst hw
 rw[oJ]at hv
 have he:act (args++List.replicate (n - args.length) undef) []={ tmps:=args.toArray++Array.replicate (fn.ntmps - args.toArray.size) undef,defers:=[] }:=by
  simp[act,hn]
 have leave0:∀ e s' w',Same w w'->zV P fn R e s' w'.heap->bodyPostD P fn (λe w'=>Same w w'/\R e w'.heap) e (act s' []) w':=by
  intro e s' w' hs hq;cases e with
  | normal=>obtain⟨v,hr,hR⟩:=hq.ex;exact⟨v,hr w' rfl,hs,hR⟩
  | ret=>obtain⟨v,hr,hR⟩:=hq.ex;exact⟨v,hr w' rfl,hs,hR⟩
  | panic c=>exact⟨hs,hq⟩
  | _=>exact hq.elim
 refine calls_of_wp_defers hf hb ?_
 rw[← he]
 refine wp_seq (wp_mono (eH (w0:=w) (ds:=[]) r0 _ _ w (.refl w) hv) ?_);rintro e a w1 ⟨s1,rfl,hs1,hq⟩;cases e with
 | normal =>
  refine wp_seq (wp_mono (eH (w0:=w) (ds:=[]) r1 _ _ w1 hs1 hq) ?_);rintro e a w2 ⟨s2,rfl,hs2,hq⟩;cases e with
  | normal =>
   refine wp_seq (wp_mono (eH (w0:=w) (ds:=[]) c1 _ _ w2 hs2 hq) ?_);rintro e a w2 ⟨s2,rfl,hs2,hq⟩;cases e with
   | normal =>
    obtain⟨s3,d,hd,hr⟩:=hq.ex
    refine wp_seq (hd w2 _ (wp_mono (eH (w0:=w) (ds:=[d]) rest _ _ w2 hs2 (jL rest (Q':=aAY P fn d R) (λe s h hq=>?_) _ _ hr)) ?_))
    ·cases e<;>first|exact hq|exact hq.elim
    ·rintro e a w3 ⟨s4,rfl,hs3,hq⟩
     cases e with
     | normal=>exact hq.lv w w3 hs3 rfl
     | ret=>exact hq.lv w w3 hs3 rfl
     | panic c=>exact hq.lv w w3 hs3 rfl
     | _=>exact hq.elim
   | ret=>exact leave0 .ret s2 w2 hs2 hq
   | panic c=>exact leave0 (.panic c) s2 w2 hs2 hq
   | _=>exact hq.elim
  | ret=>exact leave0 .ret s2 w2 hs2 hq
  | panic c=>exact leave0 (.panic c) s2 w2 hs2 hq
  | _=>exact hq.elim
 | ret=>exact leave0 .ret s1 w1 hs1 hq
 | panic c=>exact leave0 (.panic c) s1 w1 hs1 hq
 | _=>exact hq.elim
end
inductive OT where
 | done
 | one (i:Nat) (t:OT)
 | fork (i j:Nat) (t u:OT)
def OT.size:OT->Nat
 | .done=>0
 | .one _ t=>t.size+1
 | .fork _ _ t _=>t.size+1
def unguarded (ops:Array Oper)(i:Nat):Bool:=match ops[i]? with
 | some o=>o.guard.isNone
 | none=>false
def sT (ops:Array Oper)(st0 stR:List Nat):OT->Array Bool->Bool
 | .done,listed=>(Region.ready .any ops listed).isEmpty
 | .one i t,listed =>
  ((bif mem st0 i||mem stR i then(Region.ready .any ops listed).contains i&&Region.free .any ops listed i else(Region.ready .any ops listed) == [i]) &&
   sT ops st0 stR t (listed.setIfInBounds i true))
 | .fork i j t u,listed =>
  ((Region.ready .any ops listed) == [i,j]&&!(mem st0 i||mem stR i)&&!(mem st0 j||mem stR j)&&unguarded ops i&&unguarded ops j&&t.size == u.size) &&
   (sT ops st0 stR t (listed.setIfInBounds i true)&&sT ops st0 stR u (listed.setIfInBounds j true))
def vordT (E:Heap->Heap->Prop)(A:Addr->Prop)(P:Program)(L:List Oper)(st0 stR tails:List Nat)(t:OT):List Nat->aVs->Heap->QQ->Prop :=
 OT.rec (motive:=λ_=>List Nat->aVs->Heap->QQ->Prop) (λ_ s h Q=>Q .normal s h) (λi _ ih=>lJ E A P L st0 stR tails i ih)
  (λi j _ _ iht ihu D s h Q=>lJ E A P L st0 stR tails i iht D s h Q/\lJ E A P L st0 stR tails j ihu D s h Q) t
section
variable {E : Heap -> Heap -> Prop} {A : Addr -> Prop} {P : Program} {ops : Array Oper} {Q : QQ} {w0 : World} {ds : List Deferred} {st0 stR tails : List Nat}
theorem one_sound (hE0:∀ h,E h h)(hEA:∀ h h' a v,E h h'->A a->bI h a=some v->bI h' a=some v)(hp:∀ c s s' h,Q (.panic c) s h->Q (.panic c) s' h)(hsel:Region.noSelect ops=true)(htails:jV ops stR tails=true)
  {i n:Nat} {next:List Nat->aVs->Heap->QQ->Prop} {D:List Nat} {s:aVs} {w:World} {listed:Array Bool} (hs:Same w0 w) (hcl:Closed ops listed)
  (hok:(bif mem st0 i||mem stR i then(Region.ready .any ops listed).contains i&&Region.free .any ops listed i else(Region.ready .any ops listed) == [i])=true)
  (goOn:∀ D s (w:World),Same w0 w->next D s w.heap Q->jU E P ops (lift w0 ds Q) (λj=>!mem tails j) n (listed.setIfInBounds i true) (act s ds) w)
  (hv:lJ E A P ops.toList st0 stR tails i next D s w.heap Q):jU E P ops (lift w0 ds Q) (λj=>!mem tails j) (n+1) listed (act s ds) w:=by
 simp only[lJ]at hv
 cases ho:sV ops.toList i with
 | none=>simp[ho]at hv
 | some o =>
  have hi:ops[i]?=some o:=by rw[← ho,← qZ];simp
  obtain⟨dst,op,ty,pos,after,guard⟩:=o
  have run:∀ D D' s,Region.wanted ⟨dst,op,ty,pos,after,guard⟩ (yielded ops (act s ds).tmps)=true ->
    pY E A P st0 stR tails i op ty D s w.heap (λv l h'=>eI s dst v λs'=>next (gU D' dst l) s' h' Q) Q ->
    jU E P ops (lift w0 ds Q) (λj=>!mem tails j) (n+1) listed (act s ds) w:=λD D' s hw hv =>
   aBT hE0 hEA hp hsel htails hi hw hcl hs hok hv λv l w' hs' hk=>by rw[iD];rw[gQ]at hk;exact goOn _ _ _ hs' hk
  have skip:∀ D s,Region.wanted ⟨dst,op,ty,pos,after,guard⟩ (yielded ops (act s ds).tmps)=false ->
    (eI s dst undef λs'=>next D s' w.heap Q) ->
    jU E P ops (lift w0 ds Q) (λj=>!mem tails j) (n+1) listed (act s ds) w:=λD s hw hk =>
   aAo hE0 hp hsel hi hw hcl hok (by rw[iD];rw[gQ]at hk;exact goOn _ _ _ hs hk)
  cases guard with
  | none=>simp only[ho]at hv;exact run _ _ _ (by simp[Region.wanted]) hv
  | some gw =>
   obtain⟨j,want⟩:=gw
   simp only[ho]at hv
   cases hd:nG ops.toList j with
   | none=>simp[hd]at hv
   | some g =>
    simp only[hd]at hv
    cases hm:mem D g with
    | true =>
     simp only[hm]at hv
     split at hv
     ·rename_i hg
      have hy:=dZ (ds:=ds) hd hg;cases want with
      | true=>exact run _ _ _ (by simp[Region.wanted,hy]) hv
      | false=>exact skip _ _ (by simp[Region.wanted,hy]) hv
     ·rename_i hg
      have hy:=dZ (ds:=ds) hd hg;cases want with
      | false=>exact run _ _ _ (by simp[Region.wanted,hy]) hv
      | true=>exact skip _ _ (by simp[Region.wanted,hy]) hv
     ·rename_i h1 h2
      have hy:=eY (ds:=ds) (s:=s) hd (λt e=>match t,e with|true,e=>h1 e|false,e=>h2 e);exact skip _ _ (by simp[Region.wanted,hy]) hv
    | false =>
     simp only[hm]at hv
     split at hv
     ·rename_i t hg
      have hy:=dZ (ds:=ds) hd hg;cases t with
      | true =>
       have hv:=hv.y rfl
       rw[gA,hG s g _ hg]at hv
       cases want with
       | true=>exact run _ _ _ (by simp[Region.wanted,hy]) hv
       | false=>exact skip _ _ (by simp[Region.wanted,hy]) hv
      | false =>
       have hv:=hv.n rfl
       rw[gA,hG s g _ hg]at hv
       cases want with
       | false=>exact run _ _ _ (by simp[Region.wanted,hy]) hv
       | true=>exact skip _ _ (by simp[Region.wanted,hy]) hv
     ·rename_i h1
      have hy:=eY (ds:=ds) (s:=s) hd (λt e=>h1 t e);exact skip _ _ (by simp[Region.wanted,hy]) hv
theorem aCm {i n:Nat}{next:List Nat->aVs->Heap->QQ->Prop}{D:List Nat}{s:aVs}{w:World}{listed:Array Bool}(hs:Same w0 w)(hun:unguarded ops i=true)(hst:(mem st0 i||mem stR i)=false)
  (goOn:∀ D s (w:World),Same w0 w->next D s w.heap Q->jU E P ops (lift w0 ds Q) (λj=>!mem tails j) n (listed.setIfInBounds i true) (act s ds) w)
  (hv:lJ E A P ops.toList st0 stR tails i next D s w.heap Q) :
  wpOp P ops (lift w0 ds Q) i (λa' w'=>((!mem tails i)=true->E w.heap w'.heap)/\jU E P ops (lift w0 ds Q) (λj=>!mem tails j) n (listed.setIfInBounds i true) a' w') (act s ds) w:=by
 simp only[lJ]at hv
 cases ho:sV ops.toList i with
 | none=>simp[ho]at hv
 | some o =>
  have hi:ops[i]?=some o:=by rw[← ho,← qZ];simp
  obtain⟨dst,op,ty,pos,after,guard⟩:=o
  cases guard with
  | some g=>simp[unguarded,hi]at hun
  | none =>
   simp only[ho]at hv
   unfold pY at hv
   simp only[Bool.or_eq_false_iff]at hst
   rw[hst.1,hst.2]at hv
   simp only[cond_false]at hv
   have fin:∀ K':KK,(∀ v l h',K' v l h'->(mem tails i=false->E w.heap h')/\eI s dst v λs'=>next (gU D dst l) s' h' Q)->vop P op ty D s w.heap K' Q ->
     wpOp P ops (lift w0 ds Q) i (λa' w'=>((!mem tails i)=true->E w.heap w'.heap)/\jU E P ops (lift w0 ds Q) (λj=>!mem tails j) n (listed.setIfInBounds i true) a' w') (act s ds) w:=by
    intro K' hK' hv';unfold wpOp
    simp only[hi,Region.wanted,if_true]
    exact .inl ((nZ hv').run w rfl ds dst pos after none _ _
     (λv l w' hw' hk=>⟨λhf=>(hK' v l _ hk).1 (by simpa using hf),by
      have h2:=(hK' v l _ hk).2
      rw[gQ]at h2
      rw[iD]
      exact goOn _ _ _ (hs.trans hw') h2⟩)
     (λc w' hw' hq=>⟨s,rfl,hs.trans hw',hq⟩))
   cases ht:mem tails i with
   | true=>rw[ht]at hv;exact ht▸fin _ (λv l h' hk=>⟨λh=>(by rw[ht]at h;cases h),hk⟩) hv
   | false=>rw[ht]at hv;exact ht▸fin _ (λv l h' hk=>⟨λ_=>hk.1,hk.2⟩) hv
theorem vordT_sound (hE0:∀ h,E h h)(hEA:∀ h h' a v,E h h'->A a->bI h a=some v->bI h' a=some v)(hp:∀ c s s' h,Q (.panic c) s h->Q (.panic c) s' h)(hsel:Region.noSelect ops=true)(htails:jV ops stR tails=true) :
  ∀(t:OT) (D:List Nat) (s:aVs) (w:World) (listed:Array Bool),Same w0 w->Closed ops listed->sT ops st0 stR t listed=true->vordT E A P ops.toList st0 stR tails t D s w.heap Q ->
   jU E P ops (lift w0 ds Q) (λj=>!mem tails j) t.size listed (act s ds) w:=by
 intro t
 induction t with
 | done=>intro D s w listed hs _ hok hv;exact⟨by simpa[sT] using hok,s,rfl,hs,hv⟩
 | one i t ih =>
  intro D s w listed hs hcl hok hv
  simp only[sT,aD0]at hok
  obtain⟨hok,hrest⟩:=hok
  have hready:i∈Region.ready .any ops listed:=by
   cases hc:(mem st0 i||mem stR i) with
   | true=>rw[hc]at hok;simp only[cond_true,aD0]at hok;simpa using hok.1
   | false=>rw[hc]at hok;simp only[cond_false,beq_iff_eq]at hok;rw[hok];simp
  exact one_sound hE0 hEA hp hsel htails hs hcl hok (λD s w hs hv=>ih D s w _ hs (hcl.set hready) hrest hv) hv
 | fork i j t u iht ihu =>
  intro D s w listed hs hcl hok hv
  simp only[sT,aD0,beq_iff_eq,aEn]at hok
  obtain⟨⟨⟨⟨⟨⟨hr,hi⟩,hj⟩,ui⟩,uj⟩,hsz⟩,h1,h2⟩:=hok
  have ri:i∈Region.ready .any ops listed:=by rw[hr];simp
  have rj:j∈Region.ready .any ops listed:=by rw[hr];simp
  refine⟨λh=>(by rw[h]at hr;cases hr),λk hk=>?_⟩
  rw[hr]at hk
  rcases aEd.1 hk with rfl|hk
  ·exact aCm hs ui hi (λD s w hs hv=>iht D s w _ hs (hcl.set ri) h1 hv) hv.1
  ·simp only[aD5]at hk
   subst hk;exact aCm hs uj hj (λD s w hs hv=>by have:=ihu D s w _ hs (hcl.set rj) h2 hv;rw[← hsz]at this;exact this) hv.2
theorem StillVC.aDs {id:Nat}{s:aVs}{h:Heap}(b:Nat)
  (st0 stR tails:List Nat) (t:OT) (hm:P.follows .mixedOrders=true) (hok:(Region.noSelect ops&&jV ops stR tails&&sT ops st0 stR t (Array.replicate ops.size false))=true) (hlen:t.size=ops.size)
  (hp:∀ c s s' h,Q (.panic c) s h->Q (.panic c) s' h) (hv:vordT (λh h'=>h'[b]?=h[b]?) (λa=>a.block=b) P ops.toList st0 stR tails t [] s h Q):DrawVC P id ops s h Q where
 wp w0 w ds hw hs:=by
  subst hw
  simp only[aD0]at hok
  refine wp_region_any hm (vH (E:=λh h'=>h'[b]?=h[b]?) (fl:=λj=>!mem tails j) _ _ _ _ ?_);have hcl:Closed ops (Array.replicate ops.size false):=by
   intro j hj
   exfalso
   by_cases hlt:j<ops.size<;>simp[hlt]at hj
  have:=vordT_sound (P:=P) (w0:=w0) (ds:=ds) (E:=λh h'=>h'[b]?=h[b]?) (A:=λa=>a.block=b) (λ_=>rfl) (λh h' a v he ha hc=>by subst ha;rw[iW he];exact hc) hp hok.1.1 hok.1.2 t [] s { w with drawn:=w.drawn+1 } _ (hs.trans ⟨rfl,rfl,rfl,by simp⟩) hcl hok.2 hv
  rw[hlen]at this
  exact this
theorem DrawVC.join {id:Nat}{N:aVs->Heap->Prop}{s:aVs}{h:Heap}(asg lv:List Nat)(I:aVs->Heap->Prop)
  (hab:DrawVC P id ops s h (zY (λs' h'=>mask asg 0 s'=mask asg 0 s/\oS s' lv λvs=>I vs h') Q))
  (hr:∀(vs:aVs) (junk:Nat->Value) (h':Heap),I vs h'->mN asg lv vs junk 0 s λs1=>N s1 h'):DrawVC P id ops s h (zY N Q) where
 wp w0 w ds hw hs:=by
  have key:∀ e s' h',zY (λs' h'=>mask asg 0 s'=mask asg 0 s/\oS s' lv λvs=>I vs h') Q e s' h'->zY N Q e s' h':=by
   refine sW (λs' h' ⟨hm,hI⟩=>?_) (λ_ _ _ x=>x)
   rw[tV]at hI
   have:=hr (lv.map (sget s')) (sget s') h' hI
   rwa [oG,kY asg lv s' s s' 0 zS hm]at this
  refine wp_mono (hab.wp w0 w ds hw hs) ?_;rintro e a w' ⟨s',rfl,hs',hq⟩
  exact⟨s',rfl,hs',key e s' _ hq⟩
end
def goF (P:Program)(rec_:TypeId->Option (Bool×List Nat)):List Field->Nat->Option (List Nat)
 | [],_=>some []
 | f::fs,o =>
  if f.name != "_"&&f.offset == o then
   match rec_ f.type with
   | none=>none
   | some (_,ks)=>if (P.info? f.type).map (·.size) == some ks.length then(goF P rec_ fs (o+ks.length)).map (ks++·) else none
  else none
def tM (P:Program):Nat->TypeId->Option (Bool×List Nat)
 | 0,_=>none
 | d+1,t=>match P.underlying t with
  | some .bool=>some (false,[1])
  | some (.int _)=>some (false,[2])
  | some .string=>some (false,[3])
  | some (.struct fs)=>if P.stoodInHeld t then none else(goF P (tM P d) fs.toList 0).map λks=>(true,ks)
  | _=>none
section
variable {P : Program}
theorem deepP_und {d:Nat}{t:TypeId}{b:Bool}{ks:List Nat}(h:tM P d t=some (b,ks)):∃ u,P.underlying t=some u/\mM u=b:=by
 cases d with
 | zero=>cases h
 | succ d =>
  unfold tM at h;split at h
  ·rename_i hu;cases h;exact⟨_,hu,rfl⟩
  ·rename_i hu;cases h;exact⟨_,hu,rfl⟩
  ·rename_i hu;cases h;exact⟨_,hu,rfl⟩
  ·rename_i hu
   split at h
   ·cases h
   ·obtain⟨ks',_,h2⟩:=aEo.1 h
    cases h2
    exact⟨_,hu,rfl⟩
  ·cases h
theorem deepP_one {d:Nat}{t:TypeId}{ks:List Nat}(h:tM P d t=some (false,ks)):ks.length=1:=by
 cases d with
 | zero=>cases h
 | succ d =>
  unfold tM at h;split at h
  ·cases h;rfl
  ·cases h;rfl
  ·cases h;rfl
  ·split at h
   ·cases h
   ·obtain⟨ks',_,h2⟩:=aEo.1 h
    cases h2
  ·cases h
variable {ty : TypeId} {s : aVs} {h : Heap} {K : KK} {Q : QQ}
end
def forK (Post:Nat->Value->Heap->Prop)(h:Heap)(l:List Nat):(aVs->Prop)->Prop :=
 List.rec (motive:=λ_=>(aVs->Prop)->Prop) (λk=>k []) (λi _ ih k=>∀ v,Post i v h->ih λvs=>k (v::vs)) l
def postA (Post:Nat->Value->Heap->Prop)(h:Heap):List Nat->aVs->Prop
 | [],[]=>True
 | i::is,v::vs=>Post i v h/\postA Post h is vs
 | _,_=>False
theorem uX {Post:Nat->Value->Heap->Prop}{h:Heap}:∀ {is:List Nat}{vs:aVs}{k:aVs->Prop},forK Post h is k->postA Post h is vs->k vs
 | [],[],_,hk,_=>hk
 | i::is,v::vs,k,hk,hp=>uX (is:=is) (vs:=vs) (k:=λvs=>k (v::vs)) (hk v hp.1) hp.2
 | [],_::_,_,_,hp=>hp.elim
 | _::_,[],_,_,hp=>hp.elim
def pS (L:List Oper)(i:Nat):Nat:=((sV L i).bind (·.dst)).getD 0
def aCN (L:List Oper)(len i:Nat):Bool :=
 match sV L i with
 | some ⟨some d,_,_,_,_,none⟩=>Nat.blt d len
 | _=>false
def aAN (ops:Array Oper)(len:Nat)(mid:List Nat):List Nat->List (List Nat×List Nat)->Bool
 | [],[]=>true
 | i::is,(d,l)::r=>aCN ops.toList len i&&d.all (λe=>(edges ops i).contains e&&mid.contains e)&&l == d.map (pS ops.toList)&&aAN ops len mid is r
 | _,_=>false
def jP:List Nat->Array Bool->Array Bool
 | [],l=>l
 | i::r,l=>jP r (l.setIfInBounds i true)
def preOk (ops:Array Oper)(st0 stR:List Nat):List Nat->Array Bool->Bool
 | [],_=>true
 | i::rest,listed=>(mem st0 i||mem stR i)&&(Region.ready .any ops listed).contains i&&Region.free .any ops listed i&&preOk ops st0 stR rest (listed.setIfInBounds i true)
def anyOk (ops:Array Oper)(len:Nat)(st0 stR tails pre mid suf dsts:List Nat)(plan:List (List Nat×List Nat)):Bool :=
 Region.noSelect ops&&jV ops stR tails&&preOk ops st0 stR pre (Array.replicate ops.size false)&&aAN ops len mid mid plan&&dst mid&&dst dsts&&(dsts == mid.map (pS ops.toList)) &&
 mid.all (λi=>!pre.contains i&&!suf.contains i&&Nat.blt i ops.size)&&suf.all (λj=>mid.all λi=>(clo ops ops.size (edges ops j)).contains i)&&(List.range ops.size).all (λj=>pre.contains j||mid.contains j||suf.contains j) &&
 (List.range ops.size).all (λj=>(edges ops j).all λe=>Nat.blt e j)&&rT ops st0 stR suf (jP mid (jP pre (Array.replicate ops.size false)))&&(pre.length+(mid.length+suf.length) == ops.size)
def vopAt (P:Program)(L:List Oper)(Post:Nat->Value->Heap->Prop)(Q:QQ)(i:Nat)(s:aVs)(h:Heap):Prop :=
 match sV L i with
 | some ⟨_,op,ty,_,_,_⟩=>vop P op ty [] s h (λv _ h'=>Ext h h'/\Post i v h') Q
 | none=>False
def aCy (f:Nat->List Nat->List Nat->Prop)(is:List Nat):List (List Nat×List Nat)->Prop :=
 List.rec (motive:=λ_=>List (List Nat×List Nat)->Prop) (λ_=>True) (λi _ ih plan=>match plan with
  | []=>True
  | (d,l)::r=>f i d l/\ih r) is
structure RestA (P:Program) (ops:Array Oper) (Q:QQ) (st0 stR tails mid suf dsts:List Nat) (plan:List (List Nat×List Nat)) (s:aVs) (h:Heap):Prop where
 ex:∃ Post:Nat->Value->Heap->Prop,(∀ i v h h',Post i v h->Ext h h'->Post i v h') /\
  aCy (λi d l=>∀(junk:Nat->Value) (h':Heap),Ext h h'->forK Post h' d λvs=>mN dsts l vs junk 0 s λs=>vopAt P ops.toList Post Q i s h') mid plan /\
  (∀(junk:Nat->Value) (h':Heap),Ext h h'->forK Post h' mid λvs=>mN dsts dsts vs junk 0 s λs=>vord P ops.toList st0 stR tails suf [] s h' Q)
def vordR (P:Program)(L:List Oper)(st0 stR tails:List Nat)(R:aVs->Heap->Prop)(l:List Nat):List Nat->aVs->Heap->QQ->Prop :=
 List.rec (motive:=λ_=>List Nat->aVs->Heap->QQ->Prop) (λ_ s h _=>R s h) (λi _ ih=>vostep P L st0 stR tails i ih) l
theorem aAn {f:Nat->List Nat->List Nat->Prop}{ops:Array Oper}{len:Nat}{mid:List Nat}:∀ {is:List Nat}{plan:List (List Nat×List Nat)}{i:Nat},aAN ops len mid is plan=true->aCy f is plan->i∈is ->
  ∃ d,aCN ops.toList len i=true/\(∀ e∈d,e∈edges ops i/\e∈mid)/\f i d (d.map (pS ops.toList))
 | [],_,_,_,_,h=>by simp at h
 | i::is,[],_,h,_,_=>by simp[aAN]at h
 | j::is,(d,l)::r,i,hok,hs,hi=>by
  simp only[aAN,aD0,beq_iff_eq]at hok
  obtain⟨⟨⟨h1,h2⟩,h3⟩,h4⟩:=hok
  rcases aEd.1 hi with rfl|hi
  ·refine⟨d,h1,λe he=>?_,h3▸hs.1⟩
   have:=aD4.1 h2 e he
   simp only[aD0,List.contains_iff_mem]at this
   exact this
  ·exact aAn h4 hs.2 hi
theorem mX:∀(l:List Nat)(a:Array Bool),(jP l a).size=a.size
 | [],_=>rfl
 | i::l,a=>by rw[jP,mX l];simp
theorem qU:∀(l:List Nat)(a:Array Bool)(j:Nat),j<a.size->((jP l a).getD j false=true↔j∈l∨a.getD j false=true)
 | [],_,_,_=>by simp[jP]
 | i::l,a,j,hj=>by
  rw[jP,qU l _ j (by simpa using hj),aEd]
  by_cases e:i=j
  ·subst e
   have:(a.setIfInBounds i true).getD i false=true:=by simp[hj]
   simp[this]
  ·rw[getD_set_ne false e]
   constructor
   ·rintro(h|h)
    ·exact .inl (.inr h)
    ·exact .inr h
   ·rintro((h|h)|h)
    ·exact absurd h.symm e
    ·exact .inl h
    ·exact .inr h
theorem mask_set {asg:List Nat}{d:Nat}{v:Value}(hd:mem asg d=true):∀(s:aVs)(k i:Nat),k+i=d->mask asg k (s.set i v)=mask asg k s
 | [],_,_,_=>rfl
 | _::s,k,0,e=>by
  obtain rfl:k=d:=e
  simp only[lsZ,mask,hd,cond_true]
 | _::s,k,i+1,e=>by
  simp only[lsS,mask]
  rw[mask_set hd s (k+1) i zO]
theorem zH {f:Nat->Nat}:∀ {l:List Nat},dst (l.map f)=true->∀ {i j:Nat},i∈l->j∈l->f i=f j->i=j
 | a::l,h,i,j,hi,hj,e=>by
  simp only[aEx,dst,aD0,aEn]at h
  have hno:∀ x∈l,f x≠f a:=λx hx hxa=>by
   have:=(nD (l.map f) (f a)).2 (aEL.2 ⟨x,hx,hxa⟩)
   rw[this]at h
   exact Bool.noConfusion h.1
  rcases aEd.1 hi with rfl|hi'
  ·rcases aEd.1 hj with rfl|hj'
   ·rfl
   ·exact absurd e.symm (hno j hj')
  ·rcases aEd.1 hj with rfl|hj'
   ·exact absurd e (hno i hi')
   ·exact zH h.2 hi' hj' e
section
variable {P : Program} {ops : Array Oper} {Q : QQ} {w0 : World} {ds : List Deferred}
structure InvA (ops:Array Oper) (Post:Nat->Value->Heap->Prop) (pre mid todo dsts:List Nat) (s0:aVs) (h0:Heap) (listed:Array Bool) (s:aVs) (h:Heap):Prop where
 ext:Ext h0 h
 len:s.length=s0.length
 msk:mask dsts 0 s=mask dsts 0 s0
 size:listed.size=ops.size
 get:∀ j,j<ops.size->(listed.getD j false=true↔j∈pre∨(j∈mid/\j∉todo))
 post:∀ j,j∈mid->j∉todo->Post j (sget s (pS ops.toList j)) h
theorem sget_set_eq {s:aVs}{d:Nat}{v:Value}(hd:d<s.length):sget (s.set d v) d=v:=by
 rw[← dS]
 simp[hd]
theorem aAM {Post:Nat->Value->Heap->Prop}{s:aVs}{h:Heap}{f:Nat->Nat}:∀ {l:List Nat},(∀ j∈l,Post j (sget s (f j)) h)->postA Post h l ((l.map f).map (sget s))
 | [],_=>trivial
 | i::l,hh=>⟨hh i zS,aAM λj hj=>hh j (by simp[hj])⟩
theorem dst_nodup {l:List Nat}(h:dst l=true):l.Nodup:=by
 induction l with
 | nil=>exact .nil
 | cons a l ih =>
  simp only[dst,aD0,aEn]at h
  refine List.nodup_cons.2 ⟨λhm=>?_,ih h.2⟩
  rw[(nD l a).2 hm]at h
  exact Bool.noConfusion h.1
theorem any_sound {st0 stR tails pre mid suf dsts:List Nat}{plan:List (List Nat×List Nat)}{s0:aVs}{h0:Heap}(hp:∀ c s s' h,Q (.panic c) s h->Q (.panic c) s' h)
  (hok:anyOk ops s0.length st0 stR tails pre mid suf dsts plan=true) {Post:Nat->Value->Heap->Prop} (hPE:∀ i v h h',Post i v h->Ext h h'->Post i v h')
  (hst:aCy (λi d l=>∀(junk:Nat->Value) (h':Heap),Ext h0 h'->forK Post h' d λvs=>mN dsts l vs junk 0 s0 λs=>vopAt P ops.toList Post Q i s h') mid plan)
  (hend:∀(junk:Nat->Value) (h':Heap),Ext h0 h'->forK Post h' mid λvs=>mN dsts dsts vs junk 0 s0 λs=>vord P ops.toList st0 stR tails suf [] s h' Q) :
  ∀(n:Nat) (todo:List Nat) (listed:Array Bool) (s:aVs) (w:World),todo.length=n->todo.Nodup->(∀ i∈todo,i∈mid)->Closed ops listed->Same w0 w->InvA ops Post pre mid todo dsts s0 h0 listed s w.heap ->
   wpE P ops (lift w0 ds Q) (λj=>!mem tails j) (n+suf.length) listed (act s ds) w:=by
 simp only[anyOk,aD0,beq_iff_eq]at hok
 obtain⟨⟨⟨⟨⟨⟨⟨⟨⟨⟨⟨⟨hsel,htails⟩,hpre⟩,hplan⟩,hmid⟩,hdst⟩,hdsts⟩,hapart⟩,hsuf⟩,hcover⟩,hedges⟩,hord⟩,hlen⟩:=hok
 have hap:∀ i∈mid,i∉pre/\i∉suf/\i<ops.size:=λi hi=>by
  have:=aD4.1 hapart i hi
  simpa[and_assoc] using this
 intro n
 induction n with
 | zero =>
  intro todo listed s w htl _ _ hcl hs hI;obtain rfl:=aD3.1 htl;have hlM:listed=jP mid (jP pre (Array.replicate ops.size false)):=by
   apply Array.ext
   ·rw[mX,mX,hI.size];simp
   ·intro j h1 h2
    have hj:j<ops.size:=by rw[← hI.size];exact h1
    have e1:=hI.get j hj;have e2:=qU mid (jP pre (Array.replicate ops.size false)) j (by rw[mX];simpa using hj);have e3:=qU pre (Array.replicate ops.size false) j (by simpa using hj);have e4:((Array.replicate ops.size false).getD j false=true)=False:=by simp[hj]
    rw[e4]at e3
    rw[e3]at e2
    have g1:listed.getD j false=listed[j]:=by simp[h1]
    have g2:(jP mid (jP pre (Array.replicate ops.size false))).getD j false=(jP mid (jP pre (Array.replicate ops.size false)))[j]:=by simp[h2]
    rw[g1]at e1
    rw[g2]at e2
    rw[aEe,e1,e2]
    simp
    exact Or.comm
  have h1:=uX (hend (sget s) w.heap hI.ext) (aAM (f:=pS ops.toList) (s:=s) (l:=mid) λj hj=>hI.post j hj zS)
  rw[oG,← hdsts,kY dsts dsts s s0 s 0 zS hI.msk]at h1
  rw[aEg]
  exact uM hp hsel htails suf [] s w listed hs hcl (by rw[hlM];exact hord) h1
 | succ n ih =>
  intro todo listed s w htl hnd htm hcl hs hI;have hne:Region.ready .any ops listed≠[]:=by
   intro hr;have key:∀ j,j<ops.size->listed.getD j false=true:=by
    intro j
    induction j using Nat.strongRecOn with
    | _ j ihj =>
     intro hj;cases hl:listed.getD j false with
     | true=>rfl
     | false =>
      exfalso
      have hjl:j<listed.size:=by rw[hI.size];exact hj
      have hmem:j∈Region.ready .any ops listed:=by
       refine mem_ready.2 ⟨?_,ops[j],by simp[hj],λe he hb=>?_⟩
       ·simp[hjl]at hl ⊢;exact hl
       ·have hE:e.on∈edges ops j:=by
         unfold edges
         rw[Array.getElem?_eq_getElem hj]
         exact aEL.2 ⟨e,List.mem_filter.2 ⟨Array.mem_toList_iff.2 he,hb⟩,rfl⟩
        have h5:=aD4.1 (aD4.1 hedges j (List.mem_range.2 hj)) e.on hE;have hlt:e.on<j:=by simpa using h5
        exact ihj e.on hlt zO
      rw[hr]at hmem
      cases hmem
   cases todo with
   | nil=>simp at htl
   | cons i r =>
    have hi:=htm i zS;have h6:=hap i hi
    rcases(hI.get i h6.2.2).1 (key i h6.2.2) with h7|h7
    ·exact h6.1 h7
    ·exact h7.2 zS
  rw[show n+1+suf.length=(n+suf.length)+1 by omega]
  refine⟨λhr=>absurd hr hne,λi hi=>?_⟩
  obtain⟨hun,o,ho,_⟩:=mem_ready.1 hi
  have hlt:i<ops.size:=(Array.getElem?_eq_some_iff.1 ho).1;have hil:i<listed.size:=by rw[hI.size];exact hlt
  have hun':¬ listed.getD i false=true:=by simp[hil]at hun ⊢;exact hun
  have hed:=pI hi;have hnp:i∉pre:=λhh=>hun' ((hI.get i hlt).2 (.inl hh));have him:i∈mid:=by
   have h8:=aD4.1 hcover i (List.mem_range.2 hlt)
   simp only[aEB,List.contains_iff_mem]at h8
   rcases h8 with (h8|h8)|h8
   ·exact absurd h8 hnp
   ·exact h8
   ·exfalso
    cases todo with
    | nil=>simp at htl
    | cons k r =>
     have hk:=htm k zS;have h9:=aD4.1 (aD4.1 hsuf i h8) k hk;have h10:=rI hcl ops.size (edges ops i) hed k (by simpa using h9);have h6:=hap k hk
     rcases(hI.get k h6.2.2).1 h10 with h7|h7
     ·exact h6.1 h7
     ·exact h7.2 zS
  have hit:i∈todo:=by
   rcases Classical.em (i∈todo) with h|h
   ·exact h
   ·exact absurd ((hI.get i hlt).2 (.inr ⟨him,h⟩)) hun'
  obtain⟨d,hplain,hd,hstep⟩:=aAn hplan hst him
  have hstep:=hstep (sget s) w.heap hI.ext;have h1:=uX hstep (aAM (f:=pS ops.toList) (s:=s) λj hj=>by
   have h2:=hd j hj;have h3:=hap j h2.2
   rcases(hI.get j h3.2.2).1 (hed j h2.1) with h4|h4
   ·exact absurd h4 h3.1
   ·exact hI.post j h2.2 h4.2)
  have ho2:sV ops.toList i=some o:=by rw[← qZ];simpa using ho
  unfold aCN at hplain;unfold vopAt at h1
  rw[ho2]at hplain
  obtain⟨dO,op,ty,pos,after,guard⟩:=o
  cases dO with
  | none=>simp at hplain
  | some d0 =>
  cases guard with
  | some g=>simp at hplain
  | none =>
  have hdl:d0<s0.length:=by simpa using hplain
  have hslot:pS ops.toList i=d0:=by unfold pS;rw[ho2];rfl
  rw[oG,kY dsts _ s s0 s 0 zS hI.msk,ho2]at h1
  have h1:vop P op ty [] s w.heap (λv _ h'=>Ext w.heap h'/\Post i v h') Q:=h1;have hdm:mem dsts d0=true:=by
   have:d0∈dsts:=by rw[hdsts];exact aEL.2 ⟨i,him,hslot⟩
   rw[mem_iff]
   exact this
  unfold wpOp
  simp only[ho,Region.wanted,if_true]
  refine .inl ((nZ h1).run w rfl ds (some d0) pos after none _ _ (λv l w' hw' hk=>⟨λ_=>hk.1,?_⟩) (λc w' hw' hq=>⟨s,rfl,hs.trans hw',hq⟩));have hput:(act s ds).put (some d0) v=act (s.set d0 v) ds:=iD s ds (some d0) v
  rw[hput]
  have hmem:∀ j,j∈todo.erase i↔j≠i/\j∈todo:=λj=>hnd.mem_erase_iff;refine ih (todo.erase i) (listed.setIfInBounds i true) (s.set d0 v) w' (by rw[List.length_erase_of_mem hit];omega) (hnd.erase i) (λj hj=>htm j ((hmem j).1 hj).2) (hcl.set hi) (hs.trans hw')
   ⟨hI.ext.trans hk.1,by simp[hI.len],?_,by simp[hI.size],λj hj=>?_,λj hj hjt=>?_⟩
  ·rw[mask_set hdm s 0 d0 zO]
   exact hI.msk
  ·by_cases hji:i=j
   ·subst hji
    have:(listed.setIfInBounds i true).getD i false=true:=by simp[hil]
    rw[this]
    simp only[true_iff]
    exact .inr ⟨him,λhh=>((hmem i).1 hh).1 rfl⟩
   ·rw[getD_set_ne false hji,hI.get j hj]
    refine or_congr Iff.rfl (and_congr Iff.rfl (not_congr ?_))
    rw[hmem]
    exact⟨λhh=>⟨λe=>hji e.symm,hh⟩,λhh=>hh.2⟩
  ·by_cases hji:j=i
   ·subst hji
    rw[hslot,sget_set_eq (by rw[hI.len];exact hdl)]
    exact hk.2
   ·have hjt':j∉todo:=λhh=>hjt ((hmem j).2 ⟨hji,hh⟩)
    have hne:d0≠pS ops.toList j:=λe=>hji (zH (f:=pS ops.toList) (l:=mid) (by rw[← hdsts];exact hdst) hj him (by rw[hslot];exact e.symm))
    rw[pH hne]
    exact hPE _ _ _ _ (hI.post j hj hjt') hk.1
theorem oneP_sound {st0 stR tails:List Nat}(hp:∀ c s s' h,Q (.panic c) s h->Q (.panic c) s' h)(hsel:Region.noSelect ops=true)(htails:jV ops stR tails=true)
  {i n:Nat} {next:List Nat->aVs->Heap->QQ->Prop} {D:List Nat} {s:aVs} {w:World} {listed:Array Bool} (hs:Same w0 w) (hcl:Closed ops listed)
  (hok:(bif mem st0 i||mem stR i then(Region.ready .any ops listed).contains i&&Region.free .any ops listed i else(Region.ready .any ops listed) == [i])=true)
  (goOn:∀ D s (w:World),Same w0 w->next D s w.heap Q->wpE P ops (lift w0 ds Q) (λj=>!mem tails j) n (listed.setIfInBounds i true) (act s ds) w)
  (hv:vostep P ops.toList st0 stR tails i next D s w.heap Q):wpE P ops (lift w0 ds Q) (λj=>!mem tails j) (n+1) listed (act s ds) w:=by
 simp only[vostep]at hv
 cases ho:sV ops.toList i with
 | none=>simp[ho]at hv
 | some o =>
  have hi:ops[i]?=some o:=by rw[← ho,← qZ];simp
  obtain⟨dst,op,ty,pos,after,guard⟩:=o
  have run:∀ D D' s,Region.wanted ⟨dst,op,ty,pos,after,guard⟩ (yielded ops (act s ds).tmps)=true ->
    vdop P st0 stR tails i op ty D s w.heap (λv l h'=>eI s dst v λs'=>next (gU D' dst l) s' h' Q) Q ->
    wpE P ops (lift w0 ds Q) (λj=>!mem tails j) (n+1) listed (act s ds) w:=λD D' s hw hv =>
   step_run hp hsel htails hi hw hcl hs hok hv λv l w' hs' hk=>by rw[iD];rw[gQ]at hk;exact goOn _ _ _ hs' hk
  have skip:∀ D s,Region.wanted ⟨dst,op,ty,pos,after,guard⟩ (yielded ops (act s ds).tmps)=false ->
    (eI s dst undef λs'=>next D s' w.heap Q) ->
    wpE P ops (lift w0 ds Q) (λj=>!mem tails j) (n+1) listed (act s ds) w:=λD s hw hk =>
   aBS hp hsel hi hw hcl hok (by rw[iD];rw[gQ]at hk;exact goOn _ _ _ hs hk)
  cases guard with
  | none=>simp only[ho]at hv;exact run _ _ _ (by simp[Region.wanted]) hv
  | some gw =>
   obtain⟨j,want⟩:=gw
   simp only[ho]at hv
   cases hd:nG ops.toList j with
   | none=>simp[hd]at hv
   | some g =>
    simp only[hd]at hv
    cases hm:mem D g with
    | true =>
     simp only[hm]at hv
     split at hv
     ·rename_i hg
      have hy:=dZ (ds:=ds) hd hg;cases want with
      | true=>exact run _ _ _ (by simp[Region.wanted,hy]) hv
      | false=>exact skip _ _ (by simp[Region.wanted,hy]) hv
     ·rename_i hg
      have hy:=dZ (ds:=ds) hd hg;cases want with
      | false=>exact run _ _ _ (by simp[Region.wanted,hy]) hv
      | true=>exact skip _ _ (by simp[Region.wanted,hy]) hv
     ·rename_i h1 h2
      have hy:=eY (ds:=ds) (s:=s) hd (λt e=>match t,e with|true,e=>h1 e|false,e=>h2 e);exact skip _ _ (by simp[Region.wanted,hy]) hv
    | false =>
     simp only[hm]at hv
     split at hv
     ·rename_i t hg
      have hy:=dZ (ds:=ds) hd hg;cases t with
      | true =>
       have hv:=hv.y rfl
       rw[gA,hG s g _ hg]at hv
       cases want with
       | true=>exact run _ _ _ (by simp[Region.wanted,hy]) hv
       | false=>exact skip _ _ (by simp[Region.wanted,hy]) hv
      | false =>
       have hv:=hv.n rfl
       rw[gA,hG s g _ hg]at hv
       cases want with
       | false=>exact run _ _ _ (by simp[Region.wanted,hy]) hv
       | true=>exact skip _ _ (by simp[Region.wanted,hy]) hv
     ·rename_i h1
      have hy:=eY (ds:=ds) (s:=s) hd (λt e=>h1 t e);exact skip _ _ (by simp[Region.wanted,hy]) hv
theorem yA {st0 stR tails:List Nat}{R:aVs->Heap->Prop}{m:Nat}{LE:Array Bool}(hp:∀ c s s' h,Q (.panic c) s h->Q (.panic c) s' h)(hsel:Region.noSelect ops=true)(htails:jV ops stR tails=true)
  (goal:∀(s:aVs) (w:World),Same w0 w->Closed ops LE->R s w.heap->wpE P ops (lift w0 ds Q) (λj=>!mem tails j) m LE (act s ds) w) :
  ∀(pre:List Nat) (D:List Nat) (s:aVs) (w:World) (listed:Array Bool),Same w0 w->Closed ops listed->preOk ops st0 stR pre listed=true->jP pre listed=LE->vordR P ops.toList st0 stR tails R pre D s w.heap Q ->
   wpE P ops (lift w0 ds Q) (λj=>!mem tails j) (pre.length+m) listed (act s ds) w
 | [],D,s,w,listed,hs,hcl,_,hl,hv=>by
  rw[aD2,aEg]
  obtain rfl:listed=LE:=hl;exact goal s w hs hcl hv
 | i::rest,D,s,w,listed,hs,hcl,hok,hl,hv=>by
  simp only[preOk,aD0]at hok
  obtain⟨⟨⟨h1,h2⟩,h3⟩,h4⟩:=hok
  have hready:i∈Region.ready .any ops listed:=by simpa using h2
  rw[aD1,show rest.length+1+m=(rest.length+m)+1 by omega]
  refine oneP_sound (next:=vordR P ops.toList st0 stR tails R rest) hp hsel htails hs hcl (by rw[aEB]at h1;rcases h1 with h1|h1<;>simp[h1,h3,hready]) (λD s w hs hv=>yA hp hsel htails goal rest D s w _ hs (hcl.set hready) h4 hl hv) hv
theorem StillVC.aDA {id:Nat}{s:aVs}{h:Heap}(st0 stR tails pre mid suf dsts:List Nat)(plan:List (List Nat×List Nat))(hm:P.follows .mixedOrders=true)
  (hok:anyOk ops s.length st0 stR tails pre mid suf dsts plan=true) (hp:∀ c s s' h,Q (.panic c) s h->Q (.panic c) s' h)
  (hv:vordR P ops.toList st0 stR tails (λs1 h1=>s1.length=s.length/\RestA P ops Q st0 stR tails mid suf dsts plan s1 h1) pre [] s h Q):DrawVC P id ops s h Q where
 wp w0 w ds hw hs:=by
  subst hw;have hok0:=hok
  simp only[anyOk,aD0,beq_iff_eq]at hok
  obtain⟨⟨⟨⟨⟨⟨⟨⟨⟨⟨⟨⟨hsel,htails⟩,hpre⟩,hplan⟩,hmid⟩,hdst⟩,hdsts⟩,hapart⟩,hsuf⟩,hcover⟩,hedges⟩,hord⟩,hlen⟩:=hok
  refine wp_region_any hm (aCv (fl:=λj=>!mem tails j) _ _ _ _ ?_);have hcl:Closed ops (Array.replicate ops.size false):=by
   intro j hj
   exfalso
   by_cases hlt:j<ops.size<;>simp[hlt]at hj
  rw[← hlen]
  refine yA (m:=mid.length+suf.length) (LE:=jP pre (Array.replicate ops.size false)) hp hsel htails ?_ pre [] s { w with drawn:=w.drawn+1 } _ (hs.trans ⟨rfl,rfl,rfl,by simp⟩) (by rw[hlen];exact hcl) (by rw[hlen];exact hpre) (by rw[hlen]) hv;rintro s1 w1 hs1 hcl1 ⟨hl1,⟨Post,hPE,hst,hend⟩⟩
  rw[← hl1]at hok0
  refine any_sound (Post:=Post) hp hok0 hPE hst hend mid.length mid _ s1 w1 rfl (dst_nodup hmid) (λi hi=>hi) hcl1 hs1 ⟨.refl _,rfl,rfl,by rw[mX];simp,λj hj=>?_,λj hj hjt=>absurd hj hjt⟩
  rw[qU pre _ j (by simpa using hj)]
  have e4:((Array.replicate ops.size false).getD j false=true)=False:=by simp[hj]
  rw[e4]
  constructor
  ·rintro(h|h)
   ·exact .inl h
   ·exact h.elim
  ·rintro(h|⟨h1,h2⟩)
   ·exact .inl h
   ·exact absurd h1 h2
end
section
variable {P : Program} {ty : TypeId} {s : aVs} {h : Heap} {K : KK} {Q : QQ} {h0 : Base} {L : List Item}
theorem StillVC.fB {t:TypeId}{x:Operand}{f:Nat}{places:List (Nat×Nat)}{aggs:List Bool}{zero:aVs}{off sz b o:Nat}(hT:StructT P t places aggs zero)(hk:K (.pointer (some ⟨b,o+off,none⟩)) false h)(hx:ev s x=.pointer (some ⟨b,o,none⟩):=by exact rfl)(hp:places[f]?=some (off,sz):=by exact rfl)(hz:Nat.beq sz 0=false:=by exact rfl):RunVC P (.fieldAddr t x f) ty s h K Q:=StillVC.run (StillVC.fA hT hx hp hz hk)
theorem StillVC.fC {pr:Bool}{t:TypeId}{x:Operand}{f:Nat}{places:List (Nat×Nat)}{aggs:List Bool}{zero:aVs}{off sz b o:Nat}(hT:StructT P t places aggs zero)(hk:K (.pointer (some ⟨b,o+off,none⟩)) false h)(hx:ev s x=.pointer (some ⟨b,o,none⟩):=by exact rfl)(hp:places[f]?=some (off,sz):=by exact rfl)(hz:Nat.beq sz 0=false:=by exact rfl):StillVC pr P (.fieldAddr t x f) ty s h K:=StillVC.fA hT hx hp hz hk
theorem StillVC.oC {t:TypeId}{x:Operand}{zero:aVs}{by_:Nat}{b off:Nat}{cs:aVs}{t':TypeId}{v:Value}(o:Own h0 L h)(k:Nat)(hT:TyI P t false zero by_)(hK:K v false h)(hk:L[k]?=some (box b cs t'):=by exact rfl)(hx:ev s x=.pointer (some ⟨b,off,none⟩):=by exact rfl)(hv:cs[off]?=some v:=by exact rfl):StillVC false P (.load t x) ty s h K:=StillVC.aDu o k hk hT hx hv hK
theorem StillVC.oB {t:TypeId}{x:Operand}{zero:aVs}{by_:Nat}{b off:Nat}{cs:aVs}{t':TypeId}{v:Value}(o:Own h0 L h)(k:Nat)(hT:TyI P t false zero by_)(hK:K v false h)(hk:L[k]?=some (box b cs t'):=by exact rfl)(hx:ev s x=.pointer (some ⟨b,off,none⟩):=by exact rfl)(hv:cs[off]?=some v:=by exact rfl):RunVC P (.load t x) ty s h K Q:=StillVC.run (StillVC.aDu o k hk hT hx hv hK)
theorem StillVC.nB {t:TypeId}{x:Operand}{zero:aVs}{by_:Nat}{b off:Nat}{cs:aVs}{t':TypeId}{vs:aVs}(o:Own h0 L h)(k:Nat)(hT:TyI P t true zero by_)(hK:K (.agg ⟨vs⟩) false h)(hk:L[k]?=some (box b cs t'):=by exact rfl)(hx:ev s x=.pointer (some ⟨b,off,none⟩):=by exact rfl)(hv':(cs.drop off).take zero.length=vs:=by exact rfl)(hl:vs.length=zero.length:=by exact rfl):RunVC P (.load t x) ty s h K Q:=StillVC.run (StillVC.aDr o k hk hT hx hv' hl hK)
theorem StillVC.bA {p:Prop} [Decidable p] {A B:Prop}{a b:Code}(n:¬ p->B)(hp:¬ p:=by omega):Br (decide p) A B a b:=StillVC.aDJ (λh=>absurd h hp) n
theorem StillVC.bB {p:Prop} [Decidable p] {A B:Prop}{a b:Code}(y:p->A)(hp:p:=by omega):Br (decide p) A B a b:=StillVC.aDJ y (λh=>absurd hp h)
theorem StillVC.bC {p:Prop} [Decidable p] {A B:Prop}{a b:Code}(y:p->B)(hp:p:=by first|omega|assumption|decide|exact rfl):Br (!decide p) A B a b:=Br.ndec (λh=>absurd hp h) y
theorem StillVC.bD {p:Prop} [Decidable p] {A B:Prop}{a b:Code}(n:¬ p->A)(hp:¬ p:=by first|omega|assumption|decide|exact rfl):Br (!decide p) A B a b:=Br.ndec n (λh=>absurd h hp)
theorem StillVC.bE {p:Prop} [Decidable p] {A B:Prop}{a b:Code}(y:p->A)(hp:p:=by first|assumption|decide|exact rfl|(simp;done)):Br (decide p) A B a b:=StillVC.aDJ y (λh=>absurd hp h)
theorem StillVC.bF {p:Prop} [Decidable p] {A B:Prop}{a b:Code}(n:¬ p->B)(hp:¬ p:=by first|assumption|decide|exact rfl|(simp;done)):Br (decide p) A B a b:=StillVC.aDJ (λh=>absurd h hp) n
theorem StillVC.sA {t:TypeId}{a x:Operand}{zero:aVs}{by_:Nat}{agg:Bool}{b off:Nat}{cs:aVs}{t':TypeId}(o:Own h0 L h)(k:Nat)(hT:TyI P t agg zero by_)
  (hK:evK s x λv=>rJ v λvs=>∀ h',tY cs off vs λcs'=>pK L k (box b cs' t') λL'=>Own h0 L' h'->K undef false h') (hk:L[k]?=some (box b cs t'):=by exact rfl) (ha:ev s a=.pointer (some ⟨b,off,none⟩):=by exact rfl) (hl:off+zero.length<=cs.length:=by decide) (hc:evK s x λv=>rJ v λvs=>vs.length=zero.length/\vs.all (λu=>u.oneCell')=true:=by exact⟨rfl,rfl⟩):RunVC P (.store t a x) ty s h K Q :=
 RunVC.storeL o k hk hT ha hl (by rw[oY,oK]at hK hc ⊢;exact⟨hc,hK⟩)
theorem StillVC.sB {t:TypeId}{a x:Operand}{zero:aVs}{by_:Nat}{agg:Bool}{b off:Nat}{cs:aVs}{t':TypeId}(o:Own h0 L h)(k:Nat)(hT:TyI P t agg zero by_)
  (hK:evK s x λv=>rJ v λvs=>∀ h',aCQ cs off vs λcs'=>pK L k (box b cs' t') λL'=>Own h0 L' h'->K undef false h') (hk:L[k]?=some (box b cs t'):=by exact rfl) (ha:ev s a=.pointer (some ⟨b,off,none⟩):=by exact rfl) (hl:off+zero.length<=cs.length:=by simp) (hc:evK s x λv=>rJ v λvs=>vs.length=zero.length/\vs.all (λu=>u.oneCell')=true:=by exact⟨rfl,rfl⟩):RunVC P (.store t a x) ty s h K Q :=
 StillVC.aDF o k hk hT ha hl (by rw[oY,oK]at hK hc ⊢;exact⟨hc,hK⟩)
theorem StillVC.lA {t e:TypeId}{n:Nat}{parts:List (Nat×Operand)}{z:Value}{by_:Nat}(o:Own h0 L h)(hS:dN P t e)(hE:TyI P e false [z] by_)
  (hK:zT s (parts.map (·.2)) λvs=>∀ b h',pM L (box b vs e) λL'=>Own h0 L' h'->K (.slice (some ⟨b,0,none⟩) n n) false h') (hp:parts.map (·.1)=List.range' 0 parts.length:=by exact rfl) (hn:parts.length=n:=by exact rfl) (hsm:n<=16777216:=by decide) (hc:zT s (parts.map (·.2)) λvs=>vs.all (λu=>u.oneCell')=true:=by exact rfl):RunVC P (.buildSlice t n ⟨parts⟩) ty s h K Q :=
 StillVC.aDG o hS hE hp hn hsm (by rw[pP]at hK hc ⊢;exact⟨hc,hK⟩)
theorem StillVC.eN {f:FuncId}{fn:Func}{c:Code}{n:Nat}{args:aVs}{R:Ending->Heap->Prop}(hf:P.funcs[f]?=some fn)(hn:fn.ntmps=n)(hv:nL args n λs=>vcode P c (zV P fn R) s h)(hb:fn.body=some c:=by exact rfl)(hname:(fn.name == "runtime.NumGoroutine")=false:=by kernel_rfl):Spec P f args h R:=StillVC.aDP hf hb hn hname hv
theorem StillVC.aR {n:Int}{K:Value->Prop}(h:K (.int .i64 n))(lo:-9223372036854775808<=n:=by omega)(hi:n<=9223372036854775807:=by omega):Ar .i64 n K:=StillVC.aDQ lo hi h
theorem StillVC.o_ {ks':List Item}(ks:List Nat)(o:Own h0 ks' h:=by assumption)(hk:dst ks=true:=by exact rfl):Own h0 (pick ks' ks) h:=o.sel ks hk
theorem StillVC.rO {fn:Func}{R:Value->Heap->Prop}{t:Tmp}(hr:rS s t λv=>R v h)(hf:fn.results=#[.tmp t]:=by exact rfl):RetVC P fn s h R:=StillVC.aDR hf hr
theorem StillVC.lB {t e:TypeId}{x:Operand}{a:Option Addr}{n c:Nat}(hS:dN P t e)(hk:K (.int .i64 n) false h)(hx:ev s x=.slice a n c:=by exact rfl):RunVC P (.call ⟨.builtin .len,⟨[x]⟩,⟨[t]⟩⟩) ty s h K Q:=StillVC.run (StillVC.aDz hx hS hk)
theorem StillVC.cB {x:Operand}{a:Addr}(hk:K (.pointer (some a)) false h)(hx:ev s x=.pointer (some a):=by exact rfl):RunVC P (.nilCheck x) ty s h K Q:=StillVC.run (StillVC.nC hx hk)
theorem StillVC.xB {t:TypeId}{x:Operand}{v:Value}(o:Own h0 L h)(hk:∀ b h',pM L (box b v.cells.toList t) λL'=>Own h0 L' h'->K (.pointer (some ⟨b,0,none⟩)) false h')(hx:ev s x=v:=by exact rfl):RunVC P (.box t x) ty s h K Q:=RunVC.boxO o hx hk
theorem StillVC.d1_ {id:Nat}{ops:Array Oper}(st0 stR tails ord:List Nat)(hv:vord P ops.toList st0 stR tails ord [] s h Q)(hm:P.follows .mixedOrders=true:=by exact mixed)(hok:tL ops st0 stR tails ord=true:=by kernel_rfl)(hlen:ord.length=ops.size:=by exact rfl)(hp:∀ c s s' h,Q (.panic c) s h->Q (.panic c) s' h:=by exact λ_ _ _ _ h=>h):DrawVC P id ops s h Q:=StillVC.aDM st0 stR tails ord hm hok hlen hp hv
theorem StillVC.d2_ {id:Nat}{ops:Array Oper}(b:Nat)(st0 stR tails ord:List Nat)(hv:pF (λh h'=>h'[b]?=h[b]?) (λa=>a.block=b) P ops.toList st0 stR tails ord [] s h Q)(hm:P.follows .mixedOrders=true:=by exact mixed)(hok:tL ops st0 stR tails ord=true:=by kernel_rfl)(hlen:ord.length=ops.size:=by exact rfl)(hp:∀ c s s' h,Q (.panic c) s h->Q (.panic c) s' h:=by exact λ_ _ _ _ h=>h):DrawVC P id ops s h Q:=DrawVC.introB b st0 stR tails ord hm hok hlen hp hv
theorem StillVC.r1_ {fn:Func}{a t:TypeId}{u:Tmp}{R:Value->Heap->Prop}{zero:aVs}{by_:Nat}{b:Nat}{vs:aVs}{t':TypeId}(o:Own h0 L h)(k:Nat)(hT:TyI P t true zero by_)(hr:rS s u λv=>R (.tuple ⟨[.agg ⟨vs⟩,v]⟩) h)(hf:fn.results=#[.cell a t,.tmp u]:=by exact rfl)(hk:L[k]?=some (box b vs t'):=by exact rfl)(hl:vs.length=zero.length:=by exact rfl)(ha:sget s a=.pointer (some ⟨b,0,none⟩):=by exact rfl):RetVC P fn s h R:=RetVC.cell2 hf o k hk hT hl ha hr
theorem StillVC.r2_ {fn:Func}{a t:TypeId}{R:Value->Heap->Prop}{zero:aVs}{by_:Nat}{b:Nat}{vs:aVs}{t':TypeId}(o:Own h0 L h)(k:Nat)(hT:TyI P t true zero by_)(hr:R (.agg ⟨vs⟩) h)(hf:fn.results=#[.cell a t]:=by exact rfl)(hk:L[k]?=some (box b vs t'):=by exact rfl)(hl:vs.length=zero.length:=by exact rfl)(ha:sget s a=.pointer (some ⟨b,0,none⟩):=by exact rfl):RetVC P fn s h R:=RetVC.cell1 hf o k hk hT hl ha hr
end
end Go.Proofs.YtohlogbnpfofpaaGreatDoor
namespace Go.Proofs.YtohlogbnpfofpaaGreatDoor
open Go Go.ChangeShapes Go.WideShapes Go.ChangeAt Go.RowKit Go.WideElems
section
variable {H : Type} {enc : TypeId × Value -> H} {P : Program} {W : World}
structure In {H:Type} (enc:TypeId×Value->H) (P:Program) (W:World) (base:Nat) (t:TypeId) (v:Value) (d:DataW H):Prop where
 ok:Value.okWide P W .any base t v
 trod:∃ p,DataW.Trod enc P W 0 (λ_=>true) true t v d p
 fits:(d.weights P t).all (·<=reachBytes)=true
def tR {H:Type}(enc:TypeId×Value->H)(P:Program)(W:World)(base:Nat):List TypeId->aVs->List (DataW H)->Prop
 | [],[],[]=>True
 | t::ts,v::vs,d::ds=>In enc P W base t v d/\tR enc P W base ts vs ds
 | _,_,_=>False
theorem tR.nil {base:Nat}{vs:aVs}{ds:List (DataW H)}(h:tR enc P W base [] vs ds):vs=[]:=by
 cases vs with
 | nil=>rfl
 | cons v vs=>exact(show False from h).elim
theorem tR.cons {base:Nat}{t:TypeId}{ts:List TypeId}{vs:aVs}{ds:List (DataW H)}(h:tR enc P W base (t::ts) vs ds) :
  ∃ v d vs' ds',vs=v::vs'/\ds=d::ds'/\In enc P W base t v d/\tR enc P W base ts vs' ds':=by
 cases vs with
 | nil=>exact(show False from h).elim
 | cons v vs=>cases ds with
  | nil=>exact(show False from h).elim
  | cons d ds=>exact⟨v,d,vs,ds,rfl,rfl,h.1,h.2⟩
theorem tR.mk' {base:Nat}:∀(ts:List TypeId)(vs:aVs)(ds:List (DataW H))(ps:List MemPlace),
  DataW.TrodAll enc P W 0 (λ_=>true) true ts vs ds ps->(∀(j:Nat) t v,ts[j]?=some t->vs[j]?=some v->Value.okWide P W .any base t v) ->
  (DataW.weightsEach P ts ds).all (·<=reachBytes)=true->tR enc P W base ts vs ds
 | [],[],[],_,_,_,_=>trivial
 | t::ts,v::vs,d::ds,ps,⟨p,q,h1,h2,_⟩,hv,hw=>by
  simp only[DataW.weightsEach,List.all_append,aD0]at hw
  exact⟨⟨hv 0 t v rfl rfl,⟨p,h1⟩,hw.1⟩,tR.mk' ts vs ds q h2 (λj t v ht hv'=>hv (j+1) t v ht hv') hw.2⟩
 | [],_::_,[],_,h,_,_=>(show False from h).elim
 | [],[],_::_,_,h,_,_=>(show False from h).elim
 | [],_::_,_::_,_,h,_,_=>(show False from h).elim
 | _::_,[],[],_,h,_,_=>(show False from h).elim
 | _::_,[],_::_,_,h,_,_=>(show False from h).elim
 | _::_,_::_,[],_,h,_,_=>(show False from h).elim
theorem yG:∀(ts:List TypeId)(vs:aVs)(ds:List (DataW H))(ps:List MemPlace),DataW.TrodAll enc P W 0 (λ_=>true) true ts vs ds ps->ds.length=ts.length
 | [],[],[],_,_=>rfl
 | _::ts,_::vs,_::ds,_,⟨_,q,_,h2,_⟩=>by simp[yG ts vs ds q h2]
 | [],_::_,[],_,h=>(show False from h).elim
 | [],[],_::_,_,h=>(show False from h).elim
 | [],_::_,_::_,_,h=>(show False from h).elim
 | _::_,[],[],_,h=>(show False from h).elim
 | _::_,[],_::_,_,h=>(show False from h).elim
 | _::_,_::_,[],_,h=>(show False from h).elim
theorem uG (hl:laidOutB P=true) {W':World}(hb:Below W.heap.size W W'):∀(ts:List TypeId)(vs:aVs)(ds:List (DataW H))(ps:List MemPlace),
  (ts.all λt=>P.readableRec t&&decide (t<P.types.size))=true->DataW.TrodAll enc P W 0 (λ_=>true) true ts vs ds ps->(∀ x∈ps,x.block<W.heap.size) ->
  DataW.TrodAll enc P W' 0 (λb=>decide (b<W.heap.size)) true ts vs ds ps
 | [],[],[],_,_,h,_=>h
 | t::ts,v::vs,d::ds,ps,ht,⟨p,q,h1,h2,e⟩,hlt=>by
  subst e
  simp only[aEO,aD0,decide_eq_true_eq]at ht
  exact⟨p,q,Below.trod hl ht.1.1 ht.1.2 h1 hb (λx hx=>hlt x (by simp[hx])),uG hl hb ts vs ds q (by simpa using ht.2) h2 (λx hx=>hlt x (by simp[hx])),rfl⟩
 | [],_::_,[],_,_,h,_=>(show False from h).elim
 | [],[],_::_,_,_,h,_=>(show False from h).elim
 | [],_::_,_::_,_,_,h,_=>(show False from h).elim
 | _::_,[],[],_,_,h,_=>(show False from h).elim
 | _::_,[],_::_,_,_,h,_=>(show False from h).elim
 | _::_,_::_,[],_,_,h,_=>(show False from h).elim
theorem law_lifted {C:Checked}{os:Os}{f:FuncId}{fn:Func}{s:ChangeSpec}{X:World->Array Value->Prop}{tb:TypeId}(args0:Array Value)(fuel:Nat)(w0:World)
  (hX:∀(w w':World) (args:Array Value),w.heap=w'.heap->X w args->X w' args) (own:ownKnob C.prog.godebug=none) (started:os.Started) (noInit:C.prog.inits.idxOf? f=none) (hfn:C.prog.funcs[f]?=some fn)
  (hl:laidOutB C.prog=true) (hts:(fn.params.toList.all λt=>C.prog.readableRec t&&decide (t<C.prog.types.size))=true) (hres:fn.resultTypes=#[tb]) (htb:C.prog.underlying tb=some .bool) (hvars:s.vars=[])
  (hs:∀ ds:List (DataW H),ds.length=fn.params.toList.length->s.fn H ds={ results:=[.lit (.bool true)],args:=ds })
  (hos:w0.os=os) (hsh:(w0.forCall (λ_ _=>0) ⟨#[],args0,[]⟩).Shaped C.prog)
  (hok:Input.okWideB C.prog (w0.forCall (λ_ _=>0) ⟨#[],args0,[]⟩) f ⟨#[],args0,[]⟩=true)
  (hpre:s.preB enc C.prog fn [] false (w0.forCall (λ_ _=>0) ⟨#[],args0,[]⟩).memory args0 fuel=true)
  (hsz:s.sizedB enc C.prog fn false (w0.forCall (λ_ _=>0) ⟨#[],args0,[]⟩).memory args0 fuel=true)
  (hx:X (w0.forCall (λ_ _=>0) ⟨#[],args0,[]⟩).memory args0)
  (hspec:∀(W:World) (base:Nat) (args:aVs) (ds:List (DataW H)),tR enc C.prog W base fn.params.toList args ds->X W args.toArray->bG C.prog f args W.heap λr h'=>r=.bool true/\Own W.heap [] h') :
  ReturnsInHanded {} C os f .any (λw args=>(s.pre enc C.prog fn [] false w args/\X w args)/\sizedMet enc C.prog fn (OpenSpec.ofChange s) false w args) (s.post enc C.prog fn false true false false):=by
 refine returnsInHanded_of_change_and (C:=C) (X:=X) hX own started noInit hfn (ChangeSpec.witness_shaped (enc:=enc) (C:=C) (os:=os) (X:=X) false w0 args0 fuel hos hsh hok hpre hsz hx) ?_;intro W base args ds gs before hval hW _ hw hL _;have hW':=hW
 obtain⟨p,q,hA,hV,rfl,hfz,hnd⟩:=hW
 rw[hvars]at hV
 obtain⟨rfl,rfl⟩:=trodVars_none hV
 have hvt:s.plain.varTypes C.prog=[]:=by simp[ChangeSpec.plain,DataSpec.varTypes,hvars]
 rw[hvt,aD7,aD7]at hw
 have hin:=tR.mk' (base:=base) _ _ _ _ hA (λj t v ht hv=>hval j t v (by simpa using ht) (by simpa using hv)) hw;have hlen:=yG _ _ _ _ hA;have hlt:∀ x∈p,x.block<W.heap.size:=λx hx=>hW'.lt x (by simp[hx])
 refine((hspec W base args.toList ds hin (by simpa using hL)).2 W rfl).mono λe W' ⟨hsame,he⟩=>?_
 cases e with
 | returned v =>
  obtain⟨rfl,ho⟩:=he
  have hB:Below W.heap.size W W':=⟨hsame.os,hsame.tape,hsame.output,ho.ext.size,ho.ext.old⟩
  refine⟨_,rfl,ds,[],p++[],[],p,[],hW',?_,?_,?_,hB.frame _,λh=>by cases h⟩
  ·rw[aD7,hs ds hlen,hres]
   exact trodAll_mk1 (RowKit.shut_bool htb _)
  ·rw[aD7,hs ds hlen]
   exact uG hl hB _ _ _ _ hts hA hlt
  ·rw[aD7,hs ds hlen,hvars]
   rfl
 | panicked c=>exact he.elim
 | outgrown=>exact he.elim
end
end Go.Proofs.YtohlogbnpfofpaaGreatDoor
namespace Go.Proofs.YtohlogbnpfofpaaGreatDoor
open Go Go.ChangeShapes Go.WideShapes Go.ChangeAt Go.RowKit Go.WideElems Go.Joins Go.Deep
section
variable {H : Type} {enc : TypeId × Value -> H} {P : Program} {W : World}
theorem aBL {α:Type}{f:α->aVs}{sz:Nat}(hf:∀ y,(f y).length=sz)(hsz:0<sz) {a:Addr}{len cap:Nat}{xs:List α}(hlen:xs.length=len)(hl:len<=cap)
  (hc:∀ j y,xs[j]?=some y->∀ r u,(f y)[r]?=some u->W.cell? ((a.add (j*sz)).add r)=some u):aY sz W.heap (.slice (some a) len cap) len (xs.flatMap f):=by
 refine⟨by rw[tJ hf,hlen],some a,cap,rfl,hl,?_⟩
 cases xs with
 | nil=>exact .inl hlen.symm
 | cons x xs =>
  right
  have h00:=hc 0 x rfl 0 ((f x)[0]'(by rw[hf];exact hsz)) (by simp[hf,hsz])
  obtain⟨b,o,sp⟩:=a
  cases sp with
  | none =>
   refine⟨b,o,rfl,λi hi=>?_⟩
   rw[tJ hf]at hi
   have hd:i / sz<(x::xs).length:=Nat.div_lt_of_lt_mul (by rw[Nat.mul_comm];exact hi)
   obtain⟨y,hy⟩:=getx hd
   have hr:i % sz<(f y).length:=by rw[hf];exact Nat.mod_lt _ hsz
   obtain⟨u,hu⟩:=getx hr
   have e:i / sz*sz+i % sz=i:=by rw[Nat.mul_comm];exact Nat.div_add_mod i sz
   have h1:=hc _ y hy _ u hu;have h2:=aB8 (f:=f) hf hy hu
   rw[e]at h2
   rw[h2,← h1,add_add,e,Addr.add_lit]
   rfl
  | some q =>
   exfalso
   have:((Addr.add ⟨b,o,some q⟩ (0*sz)).add 0)=⟨b,o,some q⟩:=by simp[Addr.add]
   rw[this,hH]at h00
   simp only[bI]at h00
   split at h00
   ·simp at h00
   ·simp at h00
end
end Go.Proofs.YtohlogbnpfofpaaGreatDoor
namespace Go.Proofs.YtohlogbnpfofpaaGreatDoor
open Go Go.Proofs
open Go.Shelf
def Tryz.lays137_ren:Go.Shelf.Ren:=⟨fun|137=>99|217=>139|266=>157|n=>n,fun|9=>9|5=>5|3=>3|n=>n,fun|n=>n⟩
theorem Tryz.lays137:Go.Proofs.Lays.n137 Tryz.prog Tryz.lays137_ren:={
 mixed:=by kernel_rfl
 f137:=Tryz.func99.trans (congrArg some k_)
 f217:=Tryz.func139.trans (congrArg some k_)
 f266:=Tryz.func157.trans (congrArg some k_)
 t3:=Tryz.underlying3
 a3:=Tryz.isAgg3
 z3:=Tryz.sizeOf3
 v3:=Tryz.zeroValue3
 t5:=Tryz.underlying5
 a5:=Tryz.isAgg5
 z5:=Tryz.sizeOf5
 v5:=Tryz.zeroValue5
 t9:=Tryz.underlying9
 a9:=Tryz.isAgg9
 z9:=Tryz.sizeOf9
 v9:=Tryz.zeroValue9 }
open Go.RowKit in
theorem Tryz.strings_IndexByte (s:ByteArray)(c:Int)(w:World) :
  Calls Tryz.prog 99 #[.string s,.int .u8 c] w λe w'=>e=.returned (iv (Lib.indexByte s.data.toList c.toNat.toUInt8))/\w'=w:=Any.strings_IndexByte Tryz.lays137 s c w
def Tryz.lays172_ren:Go.Shelf.Ren:=⟨fun|172=>98|244=>137|245=>138|247=>152|279=>153|280=>154|281=>155|282=>156|287=>169|316=>170|171=>150|205=>171|321=>177|322=>178|243=>167|246=>175|283=>185|284=>186|285=>187|286=>188|129=>196|317=>195|318=>197|319=>198|320=>199|337=>209|338=>210|n=>n,fun|9=>9|3=>3|75=>84|76=>120|4=>4|5=>5|167=>196|37=>52|0=>0|85=>197|2=>2|168=>199|53=>178|175=>223|46=>225|210=>227|127=>86|145=>236|143=>234|21=>21|171=>251|173=>254|212=>271|51=>208|20=>20|213=>272|232=>289|233=>290|80=>61|n=>n,fun|15=>2|16=>3|17=>5|18=>6|19=>7|n=>n⟩
theorem Tryz.lays172:Go.Proofs.Lays.n172 Tryz.prog Tryz.lays172_ren:={
 mixed:=by kernel_rfl
 f129:=Tryz.func196.trans (congrArg some k_)
 f171:=Tryz.func150.trans (congrArg some k_)
 f172:=Tryz.func98.trans (congrArg some k_)
 f205:=Tryz.func171.trans (congrArg some k_)
 f243:=Tryz.func167.trans (congrArg some k_)
 f244:=Tryz.func137.trans (congrArg some k_)
 f245:=Tryz.func138.trans (congrArg some k_)
 f246:=Tryz.func175.trans (congrArg some k_)
 f247:=Tryz.func152.trans (congrArg some k_)
 f279:=Tryz.func153.trans (congrArg some k_)
 f280:=Tryz.func154.trans (congrArg some k_)
 f281:=Tryz.func155.trans (congrArg some k_)
 f282:=Tryz.func156.trans (congrArg some k_)
 f283:=Tryz.func185.trans (congrArg some k_)
 f284:=Tryz.func186.trans (congrArg some k_)
 f285:=Tryz.func187.trans (congrArg some k_)
 f286:=Tryz.func188.trans (congrArg some k_)
 f287:=Tryz.func169.trans (congrArg some k_)
 f316:=Tryz.func170.trans (congrArg some k_)
 f317:=Tryz.func195.trans (congrArg some k_)
 f318:=Tryz.func197.trans (congrArg some k_)
 f319:=Tryz.func198.trans (congrArg some k_)
 f320:=Tryz.func199.trans (congrArg some k_)
 f321:=Tryz.func177.trans (congrArg some k_)
 f322:=Tryz.func178.trans (congrArg some k_)
 f337:=Tryz.func209.trans (congrArg some k_)
 f338:=Tryz.func210.trans (congrArg some k_)
 t0:=Tryz.underlying0
 a0:=Tryz.isAgg0
 z0:=Tryz.sizeOf0
 v0:=Tryz.zeroValue0
 t2:=Tryz.underlying2
 a2:=Tryz.isAgg2
 z2:=Tryz.sizeOf2
 v2:=Tryz.zeroValue2
 t3:=Tryz.underlying3
 a3:=Tryz.isAgg3
 z3:=Tryz.sizeOf3
 v3:=Tryz.zeroValue3
 t4:=Tryz.underlying4
 a4:=Tryz.isAgg4
 z4:=Tryz.sizeOf4
 v4:=Tryz.zeroValue4
 t5:=Tryz.underlying5
 a5:=Tryz.isAgg5
 z5:=Tryz.sizeOf5
 v5:=Tryz.zeroValue5
 t9:=Tryz.underlying9
 a9:=Tryz.isAgg9
 z9:=Tryz.sizeOf9
 v9:=Tryz.zeroValue9
 t20:=Tryz.underlying20
 a20:=Tryz.isAgg20
 z20:=Tryz.sizeOf20
 v20:=Tryz.zeroValue20
 t21:=Tryz.underlying21
 a21:=Tryz.isAgg21
 z21:=Tryz.sizeOf21
 v21:=Tryz.zeroValue21
 t37:=Tryz.underlying52
 a37:=Tryz.isAgg52
 z37:=Tryz.sizeOf52
 v37:=Tryz.zeroValue52
 t46:=Tryz.underlying225
 a46:=Tryz.isAgg225
 z46:=Tryz.sizeOf225
 v46:=Tryz.zeroValue225
 t51:=Tryz.underlying208
 a51:=Tryz.isAgg208
 z51:=Tryz.sizeOf208
 v51:=Tryz.zeroValue208
 t53:=Tryz.underlying178
 a53:=Tryz.isAgg178
 z53:=Tryz.sizeOf178
 v53:=Tryz.zeroValue178
 t75:=Tryz.underlying84
 a75:=Tryz.isAgg84
 z75:=Tryz.sizeOf84
 v75:=Tryz.zeroValue84
 t76:=Tryz.underlying120
 a76:=Tryz.isAgg120
 z76:=Tryz.sizeOf120
 v76:=Tryz.zeroValue120
 t85:=Tryz.underlying197
 a85:=Tryz.isAgg197
 z85:=Tryz.sizeOf197
 v85:=Tryz.zeroValue197
 t127:=Tryz.underlying86
 a127:=Tryz.isAgg86
 z127:=Tryz.sizeOf86
 v127:=Tryz.zeroValue86
 t143:=Tryz.underlying234
 a143:=Tryz.isAgg234
 z143:=Tryz.sizeOf234
 v143:=Tryz.zeroValue234
 t145:=Tryz.underlying236
 a145:=Tryz.isAgg236
 z145:=Tryz.sizeOf236
 v145:=Tryz.zeroValue236
 t167:=Tryz.underlying196
 a167:=Tryz.isAgg196
 z167:=Tryz.sizeOf196
 v167:=Tryz.zeroValue196
 t168:=Tryz.underlying199
 a168:=Tryz.isAgg199
 z168:=Tryz.sizeOf199
 v168:=Tryz.zeroValue199
 t171:=Tryz.underlying251
 a171:=Tryz.isAgg251
 z171:=Tryz.sizeOf251
 v171:=Tryz.zeroValue251
 t173:=Tryz.underlying254
 a173:=Tryz.isAgg254
 z173:=Tryz.sizeOf254
 v173:=Tryz.zeroValue254
 t175:=Tryz.underlying223
 a175:=Tryz.isAgg223
 z175:=Tryz.sizeOf223
 v175:=Tryz.zeroValue223
 t210:=Tryz.underlying227
 a210:=Tryz.isAgg227
 z210:=Tryz.sizeOf227
 v210:=Tryz.zeroValue227
 t212:=Tryz.underlying271
 a212:=Tryz.isAgg271
 z212:=Tryz.sizeOf271
 v212:=Tryz.zeroValue271
 t213:=Tryz.underlying272
 a213:=Tryz.isAgg272
 z213:=Tryz.sizeOf272
 t232:=Tryz.underlying289
 a232:=Tryz.isAgg289
 z232:=Tryz.sizeOf289
 v232:=Tryz.zeroValue289
 t233:=Tryz.underlying290
 a233:=Tryz.isAgg290
 z233:=Tryz.sizeOf290
 v233:=Tryz.zeroValue290
 g15:=by kernel_rfl
 g16:=by kernel_rfl
 g17:=by kernel_rfl
 g18:=by kernel_rfl
 g19:=by kernel_rfl }
open Go.RowKit in
theorem Tryz.strconv_Atoi (s:ByteArray)(n:Int)(hl:s.size<=18)(h:Lib.atoi s.data.toList=some n)(w:World) :
  Calls Tryz.prog 98 #[.string s] w λe w'=>e=.returned (.tuple #[iv n,.nilIface])/\∃ t,w'=Lib.bytesWorld w 5 t:=Any.strconv_Atoi Tryz.lays172 s n hl h w
def Tryz.laysM171_ren:Go.Shelf.Ren:=⟨fun|171=>150|243=>167|246=>175|283=>185|284=>186|285=>187|286=>188|129=>196|317=>195|318=>197|319=>198|320=>199|337=>209|338=>210|n=>n,fun|3=>3|9=>9|2=>2|4=>4|171=>251|0=>0|53=>178|37=>52|5=>5|173=>254|212=>271|51=>208|20=>20|213=>272|46=>225|232=>289|233=>290|n=>n,fun|17=>5|18=>6|19=>7|n=>n⟩
theorem Tryz.laysM171:Go.Proofs.LaysM.n171 Tryz.prog Tryz.laysM171_ren:={
 mixed:=by kernel_rfl
 f129:=Tryz.func196.trans (congrArg some k_)
 f171:=Tryz.func150.trans (congrArg some k_)
 f243:=Tryz.func167.trans (congrArg some k_)
 f246:=Tryz.func175.trans (congrArg some k_)
 f283:=Tryz.func185.trans (congrArg some k_)
 f284:=Tryz.func186.trans (congrArg some k_)
 f285:=Tryz.func187.trans (congrArg some k_)
 f286:=Tryz.func188.trans (congrArg some k_)
 f317:=Tryz.func195.trans (congrArg some k_)
 f318:=Tryz.func197.trans (congrArg some k_)
 f319:=Tryz.func198.trans (congrArg some k_)
 f320:=Tryz.func199.trans (congrArg some k_)
 f337:=Tryz.func209.trans (congrArg some k_)
 f338:=Tryz.func210.trans (congrArg some k_)
 t0:=Tryz.underlying0
 a0:=Tryz.isAgg0
 z0:=Tryz.sizeOf0
 v0:=Tryz.zeroValue0
 t2:=Tryz.underlying2
 a2:=Tryz.isAgg2
 z2:=Tryz.sizeOf2
 v2:=Tryz.zeroValue2
 t3:=Tryz.underlying3
 a3:=Tryz.isAgg3
 z3:=Tryz.sizeOf3
 v3:=Tryz.zeroValue3
 t4:=Tryz.underlying4
 a4:=Tryz.isAgg4
 z4:=Tryz.sizeOf4
 v4:=Tryz.zeroValue4
 t5:=Tryz.underlying5
 a5:=Tryz.isAgg5
 z5:=Tryz.sizeOf5
 v5:=Tryz.zeroValue5
 t9:=Tryz.underlying9
 a9:=Tryz.isAgg9
 z9:=Tryz.sizeOf9
 v9:=Tryz.zeroValue9
 t20:=Tryz.underlying20
 a20:=Tryz.isAgg20
 z20:=Tryz.sizeOf20
 v20:=Tryz.zeroValue20
 t37:=Tryz.underlying52
 a37:=Tryz.isAgg52
 z37:=Tryz.sizeOf52
 v37:=Tryz.zeroValue52
 t46:=Tryz.underlying225
 a46:=Tryz.isAgg225
 z46:=Tryz.sizeOf225
 v46:=Tryz.zeroValue225
 t51:=Tryz.underlying208
 a51:=Tryz.isAgg208
 z51:=Tryz.sizeOf208
 v51:=Tryz.zeroValue208
 t53:=Tryz.underlying178
 a53:=Tryz.isAgg178
 z53:=Tryz.sizeOf178
 v53:=Tryz.zeroValue178
 t171:=Tryz.underlying251
 a171:=Tryz.isAgg251
 z171:=Tryz.sizeOf251
 v171:=Tryz.zeroValue251
 t173:=Tryz.underlying254
 a173:=Tryz.isAgg254
 z173:=Tryz.sizeOf254
 v173:=Tryz.zeroValue254
 t212:=Tryz.underlying271
 a212:=Tryz.isAgg271
 z212:=Tryz.sizeOf271
 v212:=Tryz.zeroValue271
 t213:=Tryz.underlying272
 a213:=Tryz.isAgg272
 z213:=Tryz.sizeOf272
 t232:=Tryz.underlying289
 a232:=Tryz.isAgg289
 z232:=Tryz.sizeOf289
 v232:=Tryz.zeroValue289
 t233:=Tryz.underlying290
 a233:=Tryz.isAgg290
 z233:=Tryz.sizeOf290
 v233:=Tryz.zeroValue290
 g17:=by kernel_rfl
 g18:=by kernel_rfl
 g19:=by kernel_rfl
 i0:=by kernel_rfl
 i2:=by kernel_rfl
 i3:=by kernel_rfl
 i4:=by kernel_rfl
 i5:=by kernel_rfl
 i9:=by kernel_rfl
 i20:=by kernel_rfl
 i37:=by kernel_rfl
 i46:=by kernel_rfl
 i51:=by kernel_rfl
 i53:=by kernel_rfl
 i171:=by kernel_rfl
 i173:=by kernel_rfl
 i212:=by kernel_rfl
 i232:=by kernel_rfl
 i233:=by kernel_rfl
 m17:=by kernel_rfl
 m18:=by kernel_rfl
 m19:=by kernel_rfl }
open Go.RowKit Go.Sort Go.Lib in
theorem Tryz.strconv_Itoa (n:Int)(h0:-9223372036854775808<=n)(h1:n<=9223372036854775807)(w:World)(htab:Lib.TabIs Tryz.prog w "internal/strconv.uint64pow10" .u64 Lib.pow10Tab) :
  Calls Tryz.prog 150 #[iv n] w λe w'=>e=.returned (.string ⟨(Lib.itoa n).toArray⟩)/\∃ k os,w'=grow (w.drewN k) os:=Any.strconv_Itoa Tryz.laysM171 n h0 h1 w htab
def Tryz.lays138_ren:Go.Shelf.Ren:=⟨fun|138=>251|195=>252|218=>253|143=>254|219=>255|217=>139|225=>256|224=>257|267=>258|266=>157|314=>259|n=>n,fun|9=>9|3=>3|4=>4|5=>5|0=>0|46=>225|146=>320|51=>208|n=>n,fun|1=>4|n=>n⟩
theorem Tryz.lays138:Go.Proofs.Lays.n138 Tryz.prog Tryz.lays138_ren:={
 mixed:=by kernel_rfl
 f138:=Tryz.func251.trans (congrArg some k_)
 f143:=Tryz.func254.trans (congrArg some k_)
 f195:=Tryz.func252.trans (congrArg some k_)
 f217:=Tryz.func139.trans (congrArg some k_)
 f218:=Tryz.func253.trans (congrArg some k_)
 f219:=Tryz.func255.trans (congrArg some k_)
 f224:=Tryz.func257.trans (congrArg some k_)
 f225:=Tryz.func256.trans (congrArg some k_)
 f266:=Tryz.func157.trans (congrArg some k_)
 f267:=Tryz.func258.trans (congrArg some k_)
 f314:=Tryz.func259.trans (congrArg some k_)
 t0:=Tryz.underlying0
 a0:=Tryz.isAgg0
 z0:=Tryz.sizeOf0
 v0:=Tryz.zeroValue0
 t3:=Tryz.underlying3
 a3:=Tryz.isAgg3
 z3:=Tryz.sizeOf3
 v3:=Tryz.zeroValue3
 t4:=Tryz.underlying4
 a4:=Tryz.isAgg4
 z4:=Tryz.sizeOf4
 v4:=Tryz.zeroValue4
 t5:=Tryz.underlying5
 a5:=Tryz.isAgg5
 z5:=Tryz.sizeOf5
 v5:=Tryz.zeroValue5
 t9:=Tryz.underlying9
 a9:=Tryz.isAgg9
 z9:=Tryz.sizeOf9
 v9:=Tryz.zeroValue9
 t46:=Tryz.underlying225
 a46:=Tryz.isAgg225
 z46:=Tryz.sizeOf225
 v46:=Tryz.zeroValue225
 t51:=Tryz.underlying208
 a51:=Tryz.isAgg208
 z51:=Tryz.sizeOf208
 v51:=Tryz.zeroValue208
 t146:=Tryz.underlying320
 a146:=Tryz.isAgg320
 z146:=Tryz.sizeOf320
 v146:=Tryz.zeroValue320
 g1:=by kernel_rfl }
open Go.RowKit Go.Lib in
theorem Tryz.strings_Count_one (s:ByteArray)(c:UInt8)(w:World) :
  Calls Tryz.prog 251 #[.string s,.string ⟨#[c]⟩] w λe w'=>e=.returned (iv (Lib.countByte s.data.toList c))/\w'=w:=Any.strings_Count_one Tryz.lays138 s c w
def Tryz.lays99_ren:Go.Shelf.Ren:=⟨fun|99=>100|206=>140|n=>n,fun|9=>9|4=>4|3=>3|n=>n,fun|n=>n⟩
theorem Tryz.lays99:Go.Proofs.Lays.n99 Tryz.prog Tryz.lays99_ren:={
 mixed:=by kernel_rfl
 f99:=Tryz.func100.trans (congrArg some k_)
 f206:=Tryz.func140.trans (congrArg some k_)
 t3:=Tryz.underlying3
 a3:=Tryz.isAgg3
 z3:=Tryz.sizeOf3
 v3:=Tryz.zeroValue3
 t4:=Tryz.underlying4
 a4:=Tryz.isAgg4
 z4:=Tryz.sizeOf4
 v4:=Tryz.zeroValue4
 t9:=Tryz.underlying9
 a9:=Tryz.isAgg9
 z9:=Tryz.sizeOf9
 v9:=Tryz.zeroValue9 }
open Go.RowKit Go.Lib in
theorem Tryz.strings_HasPrefix (s p:ByteArray)(w:World) :
  Calls Tryz.prog 100 #[.string s,.string p] w λe w'=>e=.returned (.bool (Lib.hasPrefix s.data.toList p.data.toList))/\w'=w:=Any.strings_HasPrefix Tryz.lays99 s p w
end Go.Proofs.YtohlogbnpfofpaaGreatDoor
namespace Go.Proofs.YtohlogbnpfofpaaGreatDoor
open Go StillVC
def undec (l:aBs):Nat:=l.foldl (λn c=>n*10+(c.toNat - 48)) 0
end Go.Proofs.YtohlogbnpfofpaaGreatDoor
