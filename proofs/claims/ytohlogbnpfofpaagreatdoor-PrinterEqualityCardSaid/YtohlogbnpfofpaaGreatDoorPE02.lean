/- Part 2 of the proof of equality: VcMem3, Law, VcMem4, Law3, Types, VcIface, VcDefer, VcLex, VcDraw2, VcSync, VcArr, VcTree, VcPtr. -/
import Derived.Laws.StructEq
import Derived.Laws.BytesArg
import Derived.ProofKit
import Derived.LaidMore
import Derived.OpenShut
import Derived.Stop.Joined
import Derived.Stop.LaidErr
import Derived.SliceStrings
import Derived.SevenTiedAt
import Derived.Lib.SmallJoins
import Derived.Shelf.Vars
import Derived.Lib.AppendStr
import Derived.Deep.Strs
import Derived.Test.YtohlogbnpfofpaaGreatDoorRows
import Derived.WideLaws
import Derived.Recover
import Derived.Laws.LoneSync
import Derived.Laws.CopyRow
import Derived.Laws.Pointers
import Derived.Lib.BufferWrite
import Derived.Test.YtohlogbnpfofpaaGreatDoorPE01
set_option linter.all false
set_option maxHeartbeats 100000000
set_option maxRecDepth 100000
namespace Go.Proofs.YtohlogbnpfofpaaGreatDoor
open Go
abbrev strs (ss:List aBs):aVs:=ss.map fun l=>Value.string ⟨⟨l⟩⟩
abbrev bytes (bs:aBs):aVs:=bs.map fun b=>Value.int .u8 b.toNat
theorem getx {α:Type}{l:List α}{i:Nat}(h:i<l.length):∃ x,l[i]?=some x:=⟨l[i],by simp[h]⟩
section
variable {P : Program} {ty : TypeId} {s : aVs} {h0 : Base} {h : Heap} {L : List Item} {K : KK} {Q : QQ} {pr : Bool}
theorem StillVC.aCI {t e:TypeId}{x:Operand}{xs:aVs}{n:Nat}(hA:Arr h (ev s x) xs)(hn:xs.length=n)(hS:dE P t e)(hk:K (.int .i64 n) false h):StillVC pr P (.call ⟨.builtin .len,⟨[x]⟩,⟨[t]⟩⟩) ty s h K :=
 .lenA hA hS (by rw[hn];exact hk)
theorem StillVC.aCJ {t e:TypeId}{x:Operand}{sz n:Nat}{xs:aVs}(hA:dF sz h (ev s x) n xs)(hS:dE P t e)(hk:K (.int .i64 n) false h):StillVC pr P (.call ⟨.builtin .len,⟨[x]⟩,⟨[t]⟩⟩) ty s h K:=by
 obtain⟨_,a,cap,hv,_,_⟩:=hA
 refine .pure' _ false (fun w=>?_) hk
 simp[execOp,resolve,invoke,builtin,hv,Builtin.len_,run_underlying hS,goInt]
theorem StillVC.aCq {t e:TypeId}{x:Operand}{a:Option Addr}{n c:Nat}(hx:ev s x=.slice a n c)(hS:dE P t e)(hk:K (.int .i64 n) false h):StillVC pr P (.call ⟨.builtin .len,⟨[x]⟩,⟨[t]⟩⟩) ty s h K:=by
 refine .pure' _ false (fun w=>?_) hk
 simp[execOp,resolve,invoke,builtin,hx,Builtin.len_,run_underlying hS,goInt]
theorem StillVC.aCK {α:Type}{t:TypeId}{x:Operand}{zero:aVs}{by_:Nat}{v:Value}{f:α→Value}{ys:List α}{y:α}{i:Nat}(hA:Arr h v (ys.map f))(hT:TyI P t false zero by_)(hx:ev s x=adr v i)(hy:ys[i]?=some y)(hk:K (f y) false h):StillVC false P (.load t x) ty s h K :=
 .loadA hA hT hx (by simp[hy]) hk
theorem StillVC.eqB {t t':TypeId}{x y:Operand}{a b:Bool}(hu:P.underlying t=some .bool)(hx:ev s x=.bool a)(hy:ev s y=.bool b)(hk:K (.bool (decide (a=b))) false h):StillVC pr P (.binOp .eql t x y t') ty s h K :=
 .pure' _ false (fun w=>by simp[execOp,hx,hy,eqGuard_at_bool,binOp,run_equal_bool w t a b hu,sK]) hk
theorem aBe {t e:TypeId}{a:Option Addr}{n c:Nat}(hS:dE P t e)(w:World):(Op.equal t (.slice a n c) (.slice none 0 0)).run P w=.ok a.isNone w:=by
 show(Op.equalIn (9999+1) t (.slice a n c) (.slice none 0 0)).run P w=_
 generalize 9999=d
 cases a<;>simp[Op.equalIn,run_underlying hS]
theorem StillVC.eqNil {t t' e:TypeId}{x y:Operand}{a:Option Addr}{n c:Nat}(hS:dE P t e)(hx:ev s x=.slice a n c)(hy:ev s y=.slice none 0 0)(hk:K (.bool a.isNone) false h):StillVC pr P (.binOp .eql t x y t') ty s h K :=
 .pure' _ false (fun w=>by simp[execOp,hx,hy,eqGuard_at_slice,binOp,aBe hS]) hk
theorem StillVC.neNil {t t' e:TypeId}{x y:Operand}{a:Option Addr}{n c:Nat}(hS:dE P t e)(hx:ev s x=.slice a n c)(hy:ev s y=.slice none 0 0)(hk:K (.bool (!a.isNone)) false h):StillVC pr P (.binOp .neq t x y t') ty s h K :=
 .pure' _ false (fun w=>by simp[execOp,hx,hy,eqGuard_at_slice,binOp,aBe hS]) hk
def scEq:Value→Value→Option Bool
 | .int k a,.int k' b=>bif Nat.beq (kn k) (kn k') then some (decide (a=b)) else none
 | .string ⟨⟨a⟩⟩,.string ⟨⟨b⟩⟩=>some (decide (a=b))
 | .bool a,.bool b=>some (decide (a=b))
 | _,_=>none
def pW (xs ys:aVs):List Nat→Option Bool
 | []=>some true
 | o::os =>
  match xs[o]?,ys[o]? with
  | some a,some b=>(match scEq a b,pW xs ys os with
   | some p,some q=>some (p&&q)
   | _,_=>none)
  | _,_=>none
def oL:Option TypeDesc→Nat
 | some .bool=>1
 | some (.int _)=>2
 | some .string=>3
 | _=>0
def jA:Value→Nat
 | .bool _=>1
 | .int _ _=>2
 | .string _=>3
 | _=>0
def vM (P:Program)(t:TypeId)(os:List (Nat×Nat)):Bool :=
 (match P.underlying t with
 | some (.struct fields)=>fields.toList.map (fun f=>(f.offset,oL (P.underlying f.type))) == os&&fields.toList.all (fun f=>f.name != "_"&&!lB ((P.underlying f.type).getD .bool) )
 | _=>false)&&!P.stoodInHeld t&&!P.eqGuardType P.depth t&&os.all (fun o=>o.2 != 0)
theorem mQ {d:Nat}{t:TypeId}{a b:Value}{r:Bool}(w:World)(hk:oL (P.underlying t)=jA a)(h0:jA a≠0)(he:scEq a b=some r):(Op.equalIn (d+1) t a b).run P w=.ok r w:=by
 unfold scEq at he;split at he
 ·rename_i k x k' y
  cases hu:P.underlying t with
  | none=>rw[hu]at hk;exact absurd hk.symm h0
  | some u =>
   rw[hu]at hk
   cases hb:Nat.beq (kn k) (kn k') with
   | false=>rw[hb]at he;cases he
   | true =>
    rw[hb]at he;simp only[cond_true,Option.some.injEq]at he;subst he
    have:=kn_inj hb;subst this
    cases u<;>simp[oL,jA]at hk
    rw[run_equalIn_int w d t k _ x y hu,sK]
 ·rename_i x y
  simp only[Option.some.injEq]at he;subst he
  cases hu:P.underlying t with
  | none=>rw[hu]at hk;exact absurd hk.symm h0
  | some u =>
   rw[hu]at hk
   cases u<;>simp[oL,jA]at hk
   rw[run_equalIn_string w d t _ _ hu,aA1,aA1,sK]
 ·rename_i x y
  simp only[Option.some.injEq]at he;subst he
  cases hu:P.underlying t with
  | none=>rw[hu]at hk;exact absurd hk.symm h0
  | some u =>
   rw[hu]at hk
   cases u<;>simp[oL,jA]at hk
   rw[run_equalIn_bool w d t x y hu,sK]
 ·cases he
theorem aBU {d:Nat}{xs ys:aVs}(w:World):∀(fs:List Field)(os:List (Nat×Nat))(r:Bool),fs.map (fun f=>(f.offset,oL (P.underlying f.type)))=os→(∀ f∈fs,f.name ≠ "_"∧∃ u,P.underlying f.type=some u∧lB u=false) →
  (∀ o∈os,o.2≠0)→(∀ o∈os,∀ a,xs[o.1]?=some a→jA a=o.2)→pW xs ys (os.map (·.1))=some r→(Op.eqFields (d+1) ⟨xs⟩ ⟨ys⟩ fs).run P w=.ok r w:=by
 intro fs
 induction fs with
 | nil=>intro os r h _ _ _ he;subst h;simp[pW]at he;subst he;simp[Op.eqFields]
 | cons f fs ih =>
  intro os r h hf ho hx he;subst h
  simp only[aDA,pW]at he
  split at he
  ·rename_i a b ha hb
   split at he
   ·rename_i p q hp hq
    simp only[Option.some.injEq]at he;subst he
    obtain⟨hn,u,hu,hagg⟩:=hf f (by simp)
    have hka:=hx (f.offset,oL (P.underlying f.type)) (by simp) a ha;have h0:=ho (f.offset,oL (P.underlying f.type)) (by simp);have hr:=mQ (P:=P) (d:=d) (t:=f.type) (a:=a) (b:=b) w hka.symm (by rw[hka];exact h0) hp;have hIs:(isAgg f.type).run P w=.ok false w:=by
     simp only[isAgg,Sem.run_bind,run_underlying hu,Result.andThen_ok]
     revert hagg;cases u<;>simp[lB]
    have ih':=ih _ q rfl (fun g hg=>hf g (by simp[hg])) (fun o hm=>ho o (by simp only[aDA,aDo];exact .inr hm)) (fun o hm=>hx o (by simp only[aDA,aDo];exact .inr hm)) hq;have ea:(part f.type (⟨xs⟩:Array Value) f.offset).run P w=.ok a w:=by simp[part,hIs,ha]
    have eb:(part f.type (⟨ys⟩:Array Value) f.offset).run P w=.ok b w:=by simp[part,hIs,hb]
    simp only[Op.eqFields,Sem.run_bind,Sem.run_ite]
    rw[if_pos hn,ea]
    simp only[Result.andThen_ok]
    rw[eb]
    simp only[Result.andThen_ok]
    rw[hr]
    simp only[Result.andThen_ok]
    cases p
    ·simp
    ·simpa using ih'
   ·cases he
  ·cases he
theorem run_eqS {t:TypeId}{xs ys:aVs}{os:List (Nat×Nat)}{r:Bool}(hp:vM P t os=true)
  (hk:os.all (fun o=>match xs[o.1]? with|some a=>jA a == o.2|none=>true)=true) (he:pW xs ys (os.map (·.1))=some r) (w:World) :
  P.eqGuardType P.depth t=false∧(Op.equalIn 10000 t (.agg ⟨xs⟩) (.agg ⟨ys⟩)).run P w=.ok r w:=by
 simp only[vM,aDb]at hp
 obtain⟨⟨⟨hp,h1⟩,h2⟩,h3⟩:=hp
 refine⟨by simpa using h2,?_⟩
 split at hp
 ·rename_i fields hf
  simp only[aDb,beq_iff_eq]at hp
  have hfo:P.fieldsOf t=fields:=by simp[Program.fieldsOf,hf]
  have hst:P.stoodInHeld t=false:=by simpa using h1
  have e0:=run_equalIn_struct (P:=P) w 9999 t ⟨xs⟩ ⟨ys⟩ (by rw[hfo];exact hf) hst
  rw[e0,hfo]
  refine aBU (d:=9998) w fields.toList os r hp.1 (fun f hm=>?_) (fun o hm=>?_) (fun o hm a ha=>?_) he
  ·have:=aDk.1 hp.2 f hm
   simp only[aDb,bne_iff_ne,ne_eq,aDv]at this
   refine⟨this.1,?_⟩
   have hz:=aDk.1 h3 (f.offset,oL (P.underlying f.type)) (by rw[← hp.1];exact List.mem_map.2 ⟨f,hm,rfl⟩);cases hu:P.underlying f.type with
   | none=>rw[hu]at hz;simp[oL]at hz
   | some u=>refine⟨u,rfl,?_⟩;have h5:=this.2;rw[hu]at h5;exact h5
  ·have:=aDk.1 h3 o hm;simpa using this
  ·have:=aDk.1 hk o hm;rw[ha]at this;simpa using this
 ·simp at hp
theorem StillVC.eqS {t t':TypeId}{x y:Operand}{xs ys:aVs}{os:List (Nat×Nat)}{r:Bool}(hp:vM P t os=true)(hx:ev s x=.agg ⟨xs⟩)(hy:ev s y=.agg ⟨ys⟩)
  (hk:os.all (fun o=>match xs[o.1]? with|some a=>jA a == o.2|none=>true)=true) (he:pW xs ys (os.map (·.1))=some r) (hK:K (.bool r) false h):StillVC pr P (.binOp .eql t x y t') ty s h K :=
 .pure' _ false (fun w=>by
  obtain⟨hg,hr⟩:=run_eqS (P:=P) hp hk he w
  simp only[execOp,hx,hy,Sem.run_bind,run_eqGuard_agg w .eql t x y _ _ hg,Result.andThen_ok,run_eql_struct,hr,Sem.run_pure]) hK
theorem StillVC.neS {t t':TypeId}{x y:Operand}{xs ys:aVs}{os:List (Nat×Nat)}{r:Bool}(hp:vM P t os=true)(hx:ev s x=.agg ⟨xs⟩)(hy:ev s y=.agg ⟨ys⟩)
  (hk:os.all (fun o=>match xs[o.1]? with|some a=>jA a == o.2|none=>true)=true) (he:pW xs ys (os.map (·.1))=some r) (hK:K (.bool (!r)) false h):StillVC pr P (.binOp .neq t x y t') ty s h K :=
 .pure' _ false (fun w=>by
  obtain⟨hg,hr⟩:=run_eqS (P:=P) hp hk he w
  simp only[execOp,hx,hy,Sem.run_bind,run_eqGuard_agg w .neq t x y _ _ hg,Result.andThen_ok,run_neq_struct,hr,Sem.run_pure]) hK
theorem StillVC.aCL {t:TypeId}{x:Operand}{lo hi:Option Operand}{cs:aBs}{i j:Int}(hS:P.underlying t=some .string)(hx:ev s x=.string ⟨⟨cs⟩⟩)
  (hl:match lo with|none=>i=0|some l=>∃ k,ev s l=.int k i) (hm:match hi with|none=>j=cs.length|some m=>∃ k,ev s m=.int k j) (h0:0≤i) (h1:i≤j) (h2:j≤cs.length)
  (hk:K (.string ⟨⟨(cs.take j.toNat).drop i.toNat⟩⟩) false h):StillVC pr P (.slice t x lo hi none) ty s h K:=by
 refine .pure' _ false (fun w=>?_) hk;have hz:(⟨⟨cs⟩⟩:ByteArray).size=cs.length:=rfl;have hex:∀ p q:Nat,(⟨⟨cs⟩⟩:ByteArray).extract p q=⟨⟨(cs.take q).drop p⟩⟩:=by
  intro p q
  have:((⟨⟨cs⟩⟩:ByteArray).extract p q).data=(⟨cs⟩:Array UInt8).extract p q:=by simp
  cases hh:(⟨⟨cs⟩⟩:ByteArray).extract p q with
  | mk d =>
   rw[hh]at this
   simp only at this
   rw[this]
   simp[List.extract_eq_take_drop,List.drop_take]
 have bound:∀(k:IntKind) (n:Int) (y:Nat) (c:BoundsCode),0≤n→n≤y→(Instr.sliceBound (.int k n) y c).run P w=.ok n.toNat w:=fun k n y c a b=>run_sliceBound w k n y c a b;have hjn:((j.toNat:Nat):Int)=j:=Int.toNat_of_nonneg (by omega);cases lo with
 | none =>
  simp only at hl;subst hl;cases hi with
  | none=>simp only at hm;subst hm;simp[execOp,hx,Instr.sliceAt,Instr.slice,run_underlying hS,Instr.sliceBounds]
  | some m=>obtain⟨k,hm⟩:=hm;simp[execOp,hx,hm,Instr.sliceAt,Instr.slice,run_underlying hS,Instr.sliceBounds,hz,hex,bound _ _ _ _ (by omega:0≤j) h2]
 | some l =>
  obtain⟨k,hl⟩:=hl
  cases hi with
  | none=>simp only at hm;subst hm;simp[execOp,hx,hl,Instr.sliceAt,Instr.slice,run_underlying hS,Instr.sliceBounds,hz,hex,bound _ _ _ _ h0 h1]
  | some m=>obtain⟨k',hm⟩:=hm;simp[execOp,hx,hl,hm,Instr.sliceAt,Instr.slice,run_underlying hS,Instr.sliceBounds,hz,hex,bound _ _ _ _ (by omega:0≤j) h2,bound _ _ _ _ h0 (show i≤(j.toNat:Nat) by omega)]
def ro (v:Value)(xs:aVs):Item where
 fp x:=v.ownBlock=some x
 sat h:=Arr h v xs
 loc h h' e:=fun⟨a,cap,hv,hl,r⟩=>⟨a,cap,hv,hl,r.imp id fun⟨b,o,ha,hc⟩=>⟨b,o,ha,fun i hi=>by
  rw[gM (e b (by rw[hv,ha];rfl))];exact hc i hi⟩⟩
theorem Own.roArr (o:Own h0 L h)(k:Nat) {v:Value}{xs:aVs}(hk:L[k]?=some (ro v xs)):Arr h v xs:=o.sat _ (aDa hk)
theorem Own.nilRo (o:Own h0 L h):Own h0 (L++[ro (.slice none 0 0) []]) h:=by
 refine o.callR ⟨.refl h,?_,?_,?_,aDN _ _⟩
 ·intro x hx;simp only[aDg]at hx;subst hx;exact Arr.nil h
 ·intro x hx b hb;simp only[aDg]at hx;subst hx;simp[ro,Value.ownBlock]at hb
 ·intro x hx b hb;simp only[aDg]at hx;subst hx;simp[ro,Value.ownBlock]at hb
theorem RunVC.strBytes {src dst e:TypeId}{x:Operand}{l:aBs}(o:Own h0 L h)(hs:P.underlying src=some .string)(hd:dE P dst e)(he:P.underlying e=some (.int .u8))(hx:ev s x=.string ⟨⟨l⟩⟩)
  (hK:∀ v h',qC L (ro v (bytes l)) fun L'=>Own h0 L' h'→K v false h'):RunVC P (.convert src dst x) ty s h K Q :=
 .of fun w hw=>by
  subst hw;generalize hc:(Question.appendCap l.length 0 e).cut (w.tape w.drawn (.appendCap l.length 0 e))=c;have hcl:l.length≤c:=by rw[← hc];simp[Question.cut]
  let cells:Array Value:=(bytes l).toArray++Array.replicate (c - l.length) (.int .u8 0)
  have hcs:cells.size=c:=by simp[cells];omega
  let w1:World:={ w with heap:=w.heap.push (.cells cells e),drawn:=w.drawn+1 }
  have hheap:(w1.freeze { block:=w.heap.size,off:=cells.size } 1).heap=w.heap.push (.cells cells e (cells.size,cells.size+1)):=by
   simp only[World.freeze,w1]
   apply Array.ext_getElem?
   intro i
   simp only[Nat.one_ne_zero,if_false,Array.getElem?_modify,Array.getElem?_push]
   by_cases hi:w.heap.size=i
   ·subst hi;simp
   ·simp[hi,Ne.symm hi]
  refine⟨.slice (some ⟨w.heap.size,0,none⟩) l.length c,false,w1.freeze { block:=w.heap.size,off:=cells.size } 1,?_,⟨rfl,rfl,rfl,by rw[hheap];simp⟩,?_⟩
  ·have hz:(⟨⟨l⟩⟩:ByteArray).size=l.length:=rfl
   have hsh:w1.shape? w.heap.size=some (e,cells.size):=by simp[World.shape?,w1]
   have hmap:((⟨⟨l⟩⟩:ByteArray).data.map fun b=>Value.int .u8 b.toNat)=(bytes l).toArray:=by simp
   simp only[execOp,convert,hx,Sem.run_bind,run_underlying hs,run_underlying hd,run_underlying he,Result.andThen_ok,Conv.stringToBytes,run_choose,Question.forced,hz,aDh,if_false,hc,hmap,newRow,run_newObj,markStringish,Sem.run_pure]
   have e1:({ w with drawn:=w.drawn+1,heap:=w.heap.push (.cells cells e) }:World)=w1:=rfl
   simp only[cells]at hsh e1 ⊢
   simp[e1,hsh]
  ·have:=hK (.slice (some ⟨w.heap.size,0,none⟩) l.length c) (w1.freeze { block:=w.heap.size,off:=cells.size } 1).heap
   rw[lR]at this
   refine this (o.callR ⟨?_,?_,?_,?_,aDN _ _⟩)
   ·rw[hheap];exact⟨by simp,fun b hb=>by rw[Array.getElem?_push,if_neg (by omega)]⟩
   ·intro x hx;simp only[aDg]at hx;subst hx
    refine⟨_,c,by simp,by simpa using hcl,.inr ⟨w.heap.size,0,rfl,fun i hi=>?_⟩⟩
    rw[aDs,hheap]
    simp only[List.length_map]at hi
    simp[aY,cells,Array.getElem?_append,hi]
   ·intro x hx b hb;simp only[aDg]at hx;subst hx;simp[ro,Value.ownBlock]at hb;omega
   ·intro x hx b hb;simp only[aDg]at hx;subst hx;rw[hheap];simp[ro,Value.ownBlock]at hb;simp;omega
theorem vH {fn:Func}{a t:TypeId}{u:Tmp}(hf:fn.results=#[.cell a t,.tmp u]) {zero:aVs}{by_:Nat}{b:Nat}{vs:aVs}{t':TypeId}(o:Own h0 L h)(k:Nat)(hk:L[k]?=some (box b vs t'))
  (hT:TyI P t true zero by_) (hl:vs.length=zero.length) (ha:sget s a=.pointer (some ⟨b,0,none⟩)) (w:World) (hw:w.heap=h) :
  (results fn s.toArray).run P w=.ok (.tuple ⟨[.agg ⟨vs⟩,sget s u]⟩) w:=by
 have hc:=hG (P:=P) (w:=w) (a:=⟨b,0,none⟩) vs 0 #[] (fun j hj=>by
  rw[aDs,Addr.add_lit,aDs,gW,hw];exact o.cellB k hk j)
 have e1:s.toArray.getD a undef=.pointer (some ⟨b,0,none⟩):=by rw[← ha,← dG];simp
 have e2:s.toArray.getD u undef=sget s u:=by rw[← dG];simp
 simp only[Array.getD_eq_getD_getElem?,aDr]at e1 e2
 simp[results,hf,e1,e2,asAddr,loadVar,hT.isAgg,hT.sizeOf,← hl,loadCells,hc]
theorem StillVC.aCy {fn:Func}{a t:TypeId}{u:Tmp}{R:Value→Heap→Prop}(hf:fn.results=#[.cell a t,.tmp u]) {zero:aVs}{by_:Nat}{b:Nat}{vs:aVs}{t':TypeId}(o:Own h0 L h)(k:Nat)(hk:L[k]?=some (box b vs t'))
  (hT:TyI P t true zero by_) (hl:vs.length=zero.length) (ha:sget s a=.pointer (some ⟨b,0,none⟩)) (hr:qR s u fun v=>R (.tuple ⟨[.agg ⟨vs⟩,v]⟩) h):RetVC P fn s h R where
 ex:=⟨_,fun w hw=>vH hf o k hk hT hl ha w hw,by simpa only[qQ] using hr⟩
def aAq (places:List (Nat×Nat))(cells:aVs):List (Nat×Value)→Option aVs
 | []=>some cells
 | (i,v)::rest =>
  match places[i]? with
  | none=>none
  | some (off,size)=>bif Nat.beq v.cells.size size&&Nat.ble (off+size) cells.length then aAq places (lset cells off v.cells.toList) rest else none
structure StructT (P:Program) (t:TypeId) (places:List (Nat×Nat)) (aggs:List Bool) (zero:aVs):Prop where
 ex:∃ fields:Array Field,P.underlying t=some (.struct fields)∧fields.size=places.length∧places.length=aggs.length ∧
  ∀(i:Nat) (f:Field),fields[i]?=some f→∃(p:Nat×Nat) (b:Bool) (d:TypeDesc) (inf:TypeInfo),places[i]?=some p∧aggs[i]?=some b∧f.offset=p.1∧P.info? f.type=some inf∧inf.size=p.2∧P.underlying f.type=some d∧lB d=b
 zero:∃(i:TypeInfo) (z:Value),P.info? t=some i∧i.zero=some z∧z.cells=zero.toArray
def structB (P:Program)(t:TypeId)(places:List (Nat×Nat))(aggs:List Bool):Bool :=
 match P.underlying t with
 | some (.struct fields)=>fields.toList.map (fun f=>(f.offset,(P.info? f.type).map (·.size),(P.underlying f.type).map lB)) == (places.zip aggs).map (fun x=>(x.1.1,some x.1.2,some x.2))&&places.length == aggs.length
 | _=>false
theorem StructT.mk' {t:TypeId}{places:List (Nat×Nat)}{aggs:List Bool}{zero:aVs}{agg:Bool}{by_:Nat}(hb:structB P t places aggs=true)(hT:TyI P t agg zero by_):StructT P t places aggs zero:=by
 refine⟨?_,by obtain⟨i,z,hi,_,hz,hc,_⟩:=hT.info;exact⟨i,z,hi,hz,hc⟩⟩
 unfold structB at hb;split at hb
 ·rename_i fields hf
  simp only[aDb,beq_iff_eq]at hb
  obtain⟨hb,hl⟩:=hb
  have hlen:fields.size=places.length:=by
   have:=congrArg List.length hb
   simp only[List.length_map,Array.length_toList,List.length_zip]at this
   omega
  refine⟨fields,hf,hlen,hl,fun i f hi=>?_⟩
  have hi':i<fields.size:=(Array.getElem?_eq_some_iff.1 hi).1;have h1:i<places.length:=by omega
  have h2:i<aggs.length:=by omega
  have:=congrArg (fun l=>l[i]?) hb
  simp only[aDK,Array.getElem?_toList,hi,oMS]at this
  have e1:places[i]?=some places[i]:=by simp[h1]
  have e2:aggs[i]?=some aggs[i]:=by simp[h2]
  have ez:(places.zip aggs)[i]?=some (places[i],aggs[i]):=List.getElem?_zip_eq_some.2 ⟨e1,e2⟩
  rw[show(Option.map (fun x=>(x.1.1,some x.1.2,some x.2)) (places.zip aggs)[i]?:Option _)=some (places[i].1,some places[i].2,some aggs[i]) by rw[ez];rfl]at this
  injection this with this
  injection this with o1 o2
  injection o2 with o2 o3
  obtain⟨inf,hinf,hsz⟩:=aDl.1 o2
  obtain⟨d,hd,ha⟩:=aDl.1 o3
  exact⟨places[i],aggs[i],d,inf,e1,e2,o1,hinf,hsz,hd,ha⟩
 ·cases hb
theorem aAn (vs:aVs)(off:Nat)(cs:aVs):∀ k,(vs.zipIdx k).foldl (fun(cs:Array Value)(x:Value×Nat)=>cs.setIfInBounds (off+x.2) x.1) cs.toArray=(lset cs (off+k) vs).toArray:=by
 induction vs generalizing cs with
 | nil=>intro k;rfl
 | cons v vs ih=>intro k;simp only[List.zipIdx_cons,List.foldl_cons,lset];rw[show cs.toArray.setIfInBounds (off+k) v=(cs.set (off+k) v).toArray by simp];exact ih _ (k+1)
theorem fill_eq (place:Nat→Option (Nat×Nat))(places:List (Nat×Nat))(hp:∀ i,place i=places[i]?):∀(parts:List (Nat×Value))(cells:aVs)(r:aVs),aAq places cells parts=some r→Instr.fill place cells.toArray parts=some r.toArray:=by
 intro parts
 induction parts with
 | nil=>intro cells r h;simp[aAq]at h;subst h;rfl
 | cons q parts ih =>
  obtain⟨i,v⟩:=q
  intro cells r h
  simp only[aAq]at h
  simp only[Instr.fill,hp]
  cases hi:places[i]? with
  | none=>simp[hi]at h
  | some p =>
   obtain⟨off,size⟩:=p
   simp only[hi]at h
   cases hb:(Nat.beq v.cells.size size&&Nat.ble (off+size) cells.length) with
   | false=>rw[hb]at h;cases h
   | true =>
    rw[hb]at h
    simp only[cond_true]at h
    simp only[aDb]at hb
    have h1:=aDR hb.1;have h2:=Nat.le_of_ble_eq_true hb.2
    have:=ih _ _ h
    simp only[List.size_toArray]
    rw[if_neg (by simp[h1];omega)]
    rw[← this]
    congr 1
    have:=aAn v.cells.toList off cells 0
    rw[aDZ]at this
    rw[← this,← Array.foldl_toList]
    simp
theorem wV {α β:Type}(F:α→Sem β):∀(fs:List α)(ps:List β),(∀(i:Nat)(f:α),fs[i]?=some f→∃ p,ps[i]?=some p∧∀ w,(F f).run P w=.ok p w)→fs.length=ps.length →
  ∀ w,(fs.mapM F).run P w=.ok ps w
 | [],[],_,_,w=>by simp
 | [],_::_,_,hl,_=>by simp at hl
 | _::_,[],_,hl,_=>by simp at hl
 | f::fs,p::ps,hp,hl,w=>by
  obtain⟨p',e1,e2⟩:=hp 0 f (by simp)
  simp only[lgZ,Option.some.injEq]at e1;subst e1
  have:=wV F fs ps (fun i g hg=>by have:=hp (i+1) g (by simpa using hg);simpa using this) (by simpa using hl) w
  simp only[List.mapM_cons,Sem.run_bind,e2,Result.andThen_ok,this,Sem.run_pure]
theorem StillVC.build {t:TypeId}{parts:List (Nat×Operand)}{places:List (Nat×Nat)}{aggs:List Bool}{zero vs:aVs}(hT:StructT P t places aggs zero)
  (hf:aAq places zero (parts.map fun p=>(p.1,ev s p.2))=some vs) (hk:K (.agg ⟨vs⟩) false h):StillVC pr P (.build t ⟨parts⟩) ty s h K:=by
 obtain⟨fields,hu,hsz,hl,hfs⟩:=hT.ex
 obtain⟨inf,z,hi,hz,hc⟩:=hT.zero
 refine .pure' _ false (fun w=>?_) hk;have hm:=wV (P:=P) (fun f:Field=>do pure (f.offset,← sizeOf f.type)) fields.toList places (fun i f hf=>by
  obtain⟨p,b,d,inf,a1,_,a3,a4,a5,_⟩:=hfs i f (by simpa using hf)
  exact⟨p,a1,fun w=>by simp[sizeOf,typeInfo,a4,a5,a3]⟩) (by simpa using hsz) w
 have hfill:=fill_eq (fun i=>places[i]?) places (fun i=>rfl) _ _ _ hf;have hmA:(fields.mapM (fun f:Field=>do pure (f.offset,← sizeOf f.type))).run P w=.ok places.toArray w:=by
  rw[Array.mapM_eq_mapM_toList,Sem.run_map,hm];rfl
 simp only[execOp,Instr.build,Sem.run_bind,run_underlying hu,Result.andThen_ok,zeroValue,typeInfo,run_program,hi,hz,Sem.run_pure,hc,hmA]
 simp[hfill]
theorem StillVC.fieldV {t:TypeId}{x:Operand}{f:Nat}{places:List (Nat×Nat)}{aggs:List Bool}{zero vs:aVs}{off sz:Nat}{v:Value}(hT:StructT P t places aggs zero)(hx:ev s x=.agg ⟨vs⟩)
  (hp:places[f]?=some (off,sz)) (ha:aggs[f]?=some false) (hv:vs[off]?=some v) (hk:K v false h):StillVC pr P (.field t x f) ty s h K:=by
 obtain⟨fields,hu,hsz,hl,hfs⟩:=hT.ex
 refine .pure' _ false (fun w=>?_) hk;have hlt:f<fields.size:=by rw[hsz];exact(aC9.1 hp).1
 obtain⟨p,b,d,inf,a1,a2,a3,a4,a5,a6,a7⟩:=hfs f fields[f] (by simp[hlt])
 rw[hp]at a1;injection a1 with a1;subst a1
 rw[ha]at a2;injection a2 with a2;subst a2
 have hagg:(isAgg fields[f].type).run P w=.ok false w:=by
  simp only[isAgg,Sem.run_bind,run_underlying a6,Result.andThen_ok]
  revert a7;cases d<;>simp[lB]
 simp[execOp,hx,Instr.field,run_underlying hu,hlt,part,hagg,asAgg,a3,hv]
theorem StillVC.fA {t:TypeId}{x:Operand}{f:Nat}{places:List (Nat×Nat)}{aggs:List Bool}{zero:aVs}{off sz b o:Nat}(hT:StructT P t places aggs zero)(hx:ev s x=.pointer (some ⟨b,o,none⟩))
  (hp:places[f]?=some (off,sz)) (hz:Nat.beq sz 0=false) (hk:K (.pointer (some ⟨b,o+off,none⟩)) false h):StillVC pr P (.fieldAddr t x f) ty s h K:=by
 obtain⟨fields,hu,hsz,hl,hfs⟩:=hT.ex
 refine .pure' _ false (fun w=>?_) hk;have hlt:f<fields.size:=by rw[hsz];exact(aC9.1 hp).1
 obtain⟨p,b,d,inf,a1,a2,a3,a4,a5,a6,a7⟩:=hfs f fields[f] (by simp[hlt])
 rw[hp]at a1;injection a1 with a1;subst a1
 have hsz0:sz≠0:=Nat.ne_of_beq_eq_false hz
 simp[execOp,hx,Instr.fieldAt,run_underlying hu,hlt,Instr.sureAddr,fieldPlace,sizeOf,typeInfo,a4,a5,hsz0,a3,Addr.add_lit]
def uK (cs:aVs)(off:Nat)(vs:aVs)(k:aVs→Prop):Prop :=
 match vs with
 | []=>k cs
 | v::vs=>nF cs off v fun cs=>uK cs (off+1) vs k
theorem zY (cs:aVs)(off:Nat)(vs:aVs)(k:aVs→Prop):uK cs off vs k=k (lset cs off vs):=by
 induction vs generalizing cs off with
 | nil=>rfl
 | cons v vs ih=>simp only[uK,fF,ih,lset]
theorem StillVC.aCl {t:TypeId}{a x:Operand}{zero:aVs}{by_:Nat}{agg:Bool}{b off:Nat}{cs:aVs}{t':TypeId}(o:Own h0 L h)(k:Nat)(hk:L[k]?=some (box b cs t'))(hT:TyI P t agg zero by_)
  (ha:ev s a=.pointer (some ⟨b,off,none⟩)) (hl:off+zero.length≤cs.length)
  (hK:evK s x fun v=>aAD v fun vs=>(vs.length=zero.length∧vs.all (fun u=>u.oneCell')=true)∧∀ h',uK cs off vs fun cs'=>qB L k (box b cs' t') fun L'=>Own h0 L' h'→K undef false h'):RunVC P (.store t a x) ty s h K Q :=
 StillVC.aCR o k hk hT ha hl (by simpa only[zY,vU] using hK)
def aCa (s:aVs)(places:List (Nat×Nat))(cells:aVs)(parts:List (Nat×Operand))(k:aVs→Prop):Prop :=
 match parts with
 | []=>k cells
 | (i,x)::rest=>evK s x fun v=>match places[i]? with
  | none=>False
  | some (off,size)=>aAD v fun vs=>(Nat.beq vs.length size&&Nat.ble (off+size) cells.length)=true∧uK cells off vs fun cells'=>aCa s places cells' rest k
theorem aBy (places:List (Nat×Nat)):∀(parts:List (Nat×Operand))(cells:aVs)(k:aVs→Prop),aCa s places cells parts k→∃ vs,aAq places cells (parts.map fun p=>(p.1,ev s p.2))=some vs∧k vs
 | [],cells,k,h=>⟨cells,rfl,h⟩
 | (i,x)::rest,cells,k,h=>by
  simp only[aCa,pV]at h
  simp only[aDA,aAq]
  cases hp:places[i]? with
  | none=>rw[hp]at h;exact h.elim
  | some p =>
   obtain⟨off,size⟩:=p
   rw[hp]at h
   simp only[sJ,zY]at h
   simp only[Array.length_toList]at h
   simp only[h.1,cond_true]
   exact aBy places rest _ k h.2
theorem StillVC.aCr {t:TypeId}{parts:List (Nat×Operand)}{places:List (Nat×Nat)}{aggs:List Bool}{zero:aVs}(hT:StructT P t places aggs zero)
  (hk:aCa s places zero parts fun vs=>K (.agg ⟨vs⟩) false h):StillVC pr P (.build t ⟨parts⟩) ty s h K:=by
 obtain⟨vs,hf,hk⟩:=aBy places parts zero _ hk
 exact .build hT hf hk
end
theorem Br.ttE {b:Bool}{A B:Prop}{c d:Code}(hb:b=true)(h:A):Br b A B c d:=⟨fun _=>h,fun e=>by rw[hb]at e;cases e⟩
theorem Br.ffE {b:Bool}{A B:Prop}{c d:Code}(hb:b=false)(h:B):Br b A B c d:=⟨fun e=>(by rw[hb]at e;cases e),fun _=>h⟩
end Go.Proofs.YtohlogbnpfofpaaGreatDoor
namespace Go.Proofs.YtohlogbnpfofpaaGreatDoor
open Go Go.ChangeShapes Go.WideShapes Go.ChangeAt Go.RowKit Go.WideElems
section
variable {H : Type} {enc : TypeId × Value → H} {P : Program} {W : World}
structure In {H:Type} (enc:TypeId×Value→H) (P:Program) (W:World) (base:Nat) (t:TypeId) (v:Value) (d:DataW H):Prop where
 ok:Value.okWide P W .any base t v
 trod:∃ p,DataW.Trod enc P W 0 (fun _=>true) true t v d p
 fits:(d.weights P t).all (·≤reachBytes)=true
def aBK {H:Type}(enc:TypeId×Value→H)(P:Program)(W:World)(base:Nat):List TypeId→aVs→List (DataW H)→Prop
 | [],[],[]=>True
 | t::ts,v::vs,d::ds=>In enc P W base t v d∧aBK enc P W base ts vs ds
 | _,_,_=>False
theorem aBK.nil {base:Nat}{vs:aVs}{ds:List (DataW H)}(h:aBK enc P W base [] vs ds):vs=[]:=by
 cases vs with
 | nil=>rfl
 | cons v vs=>exact(show False from h).elim
theorem aBK.cons {base:Nat}{t:TypeId}{ts:List TypeId}{vs:aVs}{ds:List (DataW H)}(h:aBK enc P W base (t::ts) vs ds) :
  ∃ v d vs' ds',vs=v::vs'∧ds=d::ds'∧In enc P W base t v d∧aBK enc P W base ts vs' ds':=by
 cases vs with
 | nil=>exact(show False from h).elim
 | cons v vs=>cases ds with
  | nil=>exact(show False from h).elim
  | cons d ds=>exact⟨v,d,vs,ds,rfl,rfl,h.1,h.2⟩
theorem aBK.mk' {base:Nat}:∀(ts:List TypeId)(vs:aVs)(ds:List (DataW H))(ps:List MemPlace),
  DataW.TrodAll enc P W 0 (fun _=>true) true ts vs ds ps→(∀(j:Nat) t v,ts[j]?=some t→vs[j]?=some v→Value.okWide P W .any base t v) →
  (DataW.weightsEach P ts ds).all (·≤reachBytes)=true→aBK enc P W base ts vs ds
 | [],[],[],_,_,_,_=>trivial
 | t::ts,v::vs,d::ds,ps,⟨p,q,h1,h2,_⟩,hv,hw=>by
  simp only[DataW.weightsEach,List.all_append,aDb]at hw
  exact⟨⟨hv 0 t v rfl rfl,⟨p,h1⟩,hw.1⟩,aBK.mk' ts vs ds q h2 (fun j t v ht hv'=>hv (j+1) t v ht hv') hw.2⟩
 | [],_::_,[],_,h,_,_=>(show False from h).elim
 | [],[],_::_,_,h,_,_=>(show False from h).elim
 | [],_::_,_::_,_,h,_,_=>(show False from h).elim
 | _::_,[],[],_,h,_,_=>(show False from h).elim
 | _::_,[],_::_,_,h,_,_=>(show False from h).elim
 | _::_,_::_,[],_,h,_,_=>(show False from h).elim
theorem wT:∀(ts:List TypeId)(vs:aVs)(ds:List (DataW H))(ps:List MemPlace),DataW.TrodAll enc P W 0 (fun _=>true) true ts vs ds ps→ds.length=ts.length
 | [],[],[],_,_=>rfl
 | _::ts,_::vs,_::ds,_,⟨_,q,_,h2,_⟩=>by simp[wT ts vs ds q h2]
 | [],_::_,[],_,h=>(show False from h).elim
 | [],[],_::_,_,h=>(show False from h).elim
 | [],_::_,_::_,_,h=>(show False from h).elim
 | _::_,[],[],_,h=>(show False from h).elim
 | _::_,[],_::_,_,h=>(show False from h).elim
 | _::_,_::_,[],_,h=>(show False from h).elim
theorem sS (hl:laidOutB P=true) {W':World}(hb:Below W.heap.size W W'):∀(ts:List TypeId)(vs:aVs)(ds:List (DataW H))(ps:List MemPlace),
  (ts.all fun t=>P.readableRec t&&decide (t<P.types.size))=true→DataW.TrodAll enc P W 0 (fun _=>true) true ts vs ds ps→(∀ x∈ps,x.block<W.heap.size) →
  DataW.TrodAll enc P W' 0 (fun b=>decide (b<W.heap.size)) true ts vs ds ps
 | [],[],[],_,_,h,_=>h
 | t::ts,v::vs,d::ds,ps,ht,⟨p,q,h1,h2,e⟩,hlt=>by
  subst e
  simp only[List.all_cons,aDb,decide_eq_true_eq]at ht
  exact⟨p,q,Below.trod hl ht.1.1 ht.1.2 h1 hb (fun x hx=>hlt x (by simp[hx])),sS hl hb ts vs ds q (by simpa using ht.2) h2 (fun x hx=>hlt x (by simp[hx])),rfl⟩
 | [],_::_,[],_,_,h,_=>(show False from h).elim
 | [],[],_::_,_,_,h,_=>(show False from h).elim
 | [],_::_,_::_,_,_,h,_=>(show False from h).elim
 | _::_,[],[],_,_,h,_=>(show False from h).elim
 | _::_,[],_::_,_,_,h,_=>(show False from h).elim
 | _::_,_::_,[],_,_,h,_=>(show False from h).elim
theorem In.int {base:Nat}{t:TypeId}{v:Value}{d:DataW H}{k:IntKind}(i:In enc P W base t v d)(ht:P.underlying t=some (.int k)):∃ n:Int,v=.int k n∧k.min≤n∧n≤k.max:=by
 obtain⟨p,h⟩:=i.trod
 obtain⟨n,rfl,rfl,_,wn⟩:=open_int ht i.ok h
 refine⟨n,rfl,?_⟩
 simpa[Lit.wf] using wn
theorem law_lifted {C:Checked}{os:Os}{f:FuncId}{fn:Func}{s:ChangeSpec}{X:World→Array Value→Prop}{tb:TypeId}(args0:Array Value)(fuel:Nat)(w0:World)
  (hX:∀(w w':World) (args:Array Value),w.heap=w'.heap→X w args→X w' args) (own:ownKnob C.prog.godebug=none) (started:os.Started) (noInit:C.prog.inits.idxOf? f=none) (hfn:C.prog.funcs[f]?=some fn)
  (hl:laidOutB C.prog=true) (hts:(fn.params.toList.all fun t=>C.prog.readableRec t&&decide (t<C.prog.types.size))=true) (hres:fn.resultTypes=#[tb]) (htb:C.prog.underlying tb=some .bool) (hvars:s.vars=[])
  (hs:∀ ds:List (DataW H),ds.length=fn.params.toList.length→s.fn H ds={ results:=[.lit (.bool true)],args:=ds })
  (hos:w0.os=os) (hsh:(w0.forCall (fun _ _=>0) ⟨#[],args0,[]⟩).Shaped C.prog)
  (hok:Input.okWideB C.prog (w0.forCall (fun _ _=>0) ⟨#[],args0,[]⟩) f ⟨#[],args0,[]⟩=true)
  (hpre:s.preB enc C.prog fn [] false (w0.forCall (fun _ _=>0) ⟨#[],args0,[]⟩).memory args0 fuel=true)
  (hsz:s.sizedB enc C.prog fn false (w0.forCall (fun _ _=>0) ⟨#[],args0,[]⟩).memory args0 fuel=true)
  (hx:X (w0.forCall (fun _ _=>0) ⟨#[],args0,[]⟩).memory args0)
  (hspec:∀(W:World) (base:Nat) (args:aVs) (ds:List (DataW H)),aBK enc C.prog W base fn.params.toList args ds→X W args.toArray→bZ C.prog f args W.heap fun r h'=>r=.bool true∧Own W.heap [] h') :
  ReturnsInHanded {} C os f .any (fun w args=>(s.pre enc C.prog fn [] false w args∧X w args)∧sizedMet enc C.prog fn (OpenSpec.ofChange s) false w args) (s.post enc C.prog fn false true false false):=by
 refine returnsInHanded_of_change_and (C:=C) (X:=X) hX own started noInit hfn (ChangeSpec.witness_shaped (enc:=enc) (C:=C) (os:=os) (X:=X) false w0 args0 fuel hos hsh hok hpre hsz hx) ?_;intro W base args ds gs before hval hW _ hw hL _;have hW':=hW
 obtain⟨p,q,hA,hV,rfl,hfz,hnd⟩:=hW
 rw[hvars]at hV
 obtain⟨rfl,rfl⟩:=trodVars_none hV
 have hvt:s.plain.varTypes C.prog=[]:=by simp[ChangeSpec.plain,DataSpec.varTypes,hvars]
 rw[hvt,aDf,aDf]at hw
 have hin:=aBK.mk' (base:=base) _ _ _ _ hA (fun j t v ht hv=>hval j t v (by simpa using ht) (by simpa using hv)) hw;have hlen:=wT _ _ _ _ hA;have hlt:∀ x∈p,x.block<W.heap.size:=fun x hx=>hW'.lt x (by simp[hx])
 refine((hspec W base args.toList ds hin (by simpa using hL)).2 W rfl).mono fun e W' ⟨hsame,he⟩=>?_
 cases e with
 | returned v =>
  obtain⟨rfl,ho⟩:=he
  have hB:Below W.heap.size W W':=⟨hsame.os,hsame.tape,hsame.output,ho.ext.size,ho.ext.old⟩
  refine⟨_,rfl,ds,[],p++[],[],p,[],hW',?_,?_,?_,hB.frame _,fun h=>by cases h⟩
  ·rw[aDf,hs ds hlen,hres]
   exact trodAll_mk1 (RowKit.shut_bool htb _)
  ·rw[aDf,hs ds hlen]
   exact sS hl hB _ _ _ _ hts hA hlt
  ·rw[aDf,hs ds hlen,hvars]
   rfl
 | panicked c=>exact he.elim
 | outgrown=>exact he.elim
end
end Go.Proofs.YtohlogbnpfofpaaGreatDoor
namespace Go.Proofs.YtohlogbnpfofpaaGreatDoor
open Go
def U8I (P:Program)(e:TypeId):Prop:=(P.info? e).map (fun i=>(i.zero,i.size,i.bytes))=some (some (.int .u8 0),1,1)
section
variable {P : Program} {ty : TypeId} {s : aVs} {h0 : Base} {h : Heap} {L : List Item} {K : KK} {Q : QQ} {pr : Bool}
theorem StillVC.bit {op:BinOp}{t t':TypeId}{x y:Operand}{k:IntKind}{a b:Int}(hop:(match op with|.and=>true|.or=>true|.xor=>true|.andNot=>true|_=>false)=true)(hx:ev s x=.int k a)(hy:ev s y=.int k b)
  (hk:K (.int k (bits op k a b)) false h):StillVC pr P (.binOp op t x y t') ty s h K :=
 .pure' _ false (fun w=>by
  cases op<;>simp at hop<;>simp[execOp,hx,hy,eqGuard,binOp_and,binOp_or,binOp_xor,binOp_andNot,intBits_and,intBits_or,intBits_xor,intBits_andNot]) hk
theorem xY (l:aBs):(l.map fun b=>(b.toNat:Int)).map (fun n=>UInt8.ofNat n.toNat)=l:=by
 induction l with
 | nil=>rfl
 | cons b l ih=>simp only[aDA,ih];congr 1;simp
theorem StillVC.aCO {src dst e:TypeId}{x:Operand}{l:aBs}(hA:Arr h (ev s x) (bytes l))(hs:dE P src e)(he:P.underlying e=some (.int .u8))(hd:P.underlying dst=some .string)(hk:K (.string ⟨⟨l⟩⟩) false h) :
  StillVC false P (.convert src dst x) ty s h K:=by
 obtain⟨a,cap,hv,hcl,r⟩:=hA
 rcases r with hn|⟨b,o,rfl,hc⟩
 ·have hl:l=[]:=by simpa using hn
  subst hl
  refine⟨.string ⟨⟨[]⟩⟩,false,[],by simp,by simp,fun w _=>?_,hk⟩
  cases a with
  | none=>simp[execOp,hv,run_convert_bytes_nil w src e hs he _ _ dst hd];rfl
  | some a =>
   simp only[execOp,hv,List.map_nil,aDq,Sem.run_bind]
   rw[run_convert_bytes_string w src dst e _ 0 cap hs he hd,run_bytesToString w _ 0 cap [] (by simp[loadCells,loadCellsFrom])]
   rfl
 ·refine⟨.string ⟨⟨l⟩⟩,false,(List.range l.length).map (fun j=>(⟨b,o+j,none⟩,(bytes l).getD j undef)),by simp,?_,fun w hw=>?_,hk⟩
  ·intro q hq
   obtain⟨j,hj,rfl⟩:=List.mem_map.1 hq
   have hj':j<l.length:=by simpa using hj
   simp only
   rw[hc j (by simpa using hj')];simp[hj']
  ·have hr:=run_convert_bytes_arg w src e hs he b o l.length cap (l.map fun b=>(b.toNat:Int)) (by simp) (fun i hi=>by
    have:=hw (⟨b,o+i,none⟩,(bytes l).getD i undef) (List.mem_map.2 ⟨i,by simpa using hi,rfl⟩)
    simp only at this
    rw[this]
    simp[hi]) dst hd
   have e2:strOfNums (l.map fun b=>(b.toNat:Int))=⟨⟨l⟩⟩:=by
    simp only[strOfNums]
    rw[xY]
   simp only[List.length_map]at hv
   simp[execOp,hv,hr,e2]
theorem RunVC.appendS {t u e:TypeId}{x y:Operand}{n:Nat}{xs:aVs}{l:aBs}(o:Own h0 L h)(k:Nat)(hk:L[k]?=some (row (ev s x) e 1 n xs))
  (hS:dE P t e) (hU:P.underlying u=some .string) (hE:U8I P e) (hy:ev s y=.string ⟨⟨l⟩⟩) (h63:n+l.length≤maxLen) (hb:n+l.length≤140737488355328)
  (hK:∀ v' h',qB L k (row v' e 1 (n+l.length) (xs++bytes l)) fun L'=>Own h0 L' h'→K v' false h'):RunVC P (.call ⟨.builtin .append,⟨[x,y]⟩,⟨[t,u]⟩⟩) ty s h K Q :=
 .of fun w hw=>by
  subst hw
  obtain⟨i,hi,hi2⟩:=aDl.1 hE
  simp only[Prod.mk.injEq]at hi2
  obtain⟨hz,hs1,hby⟩:=hi2
  have hrow:sO w.heap e 1 (ev s x) n xs:=o.sat _ (aDa hk);have hsz:(⟨⟨l⟩⟩:ByteArray).size=l.length:=rfl
  obtain⟨v',w',hr,hown,hg,hnil⟩:=Lib.run_append_own_string (P:=P) w 0 t u ty e i hS hU hi hz hs1 hby (ev s x) n xs (oV hrow) ⟨⟨l⟩⟩ (by rw[hsz];exact h63) (by rw[hsz];exact hb) (Nat.zero_le _)
  rw[hsz]at hown
  have hcells:Lib.strCells ⟨⟨l⟩⟩=bytes l:=by simp[Lib.strCells]
  rw[hcells]at hown
  have hfp:∀ b,v'.ownBlock=some b→(ev s x).ownBlock=some b∨w.heap.size≤b:=by
   intro b' hb'
   rcases hrow.2 with ⟨hx,hn0⟩|⟨g,cap,cur,hx,hgg,hnc,hcm,hcs,ht⟩
   ·subst hn0
    by_cases hl:l.length=0
    ·have:=hnil.2 ⟨hx,by rw[hsz];exact hl⟩
     rw[this]at hb';simp[Value.ownBlock]at hb'
    ·have hr2:=run_append_nil_string (P:=P) w t u ty e i _ hS hU hi hz ⟨⟨l⟩⟩ (by rw[hsz];omega) (by rw[hsz];simp only[maxLen]at h63;omega) (by rw[hsz,hby];omega)
     rw[hx,hr2]at hr
     injection hr with e1 e2
     subst e1
     simp[Value.ownBlock]at hb'
     right;omega
   ·by_cases hroom:n+l.length≤cap
    ·have hr2:=Lib.run_append_room_string (P:=P) w t u ty e i hS hU hi hs1 g n cap cur hgg ⟨⟨l⟩⟩ (by rw[hsz];exact hroom) (by rw[hsz,hcs];omega)
     rw[hx,hr2]at hr
     injection hr with e1 e2
     subst e1
     left;rw[hx];exact hb'
    ·have holds:∀ j u,xs[j]?=some u→w.cell? ((⟨g,0,none⟩:Addr).add j)=some u:=World.ownsRow.cells (oV hrow) (by rw[hx];rfl)
     have hr2:=Lib.run_append_grow_string (P:=P) w t u ty e i _ hS hU hi hz ⟨g,0,none⟩ n cap xs (by rw[hs1];exact hrow.1) holds ⟨⟨l⟩⟩ (by rw[hsz];omega) (by rw[hsz];simp only[maxLen]at h63;omega) (by rw[hsz,hby];exact growslice_fits (by omega) (by omega))
     rw[hx,hr2]at hr
     injection hr with e1 e2
     subst e1
     simp[Value.ownBlock]at hb'
     right;omega
  refine⟨v',false,w',by simp[execOp,resolve,invoke,builtin,hy,hr],⟨hg.os,hg.tape,hg.output,hg.size⟩,?_⟩
  have:=hK v' w'.heap
  rw[rG]at this
  exact this (o.set hk hg.size (fun b hb hnb=>hg.block b hb (fun e=>hnb e.symm)) (aBk hown) hfp (fun b hb=>(hown.lt b hb).2))
theorem StillVC.aCt {t e:TypeId}{by_:Nat}{x i:Operand}{n:Nat}{xs zero:aVs}{k:IntKind}{m:Int}{agg:Bool}(hS:dE P t e)(hE:TyI P e agg zero by_)(hA:dF zero.length h (ev s x) n xs)
  (hi:ev s i=.int k m) (h1:0≤m) (h2:m<n) (hk:evK s x fun v=>K (adr v (m.toNat*zero.length)) false h):StillVC pr P (.indexAddr t x i) ty s h K:=by
 rw[pV]at hk
 obtain⟨_,a,cap,hv,_,r⟩:=hA
 rcases r with rfl|⟨b,o,rfl,hc⟩
 ·omega
 refine .pure' _ false (fun w=>?_) hk;have he:P.elem t=e:=by unfold dE at hS;simp[Program.elem,hS]
 have hS':P.underlying t=some (.slice (P.elem t)):=by rw[he];exact hS
 simp[execOp,hi,hv,run_indexAt_slice w t _ _ _ _ _ hS',h1,h2,he,hE.sizeOf,adr,Addr.add_lit]
theorem StillVC.loadAN {t:TypeId}{x:Operand}{zero:aVs}{by_ sz n off:Nat}{v:Value}{xs vs:aVs}(hA:dF sz h v n xs)(hT:TyI P t true zero by_)(hx:ev s x=adr v off)
  (hv:(xs.drop off).take zero.length=vs) (hl:vs.length=zero.length) (hz:0<zero.length) (hk:K (.agg ⟨vs⟩) false h):StillVC false P (.load t x) ty s h K:=by
 obtain⟨hxl,a,cap,rfl,_,r⟩:=hA
 have hlen:off+zero.length≤xs.length:=by
  have:=congrArg List.length hv
  rw[hl]at this;simp only[aDI,aDJ]at this;omega
 rcases r with rfl|⟨b,o,rfl,hc⟩
 ·rw[Nat.zero_mul]at hxl;omega
 ·refine .loadN (a:=⟨b,o+off,none⟩) hT (by simpa[adr] using hx) hl (fun j hj=>?_) hk
  rw[Addr.add_lit,Nat.add_assoc,hc (off+j) (by omega)]
  conv=>rhs;rw[← hv]
  rw[aDO,if_pos (by omega),aDG]
theorem StillVC.loadA1 {t:TypeId}{x:Operand}{zero:aVs}{by_ sz n i:Nat}{v u:Value}{xs:aVs}(hA:dF sz h v n xs)(hT:TyI P t false zero by_)(hx:ev s x=adr v i)(hu:xs[i]?=some u)(hk:K u false h) :
  StillVC false P (.load t x) ty s h K:=by
 obtain⟨hxl,a,cap,rfl,_,r⟩:=hA
 obtain⟨hi,_⟩:=aC9.1 hu
 rcases r with rfl|⟨b,o,rfl,hc⟩
 ·rw[Nat.zero_mul]at hxl;omega
 ·exact .load1 hT (by simpa[adr] using hx) (by rw[hc i hi];exact hu) hk
theorem StillVC.aCB {t:TypeId}{x:Operand}{f:Nat}{places:List (Nat×Nat)}{aggs:List Bool}{zero xs:aVs}{off sz sz' n i:Nat}{v:Value}(hA:dF sz' h v n xs)(hn:0<n)(hT:StructT P t places aggs zero)(hx:ev s x=adr v i)
  (hp:places[f]?=some (off,sz)) (hz:Nat.beq sz 0=false) (hk:K (adr v (i+off)) false h):StillVC pr P (.fieldAddr t x f) ty s h K:=by
 obtain⟨hxl,a,cap,rfl,_,r⟩:=hA
 rcases r with rfl|⟨b,o,rfl,hc⟩
 ·omega
 ·refine .fA hT (by simpa[adr] using hx) hp hz ?_
  rw[Nat.add_assoc];exact hk
theorem rM {α:Type}{f:α→aVs}{sz:Nat}(hf:∀ y,(f y).length=sz)(ys:List α):(ys.flatMap f).length=ys.length*sz:=by
 induction ys with
 | nil=>simp
 | cons y ys ih=>simp only[aDm,aDd,hf,ih,aDe,Nat.add_mul,Nat.one_mul];omega
theorem wD {α:Type}{f:α→aVs}{sz:Nat}(hf:∀ y,(f y).length=sz):∀(ys:List α)(i:Nat),(ys.flatMap f).drop (i*sz)=(ys.drop i).flatMap f
 | [],i=>by simp
 | y::ys,0=>by simp
 | y::ys,i+1=>by
  have:(i+1)*sz=sz+i*sz:=by rw[Nat.add_mul,Nat.one_mul,Nat.add_comm]
  rw[this,aDm,← aDE]
  have e:(f y++ys.flatMap f).drop sz=ys.flatMap f:=by
   rw[List.drop_left' (hf y)]
  rw[e,wD hf ys i]
  rfl
theorem flat_get {α:Type}{f:α→aVs}{sz i:Nat}{ys:List α}{y:α}(hf:∀ y,(f y).length=sz)(hy:ys[i]?=some y):((ys.flatMap f).drop (i*sz)).take sz=f y:=by
 obtain⟨hi,he⟩:=aC9.1 hy
 rw[wD hf,aDi hi,he,aDm,List.take_left' (hf y)]
theorem aBv {α:Type}{f:α→aVs}{sz i off:Nat}{ys:List α}{y:α}{u:Value}(hf:∀ y,(f y).length=sz)(hy:ys[i]?=some y)(hu:(f y)[off]?=some u):(ys.flatMap f)[i*sz+off]?=some u:=by
 have:=flat_get hf hy
 obtain⟨ho,_⟩:=aC9.1 hu
 rw[hf]at ho
 rw[← this,aDO,if_pos ho,aDG]at hu
 exact hu
theorem StillVC.loadF {α:Type}{t:TypeId}{x:Operand}{zero:aVs}{by_ n i:Nat}{v:Value}{f:α→aVs}{ys:List α}{y:α}(hA:dF zero.length h v n (ys.flatMap f))(hT:TyI P t true zero by_)(hf:∀ y,(f y).length=zero.length)(hz:0<zero.length)
  (hx:ev s x=adr v (i*zero.length)) (hy:ys[i]?=some y) (hk:K (.agg ⟨f y⟩) false h):StillVC false P (.load t x) ty s h K :=
 .loadAN hA hT hx (flat_get hf hy) (hf y) hz hk
theorem StillVC.aCH {α:Type}{t:TypeId}{x:Operand}{zero:aVs}{by_ n i off sz:Nat}{v u:Value}{f:α→aVs}{ys:List α}{y:α}(hA:dF sz h v n (ys.flatMap f))(hT:TyI P t false zero by_)(hf:∀ y,(f y).length=sz)
  (hx:ev s x=adr v (i*sz+off)) (hy:ys[i]?=some y) (hu:(f y)[off]?=some u) (hk:K u false h):StillVC false P (.load t x) ty s h K :=
 .loadA1 hA hT hx (aBv hf hy hu) hk
def lappV (a b:aVs)(k:aVs→Prop):Prop :=
 match a with
 | []=>k b
 | x::a=>lappV a b fun r=>k (x::r)
theorem lappV_eq (a b:aVs)(k:aVs→Prop):lappV a b k=k (a++b):=by
 induction a generalizing k with
 | nil=>rfl
 | cons x a ih=>simp[lappV,ih]
def uX (s:aVs)(sz:Nat)(parts:List (Nat×Operand))(k:aVs→Prop):Prop :=
 match parts with
 | []=>k []
 | (_,x)::rest=>evK s x fun v=>aAD v fun vs=>(Nat.beq vs.length sz&&vs.all fun u=>u.oneCell')=true∧uX s sz rest fun r=>lappV vs r k
theorem aAA {s:aVs}{sz:Nat}:∀(parts:List (Nat×Operand))(k:aVs→Prop),uX s sz parts k→(∀ p∈parts,(ev s p.2).cells.toList.length=sz)∧k (parts.flatMap fun p=>(ev s p.2).cells.toList)
 | [],k,h=>⟨by simp,by simpa[uX] using h⟩
 | (i,x)::rest,k,h=>by
  simp only[uX,pV,sJ]at h
  obtain⟨h1,h2⟩:=h
  obtain⟨h3,h4⟩:=aAA rest _ h2
  rw[lappV_eq]at h4
  simp only[aDb]at h1
  refine⟨fun p hp=>?_,by simpa using h4⟩
  rcases aDo.1 hp with rfl|hp
  ·exact aDR h1.1
  ·exact h3 p hp
theorem yF (vs:aVs):∀(cs:aVs)(off:Nat),off+vs.length≤cs.length→lset cs off vs=cs.take off++vs++cs.drop (off+vs.length):=by
 induction vs with
 | nil=>intro cs off h;simp[lset]
 | cons v vs ih =>
  intro cs off h
  simp only[aDe]at h ⊢
  rw[lset,ih _ _ (by simp;omega)]
  have h1:(cs.set off v).take (off+1)=cs.take off++[v]:=by
   rw[aDQ,List.take_set,List.getElem?_set_self (by omega)]
   rw[List.set_eq_of_length_le (by simp;omega)]
   rfl
  have h2:(cs.set off v).drop (off+1+vs.length)=cs.drop (off+(vs.length+1)):=by
   rw[List.drop_set_of_lt (by omega)]
   congr 1;omega
  rw[h1,h2];simp
theorem aBx (sz:Nat):∀(us:aVs)(k:Nat)(cs:aVs),(∀ u∈us,u.cells.toList.length=sz)→(k+us.length)*sz≤cs.length →
  Instr.fill (fun i=>some (i*sz,sz)) cs.toArray ((us.zipIdx k).map fun p=>(p.2,p.1))=some (cs.take (k*sz)++us.flatMap (fun u=>u.cells.toList)++cs.drop ((k+us.length)*sz)).toArray:=by
 intro us
 induction us with
 | nil=>intro k cs _ _;simp[Instr.fill]
 | cons u us ih =>
  intro k cs h1 hl;have hu:=h1 u (by simp);have hsz:u.cells.size=sz:=by simpa using hu
  have e1:(k+(u::us).length)*sz=k*sz+sz+us.length*sz:=by simp[Nat.add_mul];omega
  rw[e1]at hl
  simp only[List.zipIdx_cons,aDA,Instr.fill,hsz,List.size_toArray]
  rw[if_neg (by simp;omega)]
  have hf:=aAn u.cells.toList (k*sz) cs 0
  rw[aDZ]at hf
  have e2:(u.cells.zipIdx.foldl (fun cs (x:Value×Nat)=>match x with|(c,j)=>cs.setIfInBounds (k*sz+j) c) cs.toArray)=(lset cs (k*sz) u.cells.toList).toArray:=by
   rw[← hf,← Array.foldl_toList]
   simp
  rw[e2]
  have hl2:(lset cs (k*sz) u.cells.toList).length=cs.length:=rF _ _ _
  rw[ih (k+1) _ (fun v hv=>h1 v (by simp[hv])) (by rw[hl2,Nat.add_mul,Nat.add_mul,Nat.one_mul];omega)]
  rw[yF _ _ _ (by rw[hu];omega),hu,e1]
  congr 2
  have e3:(k+1)*sz=k*sz+sz:=by rw[Nat.add_mul,Nat.one_mul]
  have e4:(k+1+us.length)*sz=k*sz+sz+us.length*sz:=by simp[Nat.add_mul]
  rw[e3,e4]
  have t1:(cs.take (k*sz)++u.cells.toList++cs.drop (k*sz+sz)).take (k*sz+sz)=cs.take (k*sz)++u.cells.toList:=by
   rw[List.take_left' (by simp only[aDd,aDI,hu];omega)]
  have t2:(cs.take (k*sz)++u.cells.toList++cs.drop (k*sz+sz)).drop (k*sz+sz+us.length*sz)=cs.drop (k*sz+sz+us.length*sz):=by
   rw[← aDE,List.drop_left' (by simp only[aDd,aDI,hu];omega),aDE]
  rw[t1,t2]
  simp
theorem StillVC.aCF {t e:TypeId}{n:Nat}{parts:List (Nat×Operand)}{zero:aVs}{agg:Bool}{by_:Nat}(o:Own h0 L h)(hS:dE P t e)(hE:TyI P e agg zero by_)
  (hp:parts.map (·.1)=List.range' 0 parts.length) (hn:parts.length=n) (hsm:n*zero.length≤16777216)
  (hK:uX s zero.length parts fun vs=>∀ b h',qC L (box b vs e) fun L'=>Own h0 L' h'→K (.slice (some ⟨b,0,none⟩) n n) false h'):RunVC P (.buildSlice t n ⟨parts⟩) ty s h K Q :=
 .of fun w hw=>by
  subst hw
  obtain⟨i,z',hi,hs,hz,hzc,hb⟩:=hE.info
  obtain⟨hall,hK⟩:=aAA _ _ hK
  have hzr:=lU parts s 0 hp;have hflat:parts.flatMap (fun p=>(ev s p.2).cells.toList)=((parts.map (·.2)).map (ev s)).flatMap fun u=>u.cells.toList:=by simp[List.flatMap_map]
  rw[hflat]at hK
  have hus:∀ u∈(parts.map (·.2)).map (ev s),u.cells.toList.length=zero.length:=by
   intro u hu
   simp only[List.map_map,List.mem_map,Function.comp_apply]at hu
   obtain⟨p,hp,rfl⟩:=hu
   exact hall p hp
  have hul:((parts.map (·.2)).map (ev s)).length=n:=by simpa using hn
  generalize (parts.map (·.2)).map (ev s)=us at *
  have hparts:((⟨parts⟩:Array (Nat×Operand)).map fun x=>match x with|(i,x)=>(i,ev s x)).toList=us.zipIdx.map (fun p=>(p.2,p.1)):=by
   rw[← hzr];simp
  have hflen:(us.flatMap fun u=>u.cells.toList).length=n*zero.length:=by
   rw[← hul]
   clear hK hzr hparts hul hflat
   induction us with
   | nil=>simp
   | cons u us ih =>
    simp only[aDm,aDd,hus u (by simp),ih (fun v hv=>hus v (by simp[hv])),aDe,Nat.add_mul,Nat.one_mul]
    omega
  have hle:¬ (16777216<n*zero.length):=by omega
  have hfill:∀ cs:aVs,cs.length=n*zero.length→Instr.fill (fun i=>some (i*zero.length,zero.length)) cs.toArray (us.zipIdx.map fun p=>(p.2,p.1))=some (us.flatMap fun u=>u.cells.toList).toArray:=by
   intro cs hcs
   have:=aBx zero.length us 0 cs hus (by rw[hcs,aDs,hul];exact aDj _)
   rw[this]
   congr 2
   rw[Nat.zero_mul,List.take_zero,lnA,aDs,hul,aDu (by omega),aDf]
  refine⟨.slice (some ⟨w.heap.size,0,none⟩) n n,false,{ w with heap:=w.heap.push (.cells (us.flatMap fun u=>u.cells.toList).toArray e) },?_,⟨rfl,rfl,rfl,by simp⟩,?_⟩
  ·have hf:∀ z0:Array Value,Instr.fill (fun i=>some (i*zero.length,zero.length)) ((Array.range (n*zero.length)).map (fun j=>z0[j % z0.size]!)) (us.zipIdx.map fun p=>(p.2,p.1))=some (us.flatMap fun u=>u.cells.toList).toArray:=fun z0=>by
    have:=hfill ((Array.range (n*zero.length)).map (fun j=>z0[j % z0.size]!)).toList (by simp)
    simpa only[Array.toArray_toList] using this
   have key:(Instr.buildSlice t n ((⟨parts⟩:Array (Nat×Operand)).map fun x=>match x with|(i,x)=>(i,ev s x))).run P w=.ok (.slice (some ⟨w.heap.size,0,none⟩) n n) { w with heap:=w.heap.push (.cells (us.flatMap fun u=>u.cells.toList).toArray e) }:=by
    unfold Instr.buildSlice
    simp only[Sem.run_bind,run_underlying hS,Result.andThen_ok,sizeOf,typeInfo,run_program,hi,Sem.run_pure,hs,hparts]
    rw[if_neg hle]
    by_cases h0:n*zero.length=0
    ·simp only[h0,if_true,Sem.run_pure,Result.andThen_ok,Sem.run_bind]
     have:=hf #[]
     rw[h0]at this
     rw[this]
     simp[newRow]
    ·simp only[if_neg h0,Sem.run_bind,zeroValue,typeInfo,run_program,hi,hz,Sem.run_pure,Result.andThen_ok]
     rw[hf]
     simp[newRow]
   simp only[List.map_toArray]at key
   simp[execOp,key]
  ·have:=hK w.heap.size (w.heap.push (.cells (us.flatMap fun u=>u.cells.toList).toArray e))
   rw[lR]at this
   exact this (by have:=o.push (c:=(us.flatMap fun u=>u.cells.toList).toArray) (t:=e);simpa using this)
theorem Own.boxArrN (o:Own h0 L h)(k:Nat) {b:Nat}{cs:aVs}{t:TypeId}(hk:L[k]?=some (box b cs t)) {sz n c:Nat}(hn:cs.length=n*sz)(hc:n≤c):dF sz h (.slice (some ⟨b,0,none⟩) n c) n cs :=
 ⟨hn,_,_,rfl,hc,.inr ⟨b,0,rfl,fun i _=>by rw[aDs];exact o.cellB k hk i⟩⟩
end
end Go.Proofs.YtohlogbnpfofpaaGreatDoor
namespace Go.Proofs.YtohlogbnpfofpaaGreatDoor
open Go Go.ChangeShapes Go.WideShapes Go.ChangeAt Go.RowKit Go.WideElems Go.Joins Go.Deep
section
variable {H : Type} {enc : TypeId × Value → H} {P : Program} {W : World}
theorem aAX {α:Type}{f:α→aVs}{sz:Nat}(hf:∀ y,(f y).length=sz)(hsz:0<sz) {a:Addr}{len cap:Nat}{xs:List α}(hlen:xs.length=len)(hl:len≤cap)
  (hc:∀ j y,xs[j]?=some y→∀ r u,(f y)[r]?=some u→W.cell? ((a.add (j*sz)).add r)=some u):dF sz W.heap (.slice (some a) len cap) len (xs.flatMap f):=by
 refine⟨by rw[rM hf,hlen],some a,cap,rfl,hl,?_⟩
 cases xs with
 | nil=>exact .inl hlen.symm
 | cons x xs =>
  right
  have h00:=hc 0 x rfl 0 ((f x)[0]'(by rw[hf];exact hsz)) (by simp[hf,hsz])
  obtain⟨b,o,sp⟩:=a
  cases sp with
  | none =>
   refine⟨b,o,rfl,fun i hi=>?_⟩
   rw[rM hf]at hi
   have hd:i / sz<(x::xs).length:=Nat.div_lt_of_lt_mul (by rw[Nat.mul_comm];exact hi)
   obtain⟨y,hy⟩:=getx hd
   have hr:i % sz<(f y).length:=by rw[hf];exact Nat.mod_lt _ hsz
   obtain⟨u,hu⟩:=getx hr
   have e:i / sz*sz+i % sz=i:=by rw[Nat.mul_comm];exact Nat.div_add_mod i sz
   have h1:=hc _ y hy _ u hu;have h2:=aBv (f:=f) hf hy hu
   rw[e]at h2
   rw[h2,← h1,add_add,e,Addr.add_lit]
   rfl
  | some q =>
   exfalso
   have:((Addr.add ⟨b,o,some q⟩ (0*sz)).add 0)=⟨b,o,some q⟩:=by simp[Addr.add]
   rw[this,gW]at h00
   simp only[aY]at h00
   split at h00
   ·simp at h00
   ·simp at h00
end
end Go.Proofs.YtohlogbnpfofpaaGreatDoor
namespace Go.Proofs.YtohlogbnpfofpaaGreatDoor
open Go StillVC
set_option maxRecDepth 100000
theorem mixed:Tryz.prog.follows .mixedOrders=true:=by kernel_rfl
theorem aS:TyI Tryz.prog 3 false [.int .i64 0] 8:=.mk' (z:=.int .i64 0) Tryz.underlying3 rfl (by kernel_rfl) rfl
theorem ty4:TyI Tryz.prog 4 false [.bool false] 1:=.mk' (z:=.bool false) Tryz.underlying4 rfl (by kernel_rfl) rfl
theorem bool4:Tryz.prog.underlying 4=some .bool:=Tryz.underlying4
theorem ty5:TyI Tryz.prog 5 false [.int .u8 0] 1:=.mk' (z:=.int .u8 0) Tryz.underlying5 rfl (by kernel_rfl) rfl
theorem int5:Tryz.prog.underlying 5=some (.int .u8):=Tryz.underlying5
theorem aL:TyI Tryz.prog 9 false [.string ⟨⟨[]⟩⟩] 16:=.mk' (z:=.string ⟨⟨[]⟩⟩) Tryz.underlying9 rfl (by kernel_rfl) rfl
theorem cT:Tryz.prog.underlying 9=some .string:=Tryz.underlying9
theorem ty21:TyI Tryz.prog 21 false [.int .i32 0] 4:=.mk' (z:=.int .i32 0) Tryz.underlying21 rfl (by kernel_rfl) rfl
theorem oU:TyI Tryz.prog 22 false [.slice none 0 0] 24:=.mk' (z:=.slice none 0 0) Tryz.underlying22 rfl (by kernel_rfl) rfl
theorem kL:dE Tryz.prog 22 44:=Tryz.underlying22
theorem oT:TyI Tryz.prog 24 true [.slice none 0 0] 24:=.mk' (z:=.agg ⟨[.slice none 0 0]⟩) Tryz.underlying24 rfl (by kernel_rfl) rfl
theorem iH:TyI Tryz.prog 27 false [.int .i64 0] 8:=.mk' (z:=.int .i64 0) Tryz.underlying27 rfl (by kernel_rfl) rfl
theorem lY:TyI Tryz.prog 34 false [.slice none 0 0] 24:=.mk' (z:=.slice none 0 0) Tryz.underlying34 rfl (by kernel_rfl) rfl
theorem kK:dE Tryz.prog 34 132:=Tryz.underlying34
theorem eX:TyI Tryz.prog 35 false [.slice none 0 0] 24:=.mk' (z:=.slice none 0 0) Tryz.underlying35 rfl (by kernel_rfl) rfl
theorem aK:dE Tryz.prog 35 9:=Tryz.underlying35
theorem nU:TyI Tryz.prog 36 false [.slice none 0 0] 24:=.mk' (z:=.slice none 0 0) Tryz.underlying36 rfl (by kernel_rfl) rfl
theorem nW:dE Tryz.prog 36 136:=Tryz.underlying36
theorem oJ:TyI Tryz.prog 37 false [.slice none 0 0] 24:=.mk' (z:=.slice none 0 0) Tryz.underlying37 rfl (by kernel_rfl) rfl
theorem nH:dE Tryz.prog 37 95:=Tryz.underlying37
theorem pJ:TyI Tryz.prog 38 false [.slice none 0 0] 24:=.mk' (z:=.slice none 0 0) Tryz.underlying38 rfl (by kernel_rfl) rfl
theorem nV:dE Tryz.prog 38 98:=Tryz.underlying38
theorem mO:TyI Tryz.prog 39 false [.slice none 0 0] 24:=.mk' (z:=.slice none 0 0) Tryz.underlying39 rfl (by kernel_rfl) rfl
theorem jD:dE Tryz.prog 39 142:=Tryz.underlying39
theorem cQ:TyI Tryz.prog 40 false [.slice none 0 0] 24:=.mk' (z:=.slice none 0 0) Tryz.underlying40 rfl (by kernel_rfl) rfl
theorem bV:dE Tryz.prog 40 42:=Tryz.underlying40
theorem aT:TyI Tryz.prog 42 true [.int .i64 0,.string ⟨⟨[]⟩⟩,.slice none 0 0,.slice none 0 0,.slice none 0 0,.string ⟨⟨[]⟩⟩,.string ⟨⟨[]⟩⟩,.int .i64 0,.int .i64 0] 144:=.mk' (z:=.agg ⟨[.int .i64 0,.string ⟨⟨[]⟩⟩,.slice none 0 0,.slice none 0 0,.slice none 0 0,.string ⟨⟨[]⟩⟩,.string ⟨⟨[]⟩⟩,.int .i64 0,.int .i64 0]⟩) Tryz.underlying42 rfl (by kernel_rfl) rfl
theorem fR:TyI Tryz.prog 44 true [.int .i64 0,.string ⟨⟨[]⟩⟩,.int .i64 0,.string ⟨⟨[]⟩⟩,.string ⟨⟨[]⟩⟩,.slice none 0 0,.slice none 0 0,.int .i64 0,.int .i64 0,.int .i64 0,.slice none 0 0,.string ⟨⟨[]⟩⟩,.string ⟨⟨[]⟩⟩,.slice none 0 0,.slice none 0 0,.slice none 0 0,.int .i64 0,.string ⟨⟨[]⟩⟩,.slice none 0 0,.slice none 0 0,.slice none 0 0,.string ⟨⟨[]⟩⟩,.string ⟨⟨[]⟩⟩,.int .i64 0,.int .i64 0] 408:=.mk' (z:=.agg ⟨[.int .i64 0,.string ⟨⟨[]⟩⟩,.int .i64 0,.string ⟨⟨[]⟩⟩,.string ⟨⟨[]⟩⟩,.slice none 0 0,.slice none 0 0,.int .i64 0,.int .i64 0,.int .i64 0,.slice none 0 0,.string ⟨⟨[]⟩⟩,.string ⟨⟨[]⟩⟩,.slice none 0 0,.slice none 0 0,.slice none 0 0,.int .i64 0,.string ⟨⟨[]⟩⟩,.slice none 0 0,.slice none 0 0,.slice none 0 0,.string ⟨⟨[]⟩⟩,.string ⟨⟨[]⟩⟩,.int .i64 0,.int .i64 0]⟩) Tryz.underlying44 rfl (by kernel_rfl) rfl
theorem ty51:TyI Tryz.prog 51 false [.pointer none] 8:=.mk' (z:=.pointer none) Tryz.underlying51 rfl (by kernel_rfl) rfl
theorem lX:TyI Tryz.prog 52 false [.slice none 0 0] 24:=.mk' (z:=.slice none 0 0) Tryz.underlying52 rfl (by kernel_rfl) rfl
theorem fV:dE Tryz.prog 52 5:=Tryz.underlying52
theorem ty54:TyI Tryz.prog 54 true [.pointer none,.slice none 0 0] 32:=.mk' (z:=.agg ⟨[.pointer none,.slice none 0 0]⟩) Tryz.underlying54 rfl (by kernel_rfl) rfl
theorem ty56:TyI Tryz.prog 56 true [.pointer none,.slice none 0 0,.int .i64 0] 40:=.mk' (z:=.agg ⟨[.pointer none,.slice none 0 0,.int .i64 0]⟩) Tryz.underlying56 rfl (by kernel_rfl) rfl
theorem ty58:TyI Tryz.prog 58 true [.pointer none,.slice none 0 0,.int .i64 0] 40:=.mk' (z:=.agg ⟨[.pointer none,.slice none 0 0,.int .i64 0]⟩) Tryz.underlying58 rfl (by kernel_rfl) rfl
theorem eM:TyI Tryz.prog 64 false [.slice none 0 0] 24:=.mk' (z:=.slice none 0 0) Tryz.underlying64 rfl (by kernel_rfl) rfl
theorem fI:dE Tryz.prog 64 112:=Tryz.underlying64
theorem ty68:TyI Tryz.prog 68 true [.int .i64 0,.int .i64 0] 16:=.mk' (z:=.agg ⟨[.int .i64 0,.int .i64 0]⟩) Tryz.underlying68 rfl (by kernel_rfl) rfl
theorem kS:TyI Tryz.prog 70 false [.pointer none] 8:=.mk' (z:=.pointer none) Tryz.underlying70 rfl (by kernel_rfl) rfl
theorem ty72:TyI Tryz.prog 72 true [.slice none 0 0,.int .i64 0] 32:=.mk' (z:=.agg ⟨[.slice none 0 0,.int .i64 0]⟩) Tryz.underlying72 rfl (by kernel_rfl) rfl
theorem ty79:TyI Tryz.prog 79 false [.nilFunc] 8:=.mk' (z:=.nilFunc) Tryz.underlying79 rfl (by kernel_rfl) rfl
theorem ty80:TyI Tryz.prog 80 true [.nilFunc,.nilFunc,.nilFunc,.nilFunc,.nilFunc,.nilFunc,.nilFunc,.nilFunc,.nilFunc,.nilFunc,.nilFunc] 88:=.mk' (z:=.agg ⟨[.nilFunc,.nilFunc,.nilFunc,.nilFunc,.nilFunc,.nilFunc,.nilFunc,.nilFunc,.nilFunc,.nilFunc,.nilFunc]⟩) Tryz.underlying80 rfl (by kernel_rfl) rfl
theorem bS:TyI Tryz.prog 93 true [.int .i64 0,.int .i64 0,.string ⟨⟨[]⟩⟩] 32:=.mk' (z:=.agg ⟨[.int .i64 0,.int .i64 0,.string ⟨⟨[]⟩⟩]⟩) Tryz.underlying93 rfl (by kernel_rfl) rfl
theorem pI:TyI Tryz.prog 95 true [.string ⟨⟨[]⟩⟩,.int .i64 0,.int .i64 0,.string ⟨⟨[]⟩⟩] 48:=.mk' (z:=.agg ⟨[.string ⟨⟨[]⟩⟩,.int .i64 0,.int .i64 0,.string ⟨⟨[]⟩⟩]⟩) Tryz.underlying95 rfl (by kernel_rfl) rfl
theorem lW:TyI Tryz.prog 98 true [.string ⟨⟨[]⟩⟩,.string ⟨⟨[]⟩⟩] 32:=.mk' (z:=.agg ⟨[.string ⟨⟨[]⟩⟩,.string ⟨⟨[]⟩⟩]⟩) Tryz.underlying98 rfl (by kernel_rfl) rfl
theorem ty102:TyI Tryz.prog 102 true [.int .i64 0,.int .i64 0] 16:=.mk' (z:=.agg ⟨[.int .i64 0,.int .i64 0]⟩) Tryz.underlying102 rfl (by kernel_rfl) rfl
theorem ty106:TyI Tryz.prog 106 true [.string ⟨⟨[]⟩⟩,.int .i64 0] 24:=.mk' (z:=.agg ⟨[.string ⟨⟨[]⟩⟩,.int .i64 0]⟩) Tryz.underlying106 rfl (by kernel_rfl) rfl
theorem ty107:TyI Tryz.prog 107 false [.nilFunc] 8:=.mk' (z:=.nilFunc) Tryz.underlying107 rfl (by kernel_rfl) rfl
theorem ty108:TyI Tryz.prog 108 true [.nilFunc,.nilFunc,.nilFunc,.nilFunc] 32:=.mk' (z:=.agg ⟨[.nilFunc,.nilFunc,.nilFunc,.nilFunc]⟩) Tryz.underlying108 rfl (by kernel_rfl) rfl
theorem ty110:TyI Tryz.prog 110 true [.nilFunc,.nilFunc,.nilFunc,.nilFunc] 32:=.mk' (z:=.agg ⟨[.nilFunc,.nilFunc,.nilFunc,.nilFunc]⟩) Tryz.underlying110 rfl (by kernel_rfl) rfl
theorem bB:TyI Tryz.prog 112 true [.int .i64 0,.string ⟨⟨[]⟩⟩,.int .i64 0,.int .i64 0] 40:=.mk' (z:=.agg ⟨[.int .i64 0,.string ⟨⟨[]⟩⟩,.int .i64 0,.int .i64 0]⟩) Tryz.underlying112 rfl (by kernel_rfl) rfl
theorem fB:TyI Tryz.prog 132 true [.string ⟨⟨[]⟩⟩,.int .i64 0,.int .i64 0,.int .i64 0,.string ⟨⟨[]⟩⟩] 56:=.mk' (z:=.agg ⟨[.string ⟨⟨[]⟩⟩,.int .i64 0,.int .i64 0,.int .i64 0,.string ⟨⟨[]⟩⟩]⟩) Tryz.underlying132 rfl (by kernel_rfl) rfl
theorem ty134:TyI Tryz.prog 134 true [.int .i64 0,.int .i64 0] 16:=.mk' (z:=.agg ⟨[.int .i64 0,.int .i64 0]⟩) Tryz.underlying134 rfl (by kernel_rfl) rfl
theorem cL:TyI Tryz.prog 136 true [.string ⟨⟨[]⟩⟩,.int .i64 0,.int .i64 0,.int .i64 0,.int .i64 0,.int .i64 0,.int .i64 0] 64:=.mk' (z:=.agg ⟨[.string ⟨⟨[]⟩⟩,.int .i64 0,.int .i64 0,.int .i64 0,.int .i64 0,.int .i64 0,.int .i64 0]⟩) Tryz.underlying136 rfl (by kernel_rfl) rfl
theorem mK:TyI Tryz.prog 140 true [.string ⟨⟨[]⟩⟩,.string ⟨⟨[]⟩⟩,.bool false,.int .i64 0,.int .i64 0,.string ⟨⟨[]⟩⟩] 72:=.mk' (z:=.agg ⟨[.string ⟨⟨[]⟩⟩,.string ⟨⟨[]⟩⟩,.bool false,.int .i64 0,.int .i64 0,.string ⟨⟨[]⟩⟩]⟩) Tryz.underlying140 rfl (by kernel_rfl) rfl
theorem eV:TyI Tryz.prog 142 true [.string ⟨⟨[]⟩⟩,.string ⟨⟨[]⟩⟩,.bool false,.int .i64 0,.int .i64 0,.string ⟨⟨[]⟩⟩,.int .i64 0,.string ⟨⟨[]⟩⟩,.string ⟨⟨[]⟩⟩,.bool false,.int .i64 0,.int .i64 0,.string ⟨⟨[]⟩⟩,.int .i64 0] 160:=.mk' (z:=.agg ⟨[.string ⟨⟨[]⟩⟩,.string ⟨⟨[]⟩⟩,.bool false,.int .i64 0,.int .i64 0,.string ⟨⟨[]⟩⟩,.int .i64 0,.string ⟨⟨[]⟩⟩,.string ⟨⟨[]⟩⟩,.bool false,.int .i64 0,.int .i64 0,.string ⟨⟨[]⟩⟩,.int .i64 0]⟩) Tryz.underlying142 rfl (by kernel_rfl) rfl
theorem dP:dE Tryz.prog 184 188:=Tryz.underlying184
theorem yR:TyI Tryz.prog 186 false [.nilFunc] 8:=.mk' (z:=.nilFunc) Tryz.underlying186 rfl (by kernel_rfl) rfl
theorem aV:TyI Tryz.prog 188 true [.string ⟨⟨[]⟩⟩,.bool false,.nilFunc] 32:=.mk' (z:=.agg ⟨[.string ⟨⟨[]⟩⟩,.bool false,.nilFunc]⟩) Tryz.underlying188 rfl (by kernel_rfl) rfl
theorem qA:TyI Tryz.prog 194 true [.string ⟨⟨[]⟩⟩,.int .i64 0] 24:=.mk' (z:=.agg ⟨[.string ⟨⟨[]⟩⟩,.int .i64 0]⟩) Tryz.underlying194 rfl (by kernel_rfl) rfl
theorem ty210:TyI Tryz.prog 210 true [.int .u32 0] 4:=.mk' (z:=.agg ⟨[.int .u32 0]⟩) Tryz.underlying210 rfl (by kernel_rfl) rfl
theorem ty212:TyI Tryz.prog 212 true [.int .i32 0,.int .u32 0] 8:=.mk' (z:=.agg ⟨[.int .i32 0,.int .u32 0]⟩) Tryz.underlying212 rfl (by kernel_rfl) rfl
theorem ty214:TyI Tryz.prog 214 true [.int .i32 0,.int .u32 0] 8:=.mk' (z:=.agg ⟨[.int .i32 0,.int .u32 0]⟩) Tryz.underlying214 rfl (by kernel_rfl) rfl
theorem ty216:TyI Tryz.prog 216 true [.int .u32 0,.int .i32 0,.int .u32 0] 12:=.mk' (z:=.agg ⟨[.int .u32 0,.int .i32 0,.int .u32 0]⟩) Tryz.underlying216 rfl (by kernel_rfl) rfl
theorem ty218:TyI Tryz.prog 218 false [.nilIface] 16:=.mk' (z:=.nilIface) Tryz.underlying218 rfl (by kernel_rfl) rfl
theorem ty220:TyI Tryz.prog 220 true [.int .u32 0,.int .i32 0,.int .u32 0,.nilIface,.slice none 0 0] 56:=.mk' (z:=.agg ⟨[.int .u32 0,.int .i32 0,.int .u32 0,.nilIface,.slice none 0 0]⟩) Tryz.underlying220 rfl (by kernel_rfl) rfl
end Go.Proofs.YtohlogbnpfofpaaGreatDoor
namespace Go.Proofs.YtohlogbnpfofpaaGreatDoor
open Go
def nilI:Value→Option Bool
 | .nilIface=>some true
 | .iface _ _=>some false
 | _=>none
section
variable {P : Program} {ty : TypeId} {s : aVs} {h : Heap} {K : KK} {pr : Bool}
theorem StillVC.neI {t t':TypeId}{x:Operand}{b:Bool}(hI:P.underlying t=some (.interface (P.methodsAt t)))(hx:nilI (ev s x)=some b)(hk:K (.bool (!b)) false h):StillVC pr P (.binOp .neq t x (.const .nilIface) t') ty s h K:=by
 have e2:ev s (.const .nilIface)=.nilIface:=rfl;refine .pure' (.bool (!b)) false (fun w=>?_) hk;cases hv:ev s x with
 | nilIface =>
  rw[hv]at hx;cases hx
  simp[execOp,hv,e2,eqGuard_nil_constR,run_neq_nil_nil _ t hI]
 | iface d u =>
  rw[hv]at hx;cases hx
  simp[execOp,hv,e2,eqGuard_at_iface,run_neq_held_nil _ t d u hI]
 | _=>rw[hv]at hx;cases hx
theorem aBV {fn:Func}{a t:TypeId}{h0:Base}{L:List Item}(hf:fn.results=#[.cell a t]) {zero:aVs}{by_:Nat}{b:Nat}{vs:aVs}{t':TypeId}(o:Own h0 L h)(k:Nat)(hk:L[k]?=some (box b vs t'))
  (hT:TyI P t true zero by_) (hl:vs.length=zero.length) (ha:sget s a=.pointer (some ⟨b,0,none⟩)) (w:World) (hw:w.heap=h) :
  (results fn s.toArray).run P w=.ok (.agg ⟨vs⟩) w:=by
 have hc:=hG (P:=P) (w:=w) (a:=⟨b,0,none⟩) vs 0 #[] (fun j hj=>by
  rw[aDs,Addr.add_lit,aDs,gW,hw];exact o.cellB k hk j)
 have e1:s.toArray.getD a undef=.pointer (some ⟨b,0,none⟩):=by rw[← ha,← dG];simp
 simp only[Array.getD_eq_getD_getElem?,aDr]at e1
 simp[results,hf,e1,asAddr,loadVar,hT.isAgg,hT.sizeOf,← hl,loadCells,hc]
theorem StillVC.aCx {fn:Func}{a t:TypeId}{R:Value→Heap→Prop}{h0:Base}{L:List Item}(hf:fn.results=#[.cell a t]) {zero:aVs}{by_:Nat}{b:Nat}{vs:aVs}{t':TypeId}(o:Own h0 L h)(k:Nat)(hk:L[k]?=some (box b vs t'))
  (hT:TyI P t true zero by_) (hl:vs.length=zero.length) (ha:sget s a=.pointer (some ⟨b,0,none⟩)) (hr:R (.agg ⟨vs⟩) h):RetVC P fn s h R where
 ex:=⟨_,fun w hw=>aBV hf o k hk hT hl ha w hw,hr⟩
end
def Defers (P:Program)(id:Nat)(ops:Array Oper)(s s1:aVs)(d:Deferred):Prop :=
 ∀(w:World) (Q:Exit→Act→World→Prop),Q .normal (act s1 [d]) w→(Code.region id ops false).wp P Q (act s []) w
structure LeaveVC (P:Program) (fn:Func) (d:Deferred) (u:FrameMode) (s:aVs) (h:Heap) (R:Ending→Heap→Prop):Prop where
 lv:∀ w0 w:World,Same w0 w→w.heap=h→Leaves P fn s.toArray (fun e w'=>Same w0 w'∧R e w'.heap) [d] u w
def aAe (P:Program)(fn:Func)(d:Deferred)(R:Ending→Heap→Prop):QQ:=fun e s h =>
 match e with
 | .normal=>LeaveVC P fn d .returning s h R
 | .ret=>LeaveVC P fn d .returning s h R
 | .panic c=>LeaveVC P fn d (.panicking c) s h R
 | _=>False
structure DeferVC (P:Program) (fn:Func) (id:Nat) (ops:Array Oper) (rest:Code) (R:Ending→Heap→Prop) (s:aVs) (h:Heap):Prop where
 ex:∃ s1 d,Defers P id ops s s1 d∧vcode P rest (ngQ (aAe P fn d R)) s1 h
theorem Spec.enterD {P:Program}{f:FuncId}{fn:Func}{r0 c1 rest:Code}{id n:Nat}{ops:Array Oper}{args:aVs}{h:Heap}{R:Ending→Heap→Prop}
  (hf:P.funcs[f]?=some fn) (hb:fn.body=some (.seq r0 (.scope (.seq c1 (.seq (.region id ops false) rest))))) (hn:fn.ntmps=n) (hname:(fn.name == "runtime.NumGoroutine")=false)
  (hv:nP args n fun s=>vcode P r0 (onN (fun s h=>vcode P c1 (onN (fun s h=>DeferVC P fn id ops rest R s h) (ngQ (aAw P fn R))) s h) (aAw P fn R)) s h):Spec P f args h R:=by
 refine⟨⟨fn,hf,by simp[hb],hname⟩,fun w hw=>?_⟩
 subst hw
 rw[pF]at hv
 have he:act (args++List.replicate (n - args.length) undef) []={ tmps:=args.toArray++Array.replicate (fn.ntmps - args.toArray.size) undef,defers:=[] }:=by
  simp[act,hn]
 have leave0:∀ e s' w',Same w w'→aAw P fn R e s' w'.heap→bodyPostD P fn (fun e w'=>Same w w'∧R e w'.heap) e (act s' []) w':=by
  intro e s' w' hs hq;cases e with
  | normal=>obtain⟨v,hr,hR⟩:=hq.ex;exact⟨v,hr w' rfl,hs,hR⟩
  | ret=>obtain⟨v,hr,hR⟩:=hq.ex;exact⟨v,hr w' rfl,hs,hR⟩
  | panic c=>exact⟨hs,hq⟩
  | _=>exact hq.elim
 refine calls_of_wp_defers hf hb ?_
 rw[← he]
 refine wp_seq (wp_mono (dM (w0:=w) (ds:=[]) r0 _ _ w (.refl w) hv) ?_);rintro e a w1 ⟨s1,rfl,hs1,hq⟩;cases e with
 | normal =>
  refine wp_scope_straight (wp_seq (wp_mono (dM (w0:=w) (ds:=[]) c1 _ _ w1 hs1 hq) ?_));rintro e a w2 ⟨s2,rfl,hs2,hq⟩;cases e with
  | normal =>
   obtain⟨s3,d,hd,hr⟩:=hq.ex
   refine wp_seq (hd w2 _ (wp_mono (dM (w0:=w) (ds:=[d]) rest _ _ w2 hs2 hr) ?_));rintro e a w3 ⟨s4,rfl,hs3,hq⟩;cases e with
   | normal=>exact hq.lv w w3 hs3 rfl
   | ret=>exact hq.lv w w3 hs3 rfl
   | panic c=>exact hq.lv w w3 hs3 rfl
   | _=>exact hq.elim
  | ret=>exact leave0 .ret s2 w2 hs2 hq
  | panic c=>exact leave0 (.panic c) s2 w2 hs2 hq
  | _=>exact hq.elim
 | ret=>exact leave0 .ret s1 w1 hs1 hq
 | panic c=>exact leave0 (.panic c) s1 w1 hs1 hq
 | _=>exact hq.elim
theorem DeferVC.closure {P:Program}{fn:Func}{id g t:Nat}{rest:Code}{R:Ending→Heap→Prop}{s:aVs}{h:Heap}{caps:List Operand}{ty ty':TypeId}{pos pos':String}{after after':Array Edge}{tys:Array TypeId}(ht:t<s.length)
  (hk:aAW s caps fun cap=>nF s t (.func (.func g) ⟨[]⟩ ⟨cap⟩) fun s1=>vcode P rest (ngQ (aAe P fn ⟨.fn (.func g) ⟨cap⟩,#[]⟩ R)) s1 h) :
  DeferVC P fn id #[⟨some t,.makeFunc (.func g) ⟨[]⟩ ⟨caps⟩,ty,pos,after,none⟩,⟨none,.defer ⟨.value (.tmp t),⟨[]⟩,tys⟩,ty',pos',after',none⟩] rest R s h:=by
 simp only[pU,fF]at hk
 refine⟨_,_,?_,hk⟩
 intro w Q hQ;refine wp_region ?_;have e1:∀ a,(act (s.set t a) []).eval (.tmp t)=a:=by
  intro a
  rw[eQ]
  simp only[ev,← dG]
  simp[List.getD,ht]
 have e0:∀ a,(act s []).put (some t) a=act (s.set t a) []:=fun a=>vB _ _ _ _;have e2:caps.map (act s []).eval=caps.map (ev s):=by rw[eQ]
 show wpOps P _ Q [0,1] (act s []) w
 unfold wpOps
 simp only[aDr,lgZ,Region.wanted,if_true]
 refine .inl ?_
 simp only[Oper.wp,execOp,Instr.makeFunc,Sem.run_bind,Sem.run_pure,Result.andThen_ok,Oper.upon,List.map_toArray,List.map_nil,e2,e0]
 unfold wpOps
 simp only[aDr,lgS,lgZ,Region.wanted,if_true]
 refine .inl ?_
 simp[Oper.wp,execOp,resolve,e1,Deferred.ofValue,Oper.upon,wpOps]
 exact hQ
def Recovers (P:Program)(ops:Array Oper)(s:aVs)(f:Value→aVs):Prop :=
 ∀(cs:List Frame) (w:World) (Q:Exit→Act→List Frame→World→Prop),
  (∀ v cs',(recoverD cs=some (v,cs')∨(recoverD cs=none∧v=.nilIface∧cs'=cs))→Q .normal (act (f v) []) cs' w)→wpOpsS P ops Q (List.range ops.size) (act s []) cs w
def recQ (P:Program)(fn:Func)(s:aVs)(R:Ending→Heap→Prop):QQ:=fun e _ h =>
 match e with
 | .normal=>RetVC P fn s h fun v h=>R (.returned v) h
 | .ret=>RetVC P fn s h fun v h=>R (.returned v) h
 | _=>False
theorem LeaveVC.recovers {P:Program}{fn gn:Func}{g:FuncId}{id n:Nat}{ops:Array Oper}{rest:Code}{cap s:aVs}{h:Heap}{R:Ending→Heap→Prop}{u:FrameMode}{f:Value→aVs}(v:Value)
  (hg:P.funcs[g]?=some gn) (hb:gn.body=some (.seq (.region id ops false) rest)) (hn:gn.ntmps=n) (hname:(gn.name == "runtime.NumGoroutine")=false) (hres:gn.results=#[])
  (hu:(u=.returning∧v=.nilIface)∨u=.panicking [{ v,recovered:=false }])
  (hrec:Recovers P ops (cap++List.replicate (n - cap.length) undef) f) (hv:vcode P rest (recQ P fn s R) (f v) h) :
  LeaveVC P fn ⟨.fn (.func g) ⟨cap⟩,#[]⟩ u s h R where
 lv w0 w hs hw:=by
  subst hw;have hun:u≠.run:=by
   rcases hu with ⟨rfl,_⟩|rfl<;>intro e<;>cases e
  refine leaves_cons (f:=g) (args:=⟨cap⟩) hun ?_ ?_
  ·have h1:¬ gn.name = "runtime.NumGoroutine":=by simpa using hname
   have h2:¬ gn.body=none:=by intro e;simp[e]at hb
   simp[invoke,callFunc,hg,h1,h2]
  ·refine callsD_of_wpS hg hb ?_
   intro c₀ cs hc;have he:({ tmps:=(⟨cap⟩:Array Value)++Array.replicate (gn.ntmps - (⟨cap⟩:Array Value).size) undef,defers:=[] }:Act)=act (cap++List.replicate (n - cap.length) undef) []:=by
    simp[act,hn]
   rw[he]
   refine wpS_seq (wpS_region (hrec _ _ _ ?_));intro v' cs' hv';have key:v'=v∧∃ u',cs'={ c₀ with mode:=u' }::cs∧settle u'=.returning:=by
    rcases hu with ⟨rfl,rfl⟩|rfl
    ·have:recoverD (c₀::cs)=none:=by simp[recoverD,hc]
     rw[this]at hv'
     rcases hv' with h|⟨_,rfl,rfl⟩
     ·cases h
     ·exact⟨rfl,.returning,by rw[← hc],rfl⟩
    ·have:recoverD (c₀::cs)=some (v,{ c₀ with mode:=.panicking [{ v,recovered:=true }] }::cs):=by simp[recoverD,hc]
     rw[this]at hv'
     rcases hv' with h|⟨h,_⟩
     ·injection h with h
      injection h with h1 h2
      exact⟨h1.symm,_,h2.symm,rfl⟩
     ·cases h
   obtain⟨rfl,u',rfl,hu'⟩:=key
   refine wpS_of_wp (wp_mono (dM (w0:=w0) (ds:=[]) rest _ _ w hs hv) ?_);rintro e a w' ⟨s',rfl,hs',hq⟩;have hr:∀ q:RetVC P fn s w'.heap (fun v h=>R (.returned v) h),Leaves P fn s.toArray (fun e w'=>Same w0 w'∧R e w'.heap) [] (settle u') w':=by
    intro q
    obtain⟨r,hr,hR⟩:=q.ex
    rw[hu']
    exact⟨r,hr w' rfl,hs',hR⟩
   cases e with
   | normal=>exact⟨rfl,u',rfl,.tuple #[],by rw[results_none hres],hr hq⟩
   | ret=>exact⟨rfl,u',rfl,.tuple #[],by rw[results_none hres],hr hq⟩
   | _=>exact hq.elim
section
variable {P : Program} {ty : TypeId} {s : aVs} {h : Heap} {K : KK} {Q : QQ} {pr : Bool}
theorem StillVC.nC {x:Operand}{a:Addr}(hx:ev s x=.pointer (some a))(hk:K (.pointer (some a)) false h):StillVC pr P (.nilCheck x) ty s h K :=
 .pure' _ false (fun w=>by simp[execOp,hx]) hk
def jX (P:Program)(t:TypeId):Bool :=
 match P.underlying t with
 | some (.interface _)=>false
 | some _=>true
 | none=>false
theorem StillVC.aCQ {t:TypeId}{x:Operand}{v:Value}(hb:jX P t=true)(hx:ev s x=v)(hk:K (.iface t v) false h):StillVC pr P (.makeInterface t x) ty s h K:=by
 refine .pure' _ false (fun w=>?_) hk;unfold jX at hb;split at hb
 ·cases hb
 ·rename_i d hd hne
  simp only[execOp,hx,Instr.makeInterface,Sem.run_bind,run_underlying hne,Result.andThen_ok]
  cases d<;>first|(exact absurd rfl (hd _))|simp
 ·cases hb
theorem StillVC.assertOk {t tx:TypeId}{x:Operand}{v:Value}(hb:jX P t=true)(hx:ev s x=.iface t v)(hk:K (.tuple ⟨[v,.bool true]⟩) false h):StillVC pr P (.typeAssert x tx t true) ty s h K:=by
 refine .pure' _ false (fun w=>?_) hk;unfold jX at hb;split at hb
 ·cases hb
 ·rename_i d hd hne
  simp only[execOp,hx,Instr.typeAssert,Sem.run_bind,run_underlying hne,Result.andThen_ok]
  cases d<;>first|(exact absurd rfl (hd _))|simp
 ·cases hb
theorem RunVC.panicI {x:Operand}{t:TypeId}{v:Value}(hx:ev s x=.iface t v)(hq:Q (.panic [{ v:=.iface t v,recovered:=false }]) s h):RunVC P (.panic x) ty s h K Q :=
 .panics fun w hw=>⟨.iface t v,w,by simp[execOp,hx,Instr.panic,goPanic],.refl w,by rw[hw];exact hq⟩
structure ArrT (P:Program) (t e:TypeId) (n:Nat) (z:Value) (by_:Nat):Prop where
 arr:P.underlying t=some (.array n e)
 el:TyI P e false [z] by_
theorem StillVC.indexA {t e:TypeId}{n by_:Nat}{z:Value}{x i:Operand}{cs:aVs}{k:IntKind}{m:Int}{u:Value}(hT:ArrT P t e n z by_)(hx:ev s x=.agg ⟨cs⟩)(hi:ev s i=.int k m)(h0:0≤m)(h1:m<n)(hu:cs[m.toNat]?=some u)(hk:K u false h) :
  StillVC pr P (.index t x i) ty s h K:=by
 refine .pure' _ false (fun w=>?_) hk
 simp[execOp,hx,hi,Instr.index,run_underlying hT.arr,h0,h1,hT.el.sizeOf,part,hT.el.isAgg,hu,asIntOf]
theorem StillVC.buildA {t e:TypeId}{n by_ byA:Nat}{z:Value}{zero:aVs}{parts:List (Nat×Operand)}(hT:ArrT P t e n z by_)(hZ:TyI P t true zero byA)(hzl:zero.length=n)
  (hp:parts.map (·.1)=List.range' 0 parts.length) (hn:parts.length=n) (hk:aAW s (parts.map (·.2)) fun vs=>vs.all (fun u=>u.oneCell')=true∧K (.agg ⟨vs⟩) false h):StillVC pr P (.build t ⟨parts⟩) ty s h K:=by
 rw[pU]at hk
 obtain⟨h1,hk⟩:=hk
 refine .pure' _ false (fun w=>?_) hk
 obtain⟨inf,z',hi,_,hz,hc,_⟩:=hZ.info
 have hzr:=lU parts s 0 hp;have hus:∀ u∈(parts.map (·.2)).map (ev s),u.cells.toList.length=1∧u.cells.toList=[u]:=by
  intro u hu
  have:=aDk.1 h1 u hu
  cases u<;>simp[Value.oneCell']at this<;>exact⟨rfl,rfl⟩
 have hul:((parts.map (·.2)).map (ev s)).length=n:=by simpa using hn
 generalize (parts.map (·.2)).map (ev s)=us at *
 have hflat:us.flatMap (fun u=>u.cells.toList)=us:=by
  clear hzr hul hk h1
  induction us with
  | nil=>rfl
  | cons u us ih=>rw[aDm,(hus u (by simp)).2,ih (fun v hv=>hus v (by simp[hv]))];rfl
 have hfill:=aBx 1 us 0 zero (fun u hu=>(hus u hu).1) (by omega)
 rw[hflat,aDs,hul,Nat.zero_mul,List.take_zero,lnA,Nat.mul_one,aDu (by omega),aDf]at hfill
 simp only[Nat.mul_one]at hfill
 have hparts:((⟨parts⟩:Array (Nat×Operand)).map fun x=>match x with|(i,x)=>(i,ev s x)).toList=us.zipIdx.map (fun p=>(p.2,p.1)):=by
  rw[← hzr];simp
 have key:(Instr.build t ((⟨parts⟩:Array (Nat×Operand)).map fun x=>match x with|(i,x)=>(i,ev s x))).run P w=.ok (.agg us.toArray) w:=by
  unfold Instr.build
  simp only[Sem.run_bind,zeroValue,typeInfo,run_program,hi,hz,Sem.run_pure,Result.andThen_ok,run_underlying hT.arr,hT.el.sizeOf,hc,hparts]
  simp[hfill]
 simp only[List.map_toArray]at key
 simp[execOp,key]
theorem zE {fn:Func}{a b c ta tb tc:Nat}{za zb zc:aVs}{ya yb yc pa pb pc:Nat}{u v x:Value}(hf:fn.results=#[.cell a ta,.cell b tb,.cell c tc])
  (hA:TyI P ta false za ya) (hB:TyI P tb false zb yb) (hC:TyI P tc false zc yc) (ea:sget s a=.pointer (some ⟨pa,0,none⟩)) (eb:sget s b=.pointer (some ⟨pb,0,none⟩)) (ec:sget s c=.pointer (some ⟨pc,0,none⟩))
  (ca:aY h ⟨pa,0,none⟩=some u) (cb:aY h ⟨pb,0,none⟩=some v) (cc:aY h ⟨pc,0,none⟩=some x) (w:World) (hw:w.heap=h) :
  (results fn s.toArray).run P w=.ok (.tuple ⟨[u,v,x]⟩) w:=by
 have e1:s.toArray.getD a undef=.pointer (some ⟨pa,0,none⟩):=by rw[← ea,← dG];simp
 have e2:s.toArray.getD b undef=.pointer (some ⟨pb,0,none⟩):=by rw[← eb,← dG];simp
 have e3:s.toArray.getD c undef=.pointer (some ⟨pc,0,none⟩):=by rw[← ec,← dG];simp
 simp only[Array.getD_eq_getD_getElem?,aDr]at e1 e2 e3
 subst hw
 rw[← gW]at ca cb cc
 simp[results,hf,e1,e2,e3,asAddr,loadVar,hA.isAgg,hB.isAgg,hC.isAgg,run_load,ca,cb,cc]
theorem RetVC.cell3 {fn:Func}{R:Value→Heap→Prop}{a b c ta tb tc:Nat}{za zb zc:aVs}{ya yb yc pa pb pc:Nat}{u v x:Value}(hf:fn.results=#[.cell a ta,.cell b tb,.cell c tc])
  (hA:TyI P ta false za ya) (hB:TyI P tb false zb yb) (hC:TyI P tc false zc yc) (ea:sget s a=.pointer (some ⟨pa,0,none⟩)) (eb:sget s b=.pointer (some ⟨pb,0,none⟩)) (ec:sget s c=.pointer (some ⟨pc,0,none⟩))
  (ca:aY h ⟨pa,0,none⟩=some u) (cb:aY h ⟨pb,0,none⟩=some v) (cc:aY h ⟨pc,0,none⟩=some x) (hr:R (.tuple ⟨[u,v,x]⟩) h):RetVC P fn s h R where
 ex:=⟨_,fun w hw=>zE hf hA hB hC ea eb ec ca cb cc w hw,hr⟩
end
section
variable {P : Program} {ops : Array Oper} {Q : Exit → Act → World → Prop}
def iT (E:Heap→Heap→Prop)(P:Program)(ops:Array Oper)(Q:Exit→Act→World→Prop)(fl:Nat→Bool):Nat→Array Bool→Act→World→Prop
 | 0,listed,a,w=>Region.ready .any ops listed=[]∧Q .normal a w
 | n+1,listed,a,w =>
  (Region.ready .any ops listed=[]→Q .normal a w) ∧
  ∀ i∈Region.ready .any ops listed,wpOp P ops Q i (fun a' w'=>(fl i=true→E w.heap w'.heap)∧iT E P ops Q fl n (listed.setIfInBounds i true) a' w') a w
theorem tN {E:Heap→Heap→Prop}{fl:Nat→Bool}:∀(n:Nat)(listed:Array Bool)(a:Act)(w:World),iT E P ops Q fl n listed a w→wpAny P .any ops Q n listed a w
 | 0,_,_,_,h=>h
 | n+1,_,_,_,h=>⟨h.1,fun i hi=>wpOp_mono (fun a w h=>tN n _ a w h.2) (h.2 i hi)⟩
theorem kR {E:Heap→Heap→Prop}{fl:Nat→Bool}{i:Nat}{oi:Oper}{v:Value}{reads:List (Addr×Value)}(hi:ops[i]?=some oi)(hsel:∀(j:Nat)(o:Oper) cs b,ops[j]?=some o→o.op≠.select cs b)
  (hQ:∀ c a w,Q (.panic c) (a.put oi.dst v) w→Q (.panic c) a w)
  (hE0:∀ h,E h h) (hEA:∀ h h',E h h'→∀ r∈reads,aY h r.1=some r.2→aY h' r.1=some r.2)
  (hfl:reads=[]∨∀ j,j≠i→fl j=false→i∈clo ops ops.size (edges ops j)) :
  ∀(n:Nat) (listed:Array Bool) (a:Act) (w:World),Closed ops listed →
   (∀ j oj,ops[j]?=some oj→j≠i→listed.getD j true=false→(∀ e∈oj.after,Region.binds .any e=true→e.on≠i)→oi.apart ops oj=true) →
   i∈Region.ready .any ops listed→gN P ops oi v reads a→(∀ r∈reads,w.cell? r.1=some r.2) →
   iT E P ops Q fl n (listed.setIfInBounds i true) (a.put oi.dst v) w→iT E P ops Q fl (n+1) listed a w:=by
 intro n;have first:∀(n:Nat) (listed:Array Bool) (a:Act) (w:World),gN P ops oi v reads a→(∀ r∈reads,w.cell? r.1=some r.2)→iT E P ops Q fl n (listed.setIfInBounds i true) (a.put oi.dst v) w →
   wpOp P ops Q i (fun a' w'=>(fl i=true→E w.heap w'.heap)∧iT E P ops Q fl n (listed.setIfInBounds i true) a' w') a w:=fun n listed a w hy hr H =>
  hy.wpOp hi hr ⟨fun _=>hE0 _,H⟩
 induction n with
 | zero =>
  intro listed a w _ _ hr hy hrd H
  refine⟨fun h=>(by rw[h]at hr;cases hr),fun j hj=>?_⟩
  by_cases hji:j=i
  ·subst hji;exact first 0 listed a w hy hrd H
  ·have:=ready_mono hj hji
   rw[H.1]at this
   cases this
 | succ n ih =>
  intro listed a w hcl hfree hr hy hrd H
  refine⟨fun h=>(by rw[h]at hr;cases hr),fun j hj=>?_⟩
  by_cases hji:j=i
  ·subst hji;exact first (n+1) listed a w hy hrd H
  ·have h1:=H.2 j (ready_mono hj hji)
   obtain⟨hjun,oj,hoj,hall⟩:=mem_ready.1 hj
   have hiun:listed.getD i false=false:=by
    have h0:=(mem_ready.1 hr).1
    rcases Nat.lt_or_ge i listed.size with h'|h'
    ·simp[h']at h0 ⊢;exact h0
    ·simp[Array.getElem?_eq_none h']
   have hnot:∀ e∈oj.after,Region.binds .any e=true→e.on≠i:=fun e he hb heq=>by
    have h1:=hall e he hb
    rw[heq,hiun]at h1;cases h1
   have hflj:reads=[]∨fl j=true:=by
    rcases hfl with h|h
    ·exact .inl h
    ·right
     cases hf:fl j with
     | true=>rfl
     | false =>
      have:=tJ hcl _ _ (qV hj) i (h j hji hf)
      rw[hiun]at this;cases this
   have h2:=aAY hoj (hfree j oj hoj hji hjun hnot) (fun cs b=>hsel i oi cs b hi) (fun cs b=>hsel j oj cs b hoj) hQ hy h1;have hfree':∀ k ok,ops[k]?=some ok→k≠i→(listed.setIfInBounds j true).getD k true=false →
     (∀ e∈ok.after,Region.binds .any e=true→e.on≠i)→oi.apart ops ok=true:=fun k ok hk hki hun hno=>by
    refine hfree k ok hk hki ?_ hno;by_cases hjk:j=k
    ·subst hjk;exact hjun
    ·rw[getD_set_ne true hjk]at hun;exact hun
   refine wpOp_mono (fun a' w' h3=>⟨h3.2.1,ih (listed.setIfInBounds j true) a' w' (hcl.set hj) hfree' (ready_mono hr (Ne.symm hji)) h3.1 ?_ ?_⟩) h2
   ·rcases hflj with rfl|hflj
    ·simp
    ·intro r hr'
     exact hEA _ _ (h3.2.1 hflj) r hr' (hrd r hr')
   ·rw[Array.setIfInBounds_comm _ _ hji]
    exact h3.2.2
end
structure StillVCA (A:Addr→Prop) (P:Program) (op:Op) (ty:TypeId) (s:aVs) (h:Heap) (K:KK):Prop where
 ex:∃(v:Value) (l:Bool) (reads:List (Addr×Value)),(∀ r∈reads,aY h r.1=some r.2)∧(∀ r∈reads,A r.1) ∧
  (∀ w:World,(∀ r∈reads,w.cell? r.1=some r.2)→(execOp (ev s) ⟨none,op,ty, "",#[],none⟩).run P w=.ok (.value v) w)∧K v l h
theorem StillVC.toA {A:Addr→Prop}{P:Program}{op:Op}{ty:TypeId}{s:aVs}{h:Heap}{K:KK}(r:StillVC true P op ty s h K):StillVCA A P op ty s h K:=by
 obtain⟨v,l,reads,he,hr,hw,hk⟩:=r.ex
 have:=he rfl
 subst this
 exact⟨v,l,[],hr,by simp,hw,hk⟩
def vopSA (A:Addr→Prop)(P:Program)(op:Op)(ty:TypeId)(D:List Nat)(s:aVs)(h:Heap)(K:KK):Prop :=
 vopF (StillVCA A P op ty s h K) (fun _ _=>False) op D s h K
theorem wP {A:Addr→Prop}{P:Program}{op:Op}{ty:TypeId}{D:List Nat}{s:aVs}{h:Heap}{K:KK}(hv:vopSA A P op ty D s h K):StillVCA A P op ty s h K:=by
 rcases sZ (pr:=true) (P:=P) (ty:=ty) hv with h|h|⟨f,args,tys,g,first,cap,_,_,h⟩
 ·exact h
 ·exact h.toA
 ·exact h.elim
theorem StillVCA.load1 {A:Addr→Prop}{P:Program}{ty:TypeId}{s:aVs}{h:Heap}{K:KK}{t:TypeId}{x:Operand}{zero:aVs}{by_:Nat}{a:Addr}{v:Value}(hT:TyI P t false zero by_)(hx:ev s x=.pointer (some a))(hA:A a)(hc:aY h a=some v)(hk:K v false h):StillVCA A P (.load t x) ty s h K :=
 ⟨v,false,[(a,v)],by simpa using hc,by simpa using hA,fun w hw=>by
  have:w.cell? a=some v:=hw (a,v) (by simp)
  simp[execOp,hx,Instr.loadAt,Instr.sureAddr,loadVar,hT.isAgg,run_load,this],hk⟩
def oS (E:Heap→Heap→Prop)(A:Addr→Prop)(P:Program)(st0 stR tails:List Nat)(i:Nat)(op:Op)(ty:TypeId)(D:List Nat)(s:aVs)(h:Heap)(K:KK)(Q:QQ):Prop :=
 bif mem st0 i then vopS true P op ty D s h K
 else bif mem stR i then vopSA A P op ty D s h K
 else bif mem tails i then vop P op ty D s h K Q
 else vop P op ty D s h (fun v l h'=>E h h'∧K v l h') Q
def jZ (E:Heap→Heap→Prop)(A:Addr→Prop)(P:Program)(L:List Oper)(st0 stR tails:List Nat)(i:Nat)(ih:List Nat→aVs→Heap→QQ→Prop)(D:List Nat)(s:aVs)(h:Heap)(Q:QQ):Prop :=
  match yB L i with
  | none=>False
  | some ⟨dst,op,ty,_,_,none⟩ =>
   oS E A P st0 stR tails i op ty D s h (fun v l h'=>dN s dst v fun s'=>ih (fL D dst l) s' h' Q) Q
  | some ⟨dst,op,ty,_,_,some (j,want)⟩ =>
   match mM L j with
   | none=>False
   | some g =>
    match mem D g with
    | true =>
     (match sget s g with
     | .bool true =>
      (match want with
      | true=>oS E A P st0 stR tails i op ty D s h (fun v l h'=>dN s dst v fun s'=>ih (fL D dst l) s' h' Q) Q
      | false=>dN s dst undef fun s'=>ih (fL D dst false) s' h Q)
     | .bool false =>
      (match want with
      | true=>dN s dst undef fun s'=>ih (fL D dst false) s' h Q
      | false=>oS E A P st0 stR tails i op ty D s h (fun v l h'=>dN s dst v fun s'=>ih (fL D dst l) s' h' Q) Q)
     | _=>dN s dst undef fun s'=>ih (fL D dst false) s' h Q)
    | false =>
     (match sget s g with
     | .bool t =>
      Br t
       (nF s g (.bool true) fun s =>
        match want with
        | true=>oS E A P st0 stR tails i op ty (g::D) s h (fun v l h'=>dN s dst v fun s'=>ih (fL (g::D) dst l) s' h' Q) Q
        | false=>dN s dst undef fun s'=>ih (fL (g::D) dst false) s' h Q)
       (nF s g (.bool false) fun s =>
        match want with
        | true=>dN s dst undef fun s'=>ih (fL (g::D) dst false) s' h Q
        | false=>oS E A P st0 stR tails i op ty (g::D) s h (fun v l h'=>dN s dst v fun s'=>ih (fL (g::D) dst l) s' h' Q) Q)
     | _=>dN s dst undef fun s'=>ih (fL D dst false) s' h Q)
def oC (E:Heap→Heap→Prop)(A:Addr→Prop)(P:Program)(L:List Oper)(st0 stR tails:List Nat)(l:List Nat):List Nat→aVs→Heap→QQ→Prop :=
 List.rec (motive:=fun _=>List Nat→aVs→Heap→QQ→Prop) (fun _ s h Q=>Q .normal s h) (fun i _ ih=>jZ E A P L st0 stR tails i ih) l
theorem yN (E:Heap→Heap→Prop)(A:Addr→Prop)(P:Program)(L:List Oper)(st0 stR tails:List Nat)(i:Nat)(rest D:List Nat)(s:aVs)(h:Heap)(Q:QQ):oC E A P L st0 stR tails (i::rest) D s h Q=jZ E A P L st0 stR tails i (oC E A P L st0 stR tails rest) D s h Q:=rfl
section
variable {P : Program} {ops : Array Oper} {Q : QQ} {w0 : World} {ds : List Deferred} {st0 stR tails : List Nat} {E : Heap → Heap → Prop} {A : Addr → Prop}
theorem yW {listed:Array Bool}{i n:Nat}{o:Oper}{s:aVs}{w:World}(hE0:∀ h,E h h)(hp:∀ c s s' h,Q (.panic c) s h→Q (.panic c) s' h)(hsel:Region.noSelect ops=true)
  (hi:ops[i]?=some o) (hw:Region.wanted o (yielded ops (act s ds).tmps)=false) (hcl:Closed ops listed)
  (hok:(bif mem st0 i||mem stR i then(Region.ready .any ops listed).contains i&&Region.free .any ops listed i else(Region.ready .any ops listed) == [i])=true)
  (ih:iT E P ops (lift w0 ds Q) (fun j=>!mem tails j) n (listed.setIfInBounds i true) ((act s ds).put o.dst undef) w) :
  iT E P ops (lift w0 ds Q) (fun j=>!mem tails j) (n+1) listed (act s ds) w:=by
 cases hc:(mem st0 i||mem stR i) with
 | true =>
  rw[hc]at hok
  simp only[cond_true,aDb]at hok
  exact kR hi (Region.noSelect_spec hsel) (uN hp _ _) hE0 (by simp) (.inl rfl) n listed _ w hcl (Region.free_spec hi hok.2) (by simpa using hok.1) (.inr ⟨hw,rfl⟩) (by simp) ih
 | false =>
  rw[hc]at hok
  simp only[cond_false,beq_iff_eq]at hok
  refine⟨fun h=>(by rw[h]at hok;cases hok),fun j hj=>?_⟩
  rw[hok]at hj
  simp only[aDg]at hj;subst hj
  unfold wpOp
  simp only[hi,hw,aDh,if_false]
  exact⟨fun _=>hE0 _,ih⟩
theorem aA4 {listed:Array Bool}{i n:Nat}{dst:Option Tmp}{op:Op}{ty:TypeId}{pos:String}{after:Array Edge}{guard:Option (Nat×Bool)}{D:List Nat}{s:aVs}{w:World}{K:KK}
  (hE0:∀ h,E h h) (hEA:∀ h h' a v,E h h'→A a→aY h a=some v→aY h' a=some v) (hp:∀ c s s' h,Q (.panic c) s h→Q (.panic c) s' h) (hsel:Region.noSelect ops=true) (htails:lG ops stR tails=true)
  (hi:ops[i]?=some ⟨dst,op,ty,pos,after,guard⟩) (hw:Region.wanted ⟨dst,op,ty,pos,after,guard⟩ (yielded ops (act s ds).tmps)=true) (hcl:Closed ops listed) (hs:Same w0 w)
  (hok:(bif mem st0 i||mem stR i then(Region.ready .any ops listed).contains i&&Region.free .any ops listed i else(Region.ready .any ops listed) == [i])=true)
  (hv:oS E A P st0 stR tails i op ty D s w.heap K Q)
  (ih:∀ v l w',Same w0 w'→K v l w'.heap→iT E P ops (lift w0 ds Q) (fun j=>!mem tails j) n (listed.setIfInBounds i true) ((act s ds).put dst v) w') :
  iT E P ops (lift w0 ds Q) (fun j=>!mem tails j) (n+1) listed (act s ds) w:=by
 have still:(mem st0 i||mem stR i)=true→(mem stR i=false→vopS true P op ty D s w.heap K)→(mem stR i=true→StillVCA A P op ty s w.heap K)→iT E P ops (lift w0 ds Q) (fun j=>!mem tails j) (n+1) listed (act s ds) w:=by
  intro hc hv0 hvR
  rw[hc]at hok
  simp only[cond_true,aDb]at hok
  cases hm:mem stR i with
  | false =>
   obtain⟨v,l,reads,hre,hr,hrun,hk⟩:=(mZ (hv0 hm)).ex
   have:=hre rfl
   subst this;exact kR (oi:=⟨dst,op,ty,pos,after,guard⟩) (v:=v) (reads:=[]) hi (Region.noSelect_spec hsel) (uN hp _ _) hE0 (by simp) (.inl rfl) n listed _ w hcl (Region.free_spec hi hok.2) (by simpa using hok.1) (.inl ⟨hw,fun w hw'=>by rw[eQ,dR];exact hrun w hw'⟩) (fun r hm=>hr r hm) (ih v l w hs hk)
  | true =>
   obtain⟨v,l,reads,hr,hA,hrun,hk⟩:=(hvR hm).ex
   refine kR (oi:=⟨dst,op,ty,pos,after,guard⟩) (v:=v) (reads:=reads) hi (Region.noSelect_spec hsel) (uN hp _ _) hE0 (fun h h' he r hr' hc=>hEA h h' r.1 r.2 he (hA r hr') hc) ?_ n listed _ w hcl (Region.free_spec hi hok.2) (by simpa using hok.1) (.inl ⟨hw,fun w hw'=>by rw[eQ,dR];exact hrun w hw'⟩) (fun r hm=>hr r hm) (ih v l w hs hk)
   right
   intro j hne hf;have hjt:j∈tails:=by rw[← mem_iff];simpa using hf
   have:=aDk.1 (aDk.1 htails j hjt) i ((mem_iff _ _).1 hm)
   simp only[aDU,beq_iff_eq]at this
   rcases this with h|h
   ·exact absurd h.symm hne
   ·simpa using h
 unfold oS at hv;cases h0:mem st0 i with
 | true =>
  rw[h0]at hv
  refine still (by simp[h0]) (fun _=>hv) (fun _=>?_)
  exact(mZ hv).toA
 | false =>
  rw[h0]at hv
  simp only[cond_false]at hv
  cases hR:mem stR i with
  | true=>rw[hR]at hv;exact still (by simp[hR]) (fun h=>by rw[hR]at h;cases h) (fun _=>wP hv)
  | false =>
   rw[hR]at hv
   simp only[cond_false]at hv
   rw[h0,hR]at hok
   simp only[Bool.or_false,cond_false,beq_iff_eq]at hok
   have fin:∀ K':KK,(∀ v l h',K' v l h'→(mem tails i=false→E w.heap h')∧K v l h')→vop P op ty D s w.heap K' Q→iT E P ops (lift w0 ds Q) (fun j=>!mem tails j) (n+1) listed (act s ds) w:=by
    intro K' hK' hv'
    refine⟨fun h=>(by rw[h]at hok;cases hok),fun j hj=>?_⟩
    rw[hok]at hj
    simp only[aDg]at hj;subst hj
    unfold wpOp
    simp only[hi,hw,if_true]
    exact .inl ((oR hv').run w rfl ds dst pos after guard _ _
     (fun v l w' hw' hk=>⟨fun hf=>(hK' v l _ hk).1 (by simpa using hf),ih v l w' (hs.trans hw') (hK' v l _ hk).2⟩)
     (fun c w' hw' hq=>⟨s,rfl,hs.trans hw',hq⟩))
   cases ht:mem tails i with
   | true=>rw[ht]at hv;exact fin K (fun v l h' hk=>⟨fun h=>(by rw[ht]at h;cases h),hk⟩) hv
   | false=>rw[ht]at hv;exact fin _ (fun v l h' hk=>⟨fun _=>hk.1,hk.2⟩) hv
theorem wO (hE0:∀ h,E h h)(hEA:∀ h h' a v,E h h'→A a→aY h a=some v→aY h' a=some v)(hp:∀ c s s' h,Q (.panic c) s h→Q (.panic c) s' h)(hsel:Region.noSelect ops=true)(htails:lG ops stR tails=true) :
  ∀(ord:List Nat) (D:List Nat) (s:aVs) (w:World) (listed:Array Bool),Same w0 w→Closed ops listed→rC ops st0 stR ord listed=true→oC E A P ops.toList st0 stR tails ord D s w.heap Q →
   iT E P ops (lift w0 ds Q) (fun j=>!mem tails j) ord.length listed (act s ds) w
 | [],D,s,w,listed,hs,_,hok,hv=>⟨by simpa[rC] using hok,s,rfl,hs,hv⟩
 | i::rest,D,s,w,listed,hs,hcl,hok,hv=>by
  simp only[rC,aDb]at hok
  obtain⟨hok,hrest⟩:=hok
  have hready:i∈Region.ready .any ops listed:=by
   cases hc:(mem st0 i||mem stR i) with
   | true=>rw[hc]at hok;simp only[cond_true,aDb]at hok;simpa using hok.1
   | false=>rw[hc]at hok;simp only[cond_false,beq_iff_eq]at hok;rw[hok];simp
  have hcl':=hcl.set hready;have goOn:∀ D s (w:World),Same w0 w→oC E A P ops.toList st0 stR tails rest D s w.heap Q→iT E P ops (lift w0 ds Q) (fun j=>!mem tails j) rest.length (listed.setIfInBounds i true) (act s ds) w :=
   fun D s w hs hv=>wO hE0 hEA hp hsel htails rest D s w _ hs hcl' hrest hv
  simp only[yN,jZ]at hv
  cases ho:yB ops.toList i with
  | none=>simp[ho]at hv
  | some o =>
   have hi:ops[i]?=some o:=by rw[← ho,← uG];simp
   obtain⟨dst,op,ty,pos,after,guard⟩:=o
   have run:∀ D D' s,Region.wanted ⟨dst,op,ty,pos,after,guard⟩ (yielded ops (act s ds).tmps)=true →
     oS E A P st0 stR tails i op ty D s w.heap (fun v l h'=>dN s dst v fun s'=>oC E A P ops.toList st0 stR tails rest (fL D' dst l) s' h' Q) Q →
     iT E P ops (lift w0 ds Q) (fun j=>!mem tails j) (rest.length+1) listed (act s ds) w:=fun D D' s hw hv =>
    aA4 hE0 hEA hp hsel htails hi hw hcl hs hok hv fun v l w' hs' hk=>by rw[iS];rw[fY]at hk;exact goOn _ _ _ hs' hk
   have skip:∀ D s,Region.wanted ⟨dst,op,ty,pos,after,guard⟩ (yielded ops (act s ds).tmps)=false →
     (dN s dst undef fun s'=>oC E A P ops.toList st0 stR tails rest D s' w.heap Q) →
     iT E P ops (lift w0 ds Q) (fun j=>!mem tails j) (rest.length+1) listed (act s ds) w:=fun D s hw hk =>
    yW hE0 hp hsel hi hw hcl hok (by rw[iS];rw[fY]at hk;exact goOn _ _ _ hs hk)
   cases guard with
   | none=>simp only[ho]at hv;exact run _ _ _ (by simp[Region.wanted]) hv
   | some gw =>
    obtain⟨j,want⟩:=gw
    simp only[ho]at hv
    cases hd:mM ops.toList j with
    | none=>simp[hd]at hv
    | some g =>
     simp only[hd]at hv
     cases hm:mem D g with
     | true =>
      simp only[hm]at hv
      split at hv
      ·rename_i hg
       have hy:=dX (ds:=ds) hd hg;cases want with
       | true=>exact run _ _ _ (by simp[Region.wanted,hy]) hv
       | false=>exact skip _ _ (by simp[Region.wanted,hy]) hv
      ·rename_i hg
       have hy:=dX (ds:=ds) hd hg;cases want with
       | false=>exact run _ _ _ (by simp[Region.wanted,hy]) hv
       | true=>exact skip _ _ (by simp[Region.wanted,hy]) hv
      ·rename_i h1 h2
       have hy:=eS (ds:=ds) (s:=s) hd (fun t e=>match t,e with|true,e=>h1 e|false,e=>h2 e);exact skip _ _ (by simp[Region.wanted,hy]) hv
     | false =>
      simp only[hm]at hv
      split at hv
      ·rename_i t hg
       have hy:=dX (ds:=ds) hd hg;cases t with
       | true =>
        have hv:=hv.y rfl
        rw[fF,gT s g _ hg]at hv
        cases want with
        | true=>exact run _ _ _ (by simp[Region.wanted,hy]) hv
        | false=>exact skip _ _ (by simp[Region.wanted,hy]) hv
       | false =>
        have hv:=hv.n rfl
        rw[fF,gT s g _ hg]at hv
        cases want with
        | false=>exact run _ _ _ (by simp[Region.wanted,hy]) hv
        | true=>exact skip _ _ (by simp[Region.wanted,hy]) hv
      ·rename_i h1
       have hy:=eS (ds:=ds) (s:=s) hd (fun t e=>h1 t e);exact skip _ _ (by simp[Region.wanted,hy]) hv
theorem DrawVC.introG {id:Nat}{s:aVs}{h:Heap}(E:Heap→Heap→Prop)(A:Addr→Prop)(hE0:∀ h,E h h)(hEA:∀ h h' a v,E h h'→A a→aY h a=some v→aY h' a=some v)
  (st0 stR tails ord:List Nat) (hm:P.follows .mixedOrders=true) (hok:rP ops st0 stR tails ord=true) (hlen:ord.length=ops.size)
  (hp:∀ c s s' h,Q (.panic c) s h→Q (.panic c) s' h) (hv:oC E A P ops.toList st0 stR tails ord [] s h Q):DrawVC P id ops s h Q where
 wp w0 w ds hw hs:=by
  subst hw
  simp only[rP,aDb]at hok
  refine wp_region_any hm (tN (E:=E) (fl:=fun j=>!mem tails j) _ _ _ _ ?_);have hcl:Closed ops (Array.replicate ops.size false):=by
   intro j hj
   exfalso
   by_cases hlt:j<ops.size<;>simp[hlt]at hj
  have:=wO (P:=P) (w0:=w0) (ds:=ds) (E:=E) (A:=A) hE0 hEA hp hok.1.1 hok.1.2 ord [] s { w with drawn:=w.drawn+1 } _ (hs.trans ⟨rfl,rfl,rfl,by simp⟩) hcl hok.2 hv
  rw[hlen]at this
  exact this
theorem DrawVC.introB {id:Nat}{s:aVs}{h:Heap}(b:Nat)
  (st0 stR tails ord:List Nat) (hm:P.follows .mixedOrders=true) (hok:rP ops st0 stR tails ord=true) (hlen:ord.length=ops.size)
  (hp:∀ c s s' h,Q (.panic c) s h→Q (.panic c) s' h) (hv:oC (fun h h'=>h'[b]?=h[b]?) (fun a=>a.block=b) P ops.toList st0 stR tails ord [] s h Q):DrawVC P id ops s h Q :=
 DrawVC.introG (fun h h'=>h'[b]?=h[b]?) (fun a=>a.block=b) (fun _=>rfl) (fun h h' a v he ha hc=>by subst ha;rw[gM he];exact hc) st0 stR tails ord hm hok hlen hp hv
end
theorem StillVC.aCv {P:Program}{ty:TypeId}{s:aVs}{h:Heap}{K:KK}{α:Type}{t:TypeId}{x:Operand}{zero:aVs}{by_ n i:Nat}{v:Value}{f:α→aVs}{ys:List α}{y:α}(hT:TyI P t true zero by_)(hA:dF zero.length h v n (ys.flatMap f))(hf:∀ y,(f y).length=zero.length)(hz:0<zero.length)
  (hx:ev s x=adr v (i*zero.length)) (hy:ys[i]?=some y) (hk:K (.agg ⟨f y⟩) false h):StillVC false P (.load t x) ty s h K :=
 .loadF hA hT hf hz hx hy hk
section
variable {P : Program} {f : FuncId} {fn : Func} {B : Base} {L : List Item} {h : Heap}
theorem XSpec.mark0 (hf:P.funcs[f]?=some fn)(hname:(fn.name == "runtime.NumGoroutine")=false)(hb:fn.body.isNone=true)(hn:Extern.findNext fn=none)(m:Mark)
  (he:Extern.find fn=some (fun _=>do mark m;pure Extern.Race.none_)):XSpec P f [] h (Ret fun v h'=>v=.tuple #[]∧h'=h) :=
 fun w hw=>⟨_,w,run_call_mark0 hf hname hb hn m he w,.refl w,rfl,hw⟩
theorem XSpec.marked (hf:P.funcs[f]?=some fn)(hname:(fn.name == "runtime.NumGoroutine")=false)(hb:fn.body.isNone=true)(hn:Extern.findNext fn=none)(m:Addr→Mark)
  (he:Extern.find fn=some (Extern.Race.marked m)) (a:Addr):XSpec P f [.pointer (some a)] h (Ret fun v h'=>v=.tuple #[]∧h'=h) :=
 fun w hw=>⟨_,w,run_call_marked hf hname hb hn m he a w,.refl w,rfl,hw⟩
theorem XSpec.load (hf:P.funcs[f]?=some fn)(hname:(fn.name == "runtime.NumGoroutine")=false)(hb:fn.body.isNone=true)(hn:Extern.findNext fn=none)(k:IntKind)
  (he:Extern.find fn=some (Extern.Atomic.loadT (.int k))) {a:Addr} {x:Int} (hc:aY h a=some (.int k x)):XSpec P f [.pointer (some a)] h (Ret fun v h'=>v=.int k x∧h'=h) :=
 fun w hw=>⟨_,w,run_call_load hf hname hb hn k he (by rw[gW,hw];exact hc),.refl w,rfl,hw⟩
theorem Own.setCell {w:World}(o:Own B L w.heap)(q:Nat) {b:Nat}{cs:aVs}{t:TypeId}(hk:L[q]?=some (box b cs t))(off:Nat)(v:Value) :
  Own B (L.set q (box b (cs.set off v) t)) (w.setCell ⟨b,off,none⟩ v).heap:=by
 have hb:=o.boxBlk q hk;refine o.set hk (by simp) (fun x _ hx=>?_) (qS hb) (fun x hx=>.inl hx) (fun x hx=>?_)
 ·have:=(gH [v] w b off).2.1 x hx
  simpa[wsets] using this
 ·have:=o.hi _ (aDa hk) x hx
  simpa using this
theorem Same.setCell (w:World)(a:Addr)(v:Value):Same w (w.setCell a v):=⟨rfl,rfl,rfl,by simp⟩
theorem aAG {w:World}(o:Own B L w.heap)(q:Nat) {b:Nat}{cs:aVs}{t:TypeId}(hk:L[q]?=some (box b cs t)) {off:Nat}{v:Value}(hv:cs[off]?=some v) :
  w.cell? ⟨b,off,none⟩=some v∧w.frozen? ⟨b,off,none⟩=false:=by
 have hb:=o.boxBlk q hk
 refine⟨by rw[gW,o.cellB q hk];exact hv,?_⟩
 simp[World.frozen?,hb]
theorem XSpec.cas (hf:P.funcs[f]?=some fn)(hname:(fn.name == "runtime.NumGoroutine")=false)(hb:fn.body.isNone=true)(hn:Extern.findNext fn=none)(k:IntKind)
  (he:Extern.find fn=some (Extern.Atomic.casT (.int k))) (o:Own B L h) (q:Nat) {b off:Nat} {cs:aVs} {t:TypeId} (hk:L[q]?=some (box b cs t)) {x y:Int} (hv:cs[off]?=some (.int k x)) :
  XSpec P f [.pointer (some ⟨b,off,none⟩),.int k x,.int k y] h (Ret fun v h'=>v=.bool true∧Own B (L.set q (box b (cs.set off (.int k y)) t)) h'):=fun w hw=>by
 subst hw
 obtain⟨hc,hz⟩:=aAG o q hk hv
 exact⟨_,_,run_call_cas_hit hf hname hb hn k he hc hz,Same.setCell _ _ _,rfl,o.setCell q hk off _⟩
theorem XSpec.store (hf:P.funcs[f]?=some fn)(hname:(fn.name == "runtime.NumGoroutine")=false)(hb:fn.body.isNone=true)(hn:Extern.findNext fn=none)
  (he:Extern.find fn=some Extern.Atomic.storeT) (o:Own B L h) (q:Nat) {b off:Nat} {cs:aVs} {t:TypeId} (hk:L[q]?=some (box b cs t)) {k:IntKind} {y:Int} {u:Value} (hv:cs[off]?=some u) :
  XSpec P f [.pointer (some ⟨b,off,none⟩),.int k y] h (Ret fun v h'=>v=.tuple #[]∧Own B (L.set q (box b (cs.set off (.int k y)) t)) h'):=fun w hw=>by
 subst hw
 obtain⟨hc,hz⟩:=aAG o q hk hv
 exact⟨_,_,run_call_store hf hname hb hn he hc hz,Same.setCell _ _ _,rfl,o.setCell q hk off _⟩
theorem XSpec.add (hf:P.funcs[f]?=some fn)(hname:(fn.name == "runtime.NumGoroutine")=false)(hb:fn.body.isNone=true)(hn:Extern.findNext fn=none)(k:IntKind)
  (he:Extern.find fn=some (Extern.Atomic.update (Op.intArith .add) k true)) (o:Own B L h) (q:Nat) {b off:Nat} {cs:aVs} {t:TypeId} (hk:L[q]?=some (box b cs t)) {x y:Int} (hv:cs[off]?=some (.int k x)) :
  XSpec P f [.pointer (some ⟨b,off,none⟩),.int k y] h (Ret fun v h'=>v=.int k (k.wrap (x+y))∧Own B (L.set q (box b (cs.set off (.int k (k.wrap (x+y)))) t)) h'):=fun w hw=>by
 subst hw
 obtain⟨hc,hz⟩:=aAG o q hk hv
 exact⟨_,_,run_call_add hf hname hb hn k he hc hz (by simp[Op.intArith]),Same.setCell _ _ _,rfl,o.setCell q hk off _⟩
theorem StillVC.toUnsafe {ty:TypeId}{s:aVs}{K:KK}{src dst e:TypeId}{x:Operand}{a:Addr}{v:Value}(hs:P.underlying src=some (.pointer e))(hd:P.underlying dst=some .unsafePointer)
  (hsz:((P.info? e).map fun i=>decide (i.size=0))=some false) (hx:ev s x=.pointer (some a)) (hc:aY h a=some v) (hk:K (.pointer (some a)) false h):StillVC false P (.convert src dst x) ty s h K :=
 ⟨.pointer (some a),false,[(a,v)],by simp,by simpa using hc,fun w hw=>by
  have:w.cell? a=some v:=hw (a,v) (by simp)
  have:=run_convert_to_unsafe (P:=P) (src:=src) (dst:=dst) hs hd hsz this
  simp[execOp,hx,this],hk⟩
end
def DSpec (P:Program)(f:FuncId)(args:aVs)(h:Heap)(R:Ending→Heap→Prop):Prop :=
 (∃ fn,P.funcs[f]?=some fn∧fn.body.isNone=false∧(fn.name == "runtime.NumGoroutine")=false) ∧
 ∀(u:FrameMode) (w:World),w.heap=h→CallsD P f args.toArray u w fun e u' w'=>u'=u∧Same w w'∧R e w'.heap
theorem DSpec.enter {P:Program}{f:FuncId}{fn:Func}{c:Code}{n:Nat}{args:aVs}{h:Heap}{R:Ending→Heap→Prop}
  (hf:P.funcs[f]?=some fn) (hb:fn.body=some c) (hn:fn.ntmps=n) (hname:(fn.name == "runtime.NumGoroutine")=false)
  (hv:nP args n fun s=>vcode P c (aAw P fn R) s h):DSpec P f args h R:=by
 refine⟨⟨fn,hf,by simp[hb],hname⟩,fun u w hw=>?_⟩
 subst hw
 rw[pF]at hv
 have hwp:=dM (w0:=w) (ds:=[]) c _ _ w (.refl w) hv;have he:act (args++List.replicate (n - args.length) undef) []={ tmps:=args.toArray++Array.replicate (fn.ntmps - args.toArray.size) undef,defers:=[] }:=by
  simp[act,hn]
 rw[he]at hwp
 refine callsD_of_wp (R:=fun e w'=>Same w w'∧R e w'.heap) hf hb (wp_mono hwp ?_);rintro e a w' ⟨s',rfl,hs',hq⟩;cases e with
 | normal=>obtain⟨v,hr,hR⟩:=hq.ex;exact⟨rfl,v,hr w' rfl,hs',hR⟩
 | ret=>obtain⟨v,hr,hR⟩:=hq.ex;exact⟨rfl,v,hr w' rfl,hs',hR⟩
 | panic c=>exact⟨rfl,hs',hq⟩
 | _=>exact hq.elim
theorem xL {P:Program}{fn:Func}{tmps:Array Value}{R:Ending→World→Prop}{f:FuncId}{args:aVs}{ds:List Deferred}{w:World}{Post:Value→Heap→Prop}
  (sp:DSpec P f args w.heap (Ret Post)) (hk:∀ v w',Same w w'→Post v w'.heap→Leaves P fn tmps R ds .returning w') :
  Leaves P fn tmps R ({ target:=.fn (.func f) #[],args:=args.toArray }::ds) .returning w:=by
 obtain⟨⟨gn,hg,hbody,hname⟩,hsp⟩:=sp
 refine leaves_cons (f:=f) (args:=args.toArray) (by simp) ?_ ?_
 ·have h1:¬ gn.name = "runtime.NumGoroutine":=by simpa using hname
  have h2:¬ gn.body=none:=by intro e;simp[e]at hbody
  simp[invoke,callFunc,hg,h1,h2]
 ·refine(hsp .returning w rfl).mono ?_
  rintro e u' w' ⟨rfl,hs,hR⟩;cases e with
  | returned v=>exact hk v w' hs hR
  | panicked c=>exact hR.elim
  | outgrown=>exact hR.elim
theorem qH {P:Program}{id t1 t2 t3 T k g:Nat}{more:List Operand}{s:aVs}{w:World}{ds:List Deferred}{b o off sz:Nat}{places:List (Nat×Nat)}{aggs:List Bool}{zero:aVs}
  {ty1 ty2 aS ty4:TypeId} {p1 p2 p3 p4:String} {a1 a2 a3 a4:Array Edge} {tys:Array TypeId} {Q:Exit→Act→World→Prop}
  (hT:StructT P T places aggs zero) (hp:places[k]?=some (off,sz)) (hz:Nat.beq sz 0=false) (h0:sget s 0=.pointer (some ⟨b,o,none⟩)) (_h1:0<t1) (h2:t1<t2) (h3:t2<t3) (hl:t3<s.length) (hm:∀ x∈more,∃ v,x=.const v)
  (hk:Q .normal (act (((s.set t1 (.pointer (some ⟨b,o,none⟩))).set t2 (.pointer (some ⟨b,o,none⟩))).set t3 (.pointer (some ⟨b,o+off,none⟩))) (⟨.fn (.func g) #[],(.pointer (some ⟨b,o+off,none⟩)::more.map (ev s)).toArray⟩::ds)) w) :
  (Code.region id #[⟨some t1,.move (.tmp 0),ty1,p1,a1,none⟩,⟨some t2,.nilCheck (.tmp t1),ty2,p2,a2,none⟩,⟨some t3,.fieldAddr T (.tmp t2) k,aS,p3,a3,none⟩,⟨none,.defer ⟨.value (.func g),⟨.tmp t3::more⟩,tys⟩,ty4,p4,a4,none⟩] false).wp P Q (act s ds) w:=by
 have gs:∀(s:aVs) (t:Nat) (v:Value),t<s.length→sget (s.set t v) t=v:=fun s t v ht=>by rw[← dG];simp[List.getD,ht]
 refine wp_region ?_;show wpOps P _ Q [0,1,2,3] (act s ds) w;unfold wpOps
 simp only[aDr,lgZ,Region.wanted,if_true]
 refine .inl ?_;have e1:ev s (.tmp 0)=.pointer (some ⟨b,o,none⟩):=h0;have r1:(execOp (ev s) ⟨none,.move (.tmp 0),ty1, "",#[],none⟩).run P w=.ok (.value (.pointer (some ⟨b,o,none⟩))) w:=by simp[execOp,e1]
 simp only[Oper.wp,eQ,dR,r1,Oper.upon,vB]
 unfold wpOps
 simp only[aDr,lgS,lgZ,Region.wanted,if_true]
 refine .inl ?_;have e2:ev (s.set t1 (.pointer (some ⟨b,o,none⟩))) (.tmp t1)=.pointer (some ⟨b,o,none⟩):=gs _ _ _ (by omega);have r2:(execOp (ev (s.set t1 (.pointer (some ⟨b,o,none⟩)))) ⟨none,.nilCheck (.tmp t1),ty2, "",#[],none⟩).run P w=.ok (.value (.pointer (some ⟨b,o,none⟩))) w:=by simp[execOp,e2]
 simp only[Oper.wp,eQ,dR,r2,Oper.upon,vB]
 unfold wpOps
 simp only[aDr,lgS,lgZ,Region.wanted,if_true]
 refine .inl ?_;have e3:ev ((s.set t1 (.pointer (some ⟨b,o,none⟩))).set t2 (.pointer (some ⟨b,o,none⟩))) (.tmp t2)=.pointer (some ⟨b,o,none⟩):=gs _ _ _ (by simp;omega)
 obtain⟨v,l,reads,hre,_,hrun,hv⟩:=(StillVC.fA (pr:=true) (P:=P) (ty:=aS) (s:=(s.set t1 (.pointer (some ⟨b,o,none⟩))).set t2 (.pointer (some ⟨b,o,none⟩))) (h:=w.heap) (x:=.tmp t2) (f:=k)
  (K:=fun v _ _=>v=.pointer (some ⟨b,o+off,none⟩)) hT e3 hp hz rfl).ex
 subst hv;have r3:=hrun w (by rw[hre rfl];simp)
 simp only[Oper.wp,eQ,dR,r3,Oper.upon,vB]
 unfold wpOps
 simp only[aDr,lgS,lgZ,Region.wanted,if_true]
 refine .inl ?_;have e5:more.map (ev (((s.set t1 (.pointer (some ⟨b,o,none⟩))).set t2 (.pointer (some ⟨b,o,none⟩))).set t3 (.pointer (some ⟨b,o+off,none⟩))))=more.map (ev s):=by
  refine List.map_congr_left fun x hx=>?_
  obtain⟨v,rfl⟩:=hm x hx
  rfl
 simp only[Oper.wp,eQ]
 have e7:=gs ((s.set t1 (.pointer (some ⟨b,o,none⟩))).set t2 (.pointer (some ⟨b,o,none⟩))) t3 (.pointer (some ⟨b,o+off,none⟩)) (by simp;omega)
 simp[execOp,resolve,e5,ev,Deferred.ofValue,Oper.upon,wpOps,e7]
 exact hk
section
variable {P : Program} {ty : TypeId} {s : aVs} {h0 : Base} {h : Heap} {L : List Item} {K : KK} {Q : QQ} {pr : Bool}
theorem StillVC.aCC {t e:TypeId}{n by_:Nat}{x i:Operand}{agg:Bool}{zero:aVs}{b o:Nat}{k:IntKind}{m:Int}(hu:P.underlying t=some (.array n e))(hE:TyI P e agg zero by_)
  (hx:ev s x=.pointer (some ⟨b,o,none⟩)) (hi:ev s i=.int k m) (h1:0≤m) (h2:m<n) (hk:K (.pointer (some ⟨b,o+m.toNat*zero.length,none⟩)) false h):StillVC pr P (.indexAddr t x i) ty s h K:=by
 refine .pure' _ false (fun w=>?_) hk;have he:P.elem t=e:=by simp[Program.elem,hu]
 have hn:P.arrayLen t=n:=by simp[Program.arrayLen,hu]
 have hu':P.underlying t=some (.array (P.arrayLen t) (P.elem t)):=by rw[he,hn];exact hu
 simp[execOp,hi,hx,run_indexAt_array w t _ _ _ hu',h1,h2,he,hn,hE.sizeOf,Addr.add_lit]
theorem StillVC.sliceFB {t e:TypeId}{by_:Nat}{x l:Operand}{agg:Bool}{z:Value}{b n c:Nat}{k:IntKind}{i:Int}(hS:dE P t e)(hE:TyI P e agg [z] by_)(hx:ev s x=.slice (some ⟨b,0,none⟩) n c)
  (hl:ev s l=.int k i) (h0:0≤i) (h1:i≤n) (h2:i<c) (hk:K (.slice (some ⟨b,i.toNat,none⟩) (n - i.toNat) (c - i.toNat)) false h):StillVC pr P (.slice t x (some l) none none) ty s h K:=by
 have he:P.elem t=e:=by unfold dE at hS;simp[Program.elem,hS]
 have hS':P.underlying t=some (.slice (P.elem t)):=by rw[he];exact hS
 have hne:¬ c=i.toNat:=by omega
 have e1:sliced (some ⟨b,0,none⟩) i.toNat n c 1=.slice (some ⟨b,i.toNat,none⟩) (n - i.toNat) (c - i.toNat):=by
  simp[sliced,hne,Addr.add_lit]
 rw[← e1]at hk
 refine .pure' _ false (fun w=>?_) hk
 simp[execOp,hx,hl,run_sliceAt_slice w t _ _ _ _ hS',run_slice_l w t _ n c hS' k i h0 h1,he,hE.sizeOf]
theorem RunVC.copyB {t u e:TypeId}{x y:Operand}{z:Value}{by_ b off n c:Nat}{cs ys:aVs}{t':TypeId}(o:Own h0 L h)(k:Nat)(hk:L[k]?=some (box b cs t'))(hS:dE P t e)(hE:TyI P e false [z] by_)
  (hx:ev s x=.slice (some ⟨b,off,none⟩) n c) (hA:Arr h (ev s y) ys) (hpos:0<ys.length) (hn:ys.length≤n) (hl:off+ys.length≤cs.length) (h1:∀ u∈ys,u.oneCell'=true)
  (hK:∀ h',qB L k (box b (cs.take off++ys++cs.drop (off+ys.length)) t') fun L'=>Own h0 L' h'→K (.int .i64 ys.length) false h'):RunVC P (.call ⟨.builtin .copy,⟨[x,y]⟩,⟨[t,u]⟩⟩) ty s h K Q :=
 .of fun w hw=>by
  subst hw
  obtain⟨i,z',hi,hs,hz',hzc,hby⟩:=hE.info
  have hb:=o.boxBlk k hk
  obtain⟨a,cap,hv,hcap,r⟩:=hA
  rcases r with rfl|⟨g,og,rfl,hc⟩
  ·simp at hpos
  have hr:=run_copy_row (P:=P) w t u ty e b off n c ⟨g,og,none⟩ ys.length cap cs.toArray t' ys hS (by simp[hi];simpa using hs) hb (show ys.length=Nat.min ys.length n from(Nat.min_eq_left hn).symm)
   (fun j v hj=>by
    rw[Addr.add_lit,gW]
    obtain⟨hj',_⟩:=aC9.1 hj
    rw[hc j hj'];exact hj) (by simpa using hl) h1
  refine⟨.int .i64 ys.length,false,w.setRow b (cs.take off++ys++cs.drop (off+ys.length)).toArray,?_,?_,?_⟩
  ·simp only[execOp,resolve,Sem.run_bind,Sem.run_pure,Result.andThen_ok]
   simp[invoke,builtin,hx,hv,hr,goInt]
  ·exact⟨rfl,rfl,rfl,by simp[World.setRow]⟩
  ·have:=hK (w.setRow b (cs.take off++ys++cs.drop (off+ys.length)).toArray).heap
   rw[rG]at this
   refine this (o.set hk (by simp[World.setRow]) (fun x _ hx=>?_) ?_ (fun x hx=>.inl hx) (fun x hx=>?_))
   ·have hne:¬ b=x:=fun e=>hx e.symm
    simp[World.setRow,Array.getElem?_modify,hne]
   ·exact setRow_heap w b cs.toArray _ t' (0,0) hb
   ·have:=o.hi _ (aDa hk) x hx
    simpa[World.setRow] using this
theorem RunVC.storeAll {t:TypeId}{a x:Operand}{zero vs:aVs}{by_:Nat}{agg:Bool}{b:Nat}{cs:aVs}{t':TypeId}(o:Own h0 L h)(k:Nat)(hk:L[k]?=some (box b cs t'))(hT:TyI P t agg zero by_)
  (ha:ev s a=.pointer (some ⟨b,0,none⟩)) (hx:ev s x=.agg ⟨vs⟩) (hv:vs.length=zero.length) (hc:cs.length=zero.length) (h1:vs.all (fun u=>u.oneCell')=true)
  (hK:∀ h',qB L k (box b vs t') fun L'=>Own h0 L' h'→K undef false h'):RunVC P (.store t a x) ty s h K Q:=by
 refine StillVC.aCR o k hk hT ha (by omega) ?_
 rw[pV,hx,sJ]
 refine⟨⟨hv,h1⟩,fun h'=>?_⟩
 rw[vU]
 have e:lset cs 0 (Value.agg ⟨vs⟩).cells.toList=vs:=by
  show lset cs 0 vs=vs
  rw[yF vs cs 0 (by omega)]
  simp
  omega
 rw[e]
 exact hK h'
theorem RunVC.invokeR {x:Operand}{name:String}{args:List Operand}{tys:Array TypeId}{g:FuncId}{full:aVs}{recv:Value}{Post:Value→Heap→Prop}(hx:ev s x=recv)
  (hm:∀ w:World,(callMethod recv name (args.map (ev s)).toArray).run P w=.ok (.enter g full.toArray) w) (sp:bZ P g full h Post) (hk:∀ v h',Post v h'→K v false h') :
  RunVC P (.call ⟨.invoke x name,⟨args⟩,tys⟩) ty s h K Q where
 run w hw ds dst pos after guard next Q' hn hq:=by
  have hrun:(execOp (ev s) ⟨none,.call ⟨.invoke x name,⟨args⟩,tys⟩,ty, "",#[],none⟩).run P w=.ok (.enter g full.toArray) w:=by
   have:=hm w
   have e:List.take args.length (List.map (ev s) args)=List.map (ev s) args:=aDp (by simp)
   simpa[execOp,resolve,invoke,hx,e] using this
  simp only[Oper.wp,eQ,dR,hrun,Oper.upon]
  refine(sp.2 w hw).mono fun e w' ⟨hs,hR⟩=>?_
  cases e with
  | returned v=>exact hn v false w' hs (hk v _ hR)
  | panicked c=>exact hR.elim
  | outgrown=>exact hR.elim
theorem StillVC.strLss {t t':TypeId}{x y:Operand}{a b:aBs}(hx:ev s x=.string ⟨⟨a⟩⟩)(hy:ev s y=.string ⟨⟨b⟩⟩)(hk:K (.bool (Op.bytesLess a b)) false h):StillVC pr P (.binOp .lss t x y t') ty s h K :=
 .pure' _ false (fun w=>by simp[execOp,hx,hy,eqGuard_at_string,binOp,Op.stringOp]) hk
theorem StillVC.strGtr {t t':TypeId}{x y:Operand}{a b:aBs}(hx:ev s x=.string ⟨⟨a⟩⟩)(hy:ev s y=.string ⟨⟨b⟩⟩)(hk:K (.bool (!(Op.bytesLess a b||a == b))) false h):StillVC pr P (.binOp .gtr t x y t') ty s h K :=
 .pure' _ false (fun w=>by simp[execOp,hx,hy,eqGuard_at_string,binOp,Op.stringOp]) hk
end
theorem Own.of_ext {h h':Heap}(e:Ext h h'):Own h [] h':=OwnR.own ⟨e,by simp,by simp,by simp,.nil⟩
theorem Own.thenE {B:Base}{L:List Item}{h h':Heap}(o':Own h [] h')(o:Own B L h):Own B L h':=o.ext' o'
theorem Own.rowIs {B:Base}{L:List Item}{h:Heap}(o:Own B L h)(k:Nat) {v:Value}{e sz n:Nat}{xs:aVs}(hk:L[k]?=some (row v e sz n xs)):∃ a c,v=.slice a n c:=by
 obtain⟨_,r⟩:sO h e sz v n xs:=o.sat _ (aDa hk)
 rcases r with ⟨rfl,rfl⟩|⟨g,cap,cur,rfl,_⟩
 ·exact⟨_,_,rfl⟩
 ·exact⟨_,_,rfl⟩
section
variable {B : Base} {L : List Item} {h h' : Heap}
theorem Own.satK (o:Own B L h)(k:Nat) {x:Item}(hk:L[k]?=some x):x.sat h:=o.sat _ (aDa hk)
def Reads (I:Item)(sz:Nat)(v:Value)(n:Nat)(xs:aVs):Prop:=∀ h:Heap,I.sat h→dF sz h v n xs
theorem Own.reads (o:Own B L h)(k:Nat) {I:Item}{sz n:Nat}{v:Value}{xs:aVs}(r:Reads I sz v n xs)(hk:L[k]?=some I):dF sz h v n xs:=r h (o.satK k hk)
theorem StillVC.sliceTok {pr:Bool}{P:Program}{ty:TypeId}{s:aVs}{K:KK}{t e:TypeId}{by_ n:Nat}{x l:Operand}{agg:Bool}{zero xs:aVs}{k:IntKind}{i:Int}{I:Item}(hS:dE P t e)(hE:TyI P e agg zero by_)(hR:Reads I zero.length (ev s x) n xs)(hI:I.sat h)
  (hl:ev s l=.int k i) (h0:0≤i) (h1:i≤n) (hk:∀ v,Reads I zero.length v (n - i.toNat) (xs.drop (i.toNat*zero.length))→K v false h):StillVC pr P (.slice t x (some l) none none) ty s h K:=by
 obtain⟨hxl,a,cap,hv,hcl,_⟩:=hR h hI
 have he:P.elem t=e:=by unfold dE at hS;simp[Program.elem,hS]
 have hS':P.underlying t=some (.slice (P.elem t)):=by rw[he];exact hS
 refine .pure' (sliced a i.toNat n cap zero.length) false (fun w=>?_) (hk _ fun h' hI'=>?_)
 ·simp[execOp,hv,hl,run_sliceAt_slice w t _ _ _ _ hS',run_slice_l w t a n cap hS' k i h0 h1,he,hE.sizeOf]
 ·obtain⟨_,a',cap',hv',_,r⟩:=hR h' hI'
  rw[hv]at hv'
  injection hv' with ea _ ec
  subst ea ec;have hlen:(xs.drop (i.toNat*zero.length)).length=(n - i.toNat)*zero.length:=by rw[aDJ,hxl,Nat.sub_mul]
  refine⟨hlen,if cap=i.toNat then a else a.map (·.add (i.toNat*zero.length)),cap - i.toNat,rfl,by omega,?_⟩
  by_cases hz:n≤i.toNat
  ·left;omega
  ·rcases r with rfl|⟨b,o,rfl,hc⟩
   ·omega
   ·refine .inr ⟨b,o+i.toNat*zero.length,by rw[if_neg (by omega)];simp[Addr.add_lit],fun j hj=>?_⟩
    rw[hlen]at hj
    rw[Nat.add_assoc,hc (i.toNat*zero.length+j) (by rw[hxl];rw[Nat.sub_mul]at hj;omega),aDG]
theorem Reads.isS {I:Item}{sz n:Nat}{v:Value}{xs:aVs}(r:Reads I sz v n xs)(hI:I.sat h):∃ a c,v=.slice a n c:=by
 obtain⟨_,a,c,hv,_⟩:=r h hI
 exact⟨a,c,hv⟩
def gL:Item:=⟨fun _=>False,fun _=>True,fun _ _ _ _=>trivial⟩
def dW (x y:Item):Item where
 fp b:=x.fp b∨y.fp b
 sat h:=x.sat h∧y.sat h
 loc h h' e:=fun k=>⟨x.loc h h' (fun b hb=>e b (.inl hb)) k.1,y.loc h h' (fun b hb=>e b (.inr hb)) k.2⟩
theorem Own.emptyI' (o:Own B L h):Own B (gL::L) h where
 ext:=OwnR.ext o
 sat x hx:=by
  rcases aDo.1 hx with rfl|hx
  ·trivial
  ·exact OwnR.sat o x hx
 lo x hx b hb:=by
  rcases aDo.1 hx with rfl|hx
  ·exact hb.elim
  ·exact OwnR.lo o x hx b hb
 hi x hx b hb:=by
  rcases aDo.1 hx with rfl|hx
  ·exact hb.elim
  ·exact OwnR.hi o x hx b hb
 dis:=aDV.2 ⟨fun _ _ _ hb=>hb.elim,OwnR.dis o⟩
theorem Own.join {x y:Item}(o:Own B (x::y::L) h):Own B (dW x y::L) h where
 ext:=OwnR.ext o
 sat z hz:=by
  rcases aDo.1 hz with rfl|hz
  ·exact⟨OwnR.sat o x (by simp),OwnR.sat o y (by simp)⟩
  ·exact OwnR.sat o z (by simp at hz ⊢;exact .inr (.inr hz))
 lo z hz b hb:=by
  rcases aDo.1 hz with rfl|hz
  ·rcases hb with hb|hb
   ·exact OwnR.lo o x (by simp) b hb
   ·exact OwnR.lo o y (by simp) b hb
  ·exact OwnR.lo o z (by simp at hz ⊢;exact .inr (.inr hz)) b hb
 hi z hz b hb:=by
  rcases aDo.1 hz with rfl|hz
  ·rcases hb with hb|hb
   ·exact OwnR.hi o x (by simp) b hb
   ·exact OwnR.hi o y (by simp) b hb
  ·exact OwnR.hi o z (by simp at hz ⊢;exact .inr (.inr hz)) b hb
 dis:=by
  have hd:=OwnR.dis o
  simp only[lcA,aDV]at hd
  obtain⟨h1,h2,h3⟩:=hd
  refine aDV.2 ⟨fun z hz b hb=>?_,h3⟩
  rcases hb with hb|hb
  ·exact h1 z (aDX _ hz) b hb
  ·exact h2 z hz b hb
theorem dK {v:Value}{e:TypeId}{sz n:Nat}{xs:aVs}:Reads (row v e sz n xs) sz v n xs:=fun _ r=>sO.arrN r
theorem wJ {b n c sz:Nat}{cs:aVs}{t:TypeId}(hn:cs.length=n*sz)(hc:n≤c):Reads (box b cs t) sz (.slice (some ⟨b,0,none⟩) n c) n cs:=fun h r=>by
 refine⟨hn,_,c,rfl,hc,.inr ⟨b,0,rfl,fun i hi=>?_⟩⟩
 have hb:h[b]?=some (.cells cs.toArray t (0,0)):=r
 simp[aY,hb]
theorem aP {I:Item}{sz:Nat}:Reads I sz (.slice none 0 0) 0 []:=fun h _=>dF.nil sz h
theorem Reads.inl {I J:Item}{sz n:Nat}{v:Value}{xs:aVs}(r:Reads I sz v n xs):Reads (dW I J) sz v n xs:=fun h s=>r h s.1
theorem Reads.inr {I J:Item}{sz n:Nat}{v:Value}{xs:aVs}(r:Reads J sz v n xs):Reads (dW I J) sz v n xs:=fun h s=>r h s.2
end
section
variable {P : Program} {ty : TypeId} {s : aVs} {h0 : Base} {h : Heap} {L : List Item} {K : KK} {Q : QQ} {pr : Bool}
theorem StillVC.eqP {t t':TypeId}{x y:Operand}{a:Option Addr}(hp:P.underlying t=some (.pointer (P.pointee t)))(hx:ev s x=.pointer a)(hy:ev s y=.pointer none)(hk:K (.bool a.isNone) false h):StillVC pr P (.binOp .eql t x y t') ty s h K :=
 .pure' _ false (fun w=>by simp[execOp,hx,hy,eqGuard_at_pointer,run_eql_pointer_nil w t a hp]) hk
theorem RunVC.eqP {t t':TypeId}{x y:Operand}{a:Option Addr}(hp:P.underlying t=some (.pointer (P.pointee t)))(hx:ev s x=.pointer a)(hy:ev s y=.pointer none)(hk:K (.bool a.isNone) false h):RunVC P (.binOp .eql t x y t') ty s h K Q:=(StillVC.eqP hp hx hy hk).run
end
end Go.Proofs.YtohlogbnpfofpaaGreatDoor
