/- Part 1 of the proof of gaps,items: Vc, VcRules, VcMem, VcMem2, VcDraw. -/
import Derived.WalkKit
import Derived.Scope
set_option linter.all false
set_option maxHeartbeats 100000000
set_option maxRecDepth 100000
namespace Go.Proofs.YtohlogbnpfofpaaGreatDoor
open Go
theorem lcA {α : Type} {a : α} {as bs : List α} : a :: as ++ bs = a :: (as ++ bs) := rfl
theorem lnA {α : Type} (as : List α) : [] ++ as = as := rfl
theorem lgS {α : Type} {a : α} {as : List α} {i : Nat} : (a :: as)[i + 1]? = as[i]? := List.getElem?_cons_succ
theorem lgZ {α : Type} {a : α} {as : List α} : (a :: as)[0]? = some a := List.getElem?_cons_zero
theorem lgN {α : Type} {i : Nat} : ([] : List α)[i]? = none := List.getElem?_nil
theorem lsS {α : Type} {a b : α} {as : List α} {i : Nat} : (a :: as).set (i + 1) b = a :: as.set i b := List.set_cons_succ
theorem oMS {α β : Type} {f : α → β} {a : α} : (some a).map f = some (f a) := rfl
theorem oMN {α β : Type} {f : α → β} : (none : Option α).map f = none := rfl
theorem aI {a b : Prop} (x : a) (y : b) : a ∧ b := ⟨x, y⟩
theorem lsZ {α : Type} {a b : α} {as : List α} : (a :: as).set 0 b = b :: as := List.set_cons_zero
abbrev Heap:=Array Obj
def aX (h:Heap)(a:Addr):Option Value :=
  match h[a.block]? with
  | some (.cells c _ _)=>if a.spot.isSome then none else c[a.off]?
  | _=>none
theorem fK (w:World)(a:Addr):w.cell? a=aX w.heap a:=rfl
def sget:List Value→Nat→Value
  | [],_=>undef
  | v::_,0=>v
  | _::l,n+1=>sget l n
def mC (l:List Value)(n:Nat)(v:Value)(k:List Value→Prop):Prop :=
  match l,n with
  | [],_=>k []
  | _::l,0=>k (v::l)
  | x::l,n+1=>mC l n v (fun l'=>k (x::l'))
theorem fB (l:List Value)(n:Nat)(v:Value)(k:List Value→Prop):mC l n v k=k (l.set n v):=by
  induction l generalizing n k with
  | nil=>simp[mC]
  | cons x l ih=>cases n with
    | zero=>simp[mC]
    | succ n=>simp[mC,ih]
theorem dA (l:List Value)(n:Nat):l.getD n undef=sget l n:=by
  induction l generalizing n with
  | nil=>simp[sget]
  | cons x l ih=>cases n with
    | zero=>simp[sget]
    | succ n=>simpa[sget] using ih n
def ev (s:List Value):Operand→Value
  | .tmp t=>sget s t
  | .const v=>v
  | .global g=>.pointer (some ⟨g,0,none⟩)
  | .func f=>.func (.func f) #[] #[]
def pV (l:List Value)(n:Nat)(k:Value→Prop):Prop :=
  match l,n with
  | [],_=>k undef
  | v::_,0=>k v
  | _::l,n+1=>pV l n k
theorem pU (l:List Value)(n:Nat)(k:Value→Prop):pV l n k=k (sget l n):=by
  induction l generalizing n with
  | nil=>simp[pV,sget]
  | cons x l ih=>cases n with
    | zero=>simp[pV,sget]
    | succ n=>simpa[pV,sget] using ih n
def evK (s:List Value)(x:Operand)(k:Value→Prop):Prop :=
  match x with
  | .tmp t=>pV s t k
  | .const v=>k v
  | .global g=>k (.pointer (some ⟨g,0,none⟩))
  | .func f=>k (.func (.func f) #[] #[])
theorem oR (s:List Value)(x:Operand)(k:Value→Prop):evK s x k=k (ev s x):=by
  cases x<;>simp[evK,ev,pU]
def zY (s:List Value)(xs:List Operand)(k:List Value→Prop):Prop :=
  match xs with
  | []=>k []
  | x::xs=>evK s x fun v=>zY s xs fun vs=>k (v::vs)
theorem oQ (s:List Value)(xs:List Operand)(k:List Value→Prop):zY s xs k=k (xs.map (ev s)):=by
  induction xs generalizing k with
  | nil=>rfl
  | cons x xs ih=>simp[zY,oR,ih]
def nA (s:List Value)(ts:List Nat)(k:List Value→Prop):Prop :=
  match ts with
  | []=>k []
  | t::ts=>pV s t fun v=>nA s ts fun vs=>k (v::vs)
theorem uA (s:List Value)(ts:List Nat)(k:List Value→Prop):nA s ts k=k (ts.map (sget s)):=by
  induction ts generalizing k with
  | nil=>rfl
  | cons x xs ih=>simp[nA,pU,ih]
def act (s:List Value)(ds:List Deferred):Act:=⟨s.toArray,ds⟩
theorem eJ (s:List Value)(ds:List Deferred):(act s ds).eval=ev s:=by
  funext x
  cases x with
  | tmp t=>simp only[Act.eval,act,ev,← dA];simp
  | _=>rfl
theorem tV (s:List Value)(ds:List Deferred)(d:Tmp)(v:Value):(act s ds).put (some d) v=act (s.set d v) ds:=by
  simp[act,Act.put]
structure Same (w w':World):Prop where
  os:w'.os=w.os
  tape:w'.tape=w.tape
  output:w'.output=w.output
  size:w.heap.size≤w'.heap.size
theorem Same.refl (w:World):Same w w:=⟨rfl,rfl,rfl,Nat.le_refl _⟩
theorem Same.trans {a b c:World}(h:Same a b)(k:Same b c):Same a c:=⟨k.os.trans h.os,k.tape.trans h.tape,k.output.trans h.output,Nat.le_trans h.size k.size⟩
abbrev QQ:=Exit→List Value→Heap→Prop
abbrev KK:=Value→Bool→Heap→Prop
def lift (w0:World)(ds:List Deferred)(Q:QQ):Exit→Act→World→Prop :=
  fun e a w=>∃ s,a=act s ds∧Same w0 w∧Q e s w.heap
def Spec (P:Program)(f:FuncId)(args:List Value)(h:Heap)(R:Ending→Heap→Prop):Prop :=
  (∃ fn,P.funcs[f]?=some fn∧fn.body.isNone=false∧(fn.name == "runtime.NumGoroutine")=false) ∧
  ∀ w:World,w.heap=h→Calls P f args.toArray w fun e w'=>Same w w'∧R e w'.heap
def Ret (Post:Value→Heap→Prop):Ending→Heap→Prop
  | .returned v,h=>Post v h
  | _,_=>False
abbrev cK (P:Program)(f:FuncId)(args:List Value)(h:Heap)(Post:Value→Heap→Prop):Prop:=Spec P f args h (Ret Post)
theorem Spec.mono {P:Program}{f:FuncId}{args:List Value}{h:Heap}{R R':Ending→Heap→Prop}(s:Spec P f args h R)(hr:∀ e h',R e h'→R' e h'):Spec P f args h R' :=
  ⟨s.1,fun w hw=>(s.2 w hw).mono fun _ _ ⟨a,b⟩=>⟨a,hr _ _ b⟩⟩
theorem cK.mono {P:Program}{f:FuncId}{args:List Value}{h:Heap}{R R':Value→Heap→Prop}(s:cK P f args h R)(hr:∀ v h',R v h'→R' v h'):cK P f args h R' :=
  Spec.mono s fun e h'=>by cases e<;>first|exact hr _ _|exact id
structure Ar (k:IntKind) (n:Int) (K:Value→Prop):Prop where
  h:K (.int k (k.wrap n))
structure Br (t:Bool) (A B:Prop) (_a _b:Code:=.skip):Prop where
  y:t=true→A
  n:t=false→B
structure RunVC (P:Program) (op:Op) (ty:TypeId) (s:List Value) (h:Heap) (K:KK) (Q:QQ):Prop where
  run:∀(w:World),w.heap=h→∀(ds:List Deferred) (dst:Option Tmp) (pos:String) (after:Array Edge) (guard:Option (Nat×Bool))
    (next:Act→World→Prop) (Q':Exit→Act→World→Prop),
    (∀ v l w',Same w w'→K v l w'.heap→next ((act s ds).put dst v) w') →
    (∀ chain w',Same w w'→Q (.panic chain) s w'.heap→Q' (.panic chain) (act s ds) w') →
    Oper.wp P ⟨dst,op,ty,pos,after,guard⟩ (act s ds) w next Q'
structure StillVC (pr:Bool) (P:Program) (op:Op) (ty:TypeId) (s:List Value) (h:Heap) (K:KK):Prop where
  ex:∃(v:Value) (l:Bool) (reads:List (Addr×Value)),(pr=true→reads=[])∧(∀ r∈reads,aX h r.1=some r.2) ∧
    (∀ w:World,(∀ r∈reads,w.cell? r.1=some r.2)→(execOp (ev s) ⟨none,op,ty, "",#[],none⟩).run P w=.ok (.value v) w)∧K v l h
def XSpec (P:Program)(f:FuncId)(args:List Value)(h:Heap)(R:Ending→Heap→Prop):Prop :=
  ∀ w:World,w.heap=h→∃ v w',(callFunc f args.toArray).run P w=.ok (.value v) w'∧Same w w'∧R (.returned v) w'.heap
def CSpec (P:Program)(f:FuncId)(args:List Value)(h:Heap)(R:Ending→Heap→Prop):Prop:=Spec P f args h R∨XSpec P f args h R
structure CallVC (P:Program) (g:FuncId) (args:List Value) (s:List Value) (h:Heap) (K:KK) (Q:QQ):Prop where
  spec:∃ R:Ending→Heap→Prop,CSpec P g args h R∧(∀ v h',R (.returned v) h'→K v false h')∧(∀ c h',R (.panicked c) h'→Q (.panic c) s h')∧∀ h',¬ R .outgrown h'
def zW (N:List Value→Heap→Prop)(Q:QQ):QQ
  | .normal,s,h=>N s h
  | e,s,h=>Q e s h
structure LoopVC (B:QQ→List Value→Heap→Prop) (Q:QQ) (s:List Value) (h:Heap):Prop where
  ex:∃(I:List Value→Heap→Prop) (μ:List Value→Heap→Nat),I s h ∧
    ∀ s h,I s h→B (zW (fun s' h'=>I s' h'∧μ s' h'<μ s h) Q) s h
structure DrawVC (P:Program) (id:Nat) (ops:Array Oper) (s:List Value) (h:Heap) (Q:QQ):Prop where
  wp:∀(w0 w:World) (ds:List Deferred),w.heap=h→Same w0 w→(Code.region id ops true).wp P (lift w0 ds Q) (act s ds) w
def kn:IntKind→Nat
  | .i8=>0|.i16=>1|.i32=>2|.i64=>3|.u8=>4|.u16=>5|.u32=>6|.u64=>7
theorem kn_inj {a b:IntKind}(h:Nat.beq (kn a) (kn b)=true):a=b:=by
  revert h;cases a<;>cases b<;>decide
def mem:List Nat→Nat→Bool
  | [],_=>false
  | x::l,n=>bif Nat.beq x n then true else mem l n
def lit (D:List Nat):Operand→Bool
  | .tmp t=>mem D t
  | .const (.bool _)=>true
  | _=>false
def vbin (op:BinOp)(x y:Value)(K:Value→Prop)(F:Prop):Prop :=
  match x,y with
  | .int k a,.int k' b =>
    bif Nat.beq (kn k) (kn k') then
      match op with
      | .add=>Ar k (a+b) K
      | .sub=>Ar k (a - b) K
      | .mul=>Ar k (a*b) K
      | .eql=>K (.bool (decide (a=b)))
      | .neq=>K (.bool (!decide (a=b)))
      | .lss=>K (.bool (decide (a<b)))
      | .leq=>K (.bool (decide (a≤b)))
      | .gtr=>K (.bool (decide (b<a)))
      | .geq=>K (.bool (decide (b≤a)))
      | _=>F
    else F
  | .string ⟨⟨a⟩⟩,.string ⟨⟨b⟩⟩ =>
    match op with
    | .eql=>K (.bool (decide (a=b)))
    | .neq=>K (.bool (!decide (a=b)))
    | _=>F
  | _,_=>F
def vopF (F:Prop)(C:FuncId→List Value→Prop)(op:Op)(D:List Nat)(s:List Value)(h:Heap)(K:KK):Prop :=
  match op with
  | .move x=>evK s x fun v=>K v (lit D x) h
  | .assign x=>evK s x fun v=>K v (lit D x) h
  | .pick c a b =>
    match lit D c with
    | true=>(match ev s c with
      | .bool true=>evK s a fun v=>K v (lit D a) h
      | .bool false=>evK s b fun v=>K v (lit D b) h
      | _=>False)
    | false=>(match ev s c with
      | .bool t=>Br t (evK s a fun v=>K v (lit D a) h) (evK s b fun v=>K v (lit D b) h)
      | _=>False)
  | .binOp bop _ x y _=>vbin bop (ev s x) (ev s y) (fun v=>K v false h) F
  | .unOp .not _ x =>
    match ev s x with
    | .bool b=>K (.bool (!b)) (lit D x) h
    | _=>F
  | .unOp .neg _ x =>
    match ev s x with
    | .int k n=>Ar k (0 - n) fun v=>K v false h
    | _=>F
  | .extract t i =>
    match ev s t with
    | .tuple ⟨vs⟩=>(match vs[i]? with
      | some v=>K v false h
      | none=>False)
    | _=>False
  | .call ⟨.value f,⟨args⟩,_⟩ =>
    match ev s f with
    | .func (.func g) ⟨first⟩ ⟨cap⟩=>zY s args fun vs=>C g (first++(vs++cap))
    | _=>F
  | _=>F
def vop (P:Program)(op:Op)(ty:TypeId)(D:List Nat)(s:List Value)(h:Heap)(K:KK)(Q:QQ):Prop :=
  vopF (RunVC P op ty s h K Q) (fun g args=>CallVC P g args s h K Q) op D s h K
def vopS (pr:Bool)(P:Program)(op:Op)(ty:TypeId)(D:List Nat)(s:List Value)(h:Heap)(K:KK):Prop :=
  vopF (StillVC pr P op ty s h K) (fun _ _=>False) op D s h K
theorem dP (ρ:Operand→Value)(dst:Option Tmp)(op:Op)(ty:TypeId)(pos:String)(after:Array Edge)(guard:Option (Nat×Bool)) :
    execOp ρ ⟨dst,op,ty,pos,after,guard⟩=execOp ρ ⟨none,op,ty, "",#[],none⟩:=by
  cases op<;>rfl
theorem RunVC.of {P:Program}{op:Op}{ty:TypeId}{s:List Value}{h:Heap}{K:KK}{Q:QQ}
    (hr:∀ w:World,w.heap=h→∃ v l w',(execOp (ev s) ⟨none,op,ty, "",#[],none⟩).run P w=.ok (.value v) w'∧Same w w'∧K v l w'.heap):RunVC P op ty s h K Q where
  run w hw ds dst pos after guard next Q' hn _:=by
    obtain⟨v,l,w',hrun,hs,hk⟩:=hr w hw
    simp only[Oper.wp,eJ,dP,hrun,Oper.upon]
    exact hn v l w' hs hk
theorem RunVC.of_skip {P:Program}{op:Op}{ty:TypeId}{s:List Value}{h:Heap}{K:KK}{Q:QQ}
    (hr:∀ w:World,w.heap=h→∃ w',(execOp (ev s) ⟨none,op,ty, "",#[],none⟩).run P w=.ok .skip w'∧Same w w'∧K undef false w'.heap):RunVC P op ty s h K Q where
  run w hw ds dst pos after guard next Q' hn _:=by
    obtain⟨w',hrun,hs,hk⟩:=hr w hw
    simp only[Oper.wp,eJ,dP,hrun,Oper.upon]
    exact hn undef false w' hs hk
theorem RunVC.panics {P:Program}{op:Op}{ty:TypeId}{s:List Value}{h:Heap}{K:KK}{Q:QQ}
    (hr:∀ w:World,w.heap=h→∃ v w',(execOp (ev s) ⟨none,op,ty, "",#[],none⟩).run P w=.halt (.panic v) w'∧Same w w'∧Q (.panic [{ v,recovered:=false }]) s w'.heap):RunVC P op ty s h K Q where
  run w hw ds dst pos after guard next Q' _ hp:=by
    obtain⟨v,w',hrun,hs,hk⟩:=hr w hw
    simp only[Oper.wp,eJ,dP,hrun,Oper.upon]
    exact hp _ w' hs hk
theorem StillVC.run {P:Program}{op:Op}{ty:TypeId}{s:List Value}{h:Heap}{K:KK}{Q:QQ}(r:StillVC false P op ty s h K):RunVC P op ty s h K Q:=by
  obtain⟨v,l,reads,_,hr,hw,hk⟩:=r.ex
  exact .of fun w e=>⟨v,l,w,hw w (fun x hm=>by subst e;exact hr x hm),.refl w,e▸hk⟩
theorem StillVC.pure' {pr:Bool}{P:Program}{op:Op}{ty:TypeId}{s:List Value}{h:Heap}{K:KK}(v:Value)(l:Bool)
    (hr:∀ w:World,(execOp (ev s) ⟨none,op,ty, "",#[],none⟩).run P w=.ok (.value v) w) (hk:K v l h):StillVC pr P op ty s h K :=
  ⟨v,l,[],fun _=>rfl,by simp,fun w _=>hr w,hk⟩
theorem RunVC.pure' {P:Program}{op:Op}{ty:TypeId}{s:List Value}{h:Heap}{K:KK}{Q:QQ}(v:Value)(l:Bool)
    (hr:∀ w:World,(execOp (ev s) ⟨none,op,ty, "",#[],none⟩).run P w=.ok (.value v) w) (hk:K v l h):RunVC P op ty s h K Q :=
  .of fun w hw=>⟨v,l,w,hr w,.refl w,hw▸hk⟩
theorem rJ {α:Type} [BEq α] [LawfulBEq α] [DecidableEq α] (a b:α):(a == b)=decide (a=b):=by
  rw[Bool.eq_iff_iff];simp
theorem aAg (a:List UInt8):(⟨⟨a⟩⟩:ByteArray).toList=a:=by rw[ByteArray.toList_eq]
theorem vbin_sound {pr:Bool}{P:Program}{bop:BinOp}{t ty t':TypeId}{x y:Operand}{s:List Value}{h:Heap}{K:KK}{F:Prop}
    (hv:vbin bop (ev s x) (ev s y) (fun v=>K v false h) F):F∨StillVC pr P (.binOp bop t x y t') ty s h K:=by
  unfold vbin at hv;split at hv
  · rename_i k a k' b hx hy
    cases hk:Nat.beq (kn k) (kn k') with
    | false=>rw[hk]at hv;exact .inl hv
    | true =>
      rw[hk]at hv
      have:=kn_inj hk;subst this
      simp only[cond_true]at hv
      cases bop<;>simp only at hv<;>first
        | exact .inl hv
        | exact .inr (.pure' (.int k (k.wrap (a+b))) false (fun w=>by simp[execOp,hx,hy,eqGuard_add,binOp_add,Op.intArith]) hv.h)
        | exact .inr (.pure' (.int k (k.wrap (a - b))) false (fun w=>by simp[execOp,hx,hy,eqGuard_sub,binOp_sub,Op.intArith]) hv.h)
        | exact .inr (.pure' (.int k (k.wrap (a*b))) false (fun w=>by simp[execOp,hx,hy,eqGuard_mul,binOp_mul,Op.intArith]) hv.h)
        | exact .inr (.pure' _ false (fun w=>by simp[execOp,hx,hy,eqGuard_at_int,binOp_eql,binOp_neq,binOp_lss,binOp_leq,binOp_gtr,binOp_geq,rJ,bne]) hv)
  · rename_i a b hx hy
    cases bop<;>simp only at hv<;>first
      | exact .inl hv
      | exact .inr (.pure' _ false (fun w=>by simp[execOp,hx,hy,eqGuard_at_string,binOp,Op.stringOp,rJ]) hv)
  · exact .inl hv
theorem rS {pr:Bool}{P:Program}{op:Op}{ty:TypeId}{D:List Nat}{s:List Value}{h:Heap}{K:KK}{F:Prop}{C:FuncId→List Value→Prop}
    (hv:vopF F C op D s h K):F∨StillVC pr P op ty s h K ∨
      ∃ f args tys g first cap,op=.call ⟨.value f,⟨args⟩,tys⟩∧ev s f=.func (.func g) ⟨first⟩ ⟨cap⟩∧C g (first++(args.map (ev s)++cap)):=by
  unfold vopF at hv
  simp only[oR,oQ]at hv
  split at hv
  · exact .inr (.inl (.pure' _ _ (fun w=>by simp[execOp]) hv))
  · exact .inr (.inl (.pure' _ _ (fun w=>by simp[execOp]) hv))
  · rename_i c a b
    cases hl:lit D c with
    | true =>
      rw[hl]at hv;simp only at hv
      split at hv
      · rename_i hc;exact .inr (.inl (.pure' _ _ (fun w=>by simp[execOp,hc,asBool]) hv))
      · rename_i hc;exact .inr (.inl (.pure' _ _ (fun w=>by simp[execOp,hc,asBool]) hv))
      · exact hv.elim
    | false =>
      rw[hl]at hv;simp only at hv
      split at hv
      · rename_i t hc
        cases t with
        | true=>exact .inr (.inl (.pure' _ _ (fun w=>by simp[execOp,hc,asBool]) (hv.y rfl)))
        | false=>exact .inr (.inl (.pure' _ _ (fun w=>by simp[execOp,hc,asBool]) (hv.n rfl)))
      · exact hv.elim
  · rcases vbin_sound (pr:=pr) (P:=P) hv with h|h
    · exact .inl h
    · exact .inr (.inl h)
  · split at hv
    · rename_i b hx;exact .inr (.inl (.pure' _ _ (fun w=>by simp[execOp,hx,Op.unary]) hv))
    · exact .inl hv
  · split at hv
    · rename_i k n hx;exact .inr (.inl (.pure' (.int k (k.wrap (0 - n))) false (fun w=>by simp[execOp,hx,Op.unary,Op.intArith]) hv.h))
    · exact .inl hv
  · split at hv
    · rename_i vs hx
      split at hv
      · rename_i v hi;exact .inr (.inl (.pure' _ _ (fun w=>by simp[execOp,hx,Instr.extract,hi]) hv))
      · exact hv.elim
    · exact hv.elim
  · rename_i f args tys
    split at hv
    · rename_i g first cap hf
      exact .inr (.inr ⟨f,args,tys,g,first,cap,rfl,hf,hv⟩)
    · exact .inl hv
  · exact .inl hv
theorem lU {pr:Bool}{P:Program}{op:Op}{ty:TypeId}{D:List Nat}{s:List Value}{h:Heap}{K:KK}(hv:vopS pr P op ty D s h K):StillVC pr P op ty s h K:=by
  rcases rS (pr:=pr) (P:=P) (ty:=ty) hv with h|h|⟨_,_,_,_,_,_,_,_,h⟩
  · exact h
  · exact h
  · exact h.elim
theorem nK {P:Program}{op:Op}{ty:TypeId}{D:List Nat}{s:List Value}{h:Heap}{K:KK}{Q:QQ}
    (hv:vop P op ty D s h K Q):RunVC P op ty s h K Q:=by
  rcases rS (pr:=false) (P:=P) (ty:=ty) hv with h|h|⟨f,args,tys,g,first,cap,rfl,hf,hv⟩
  · exact h
  · exact h.run
  · obtain⟨R,hC,hr,hp,ho⟩:=hv.spec
    refine⟨fun w hw ds dst pos after guard next Q' hn hq=>?_⟩
    rcases hC with ⟨⟨fn,hfn,hbody,hname⟩,hspec⟩|hX
    case inr =>
      obtain⟨v,w',hrun,hs,hR⟩:=hX w hw
      have hrun':(execOp (ev s) ⟨none,.call ⟨.value f,⟨args⟩,tys⟩,ty, "",#[],none⟩).run P w=.ok (.value v) w':=by
        simpa[execOp,resolve,hf,Deferred.ofValue,invoke] using hrun
      simp only[Oper.wp,eJ,dP,hrun',Oper.upon]
      exact hn v false w' hs (hr v _ hR)
    have hrun:(execOp (ev s) ⟨none,.call ⟨.value f,⟨args⟩,tys⟩,ty, "",#[],none⟩).run P w=.ok (.enter g (first++(args.map (ev s)++cap)).toArray) w:=by
      have h1:¬ fn.name = "runtime.NumGoroutine":=by simpa using hname
      have h2:¬ fn.body=none:=by intro e;simp[e]at hbody
      simp[execOp,resolve,hf,Deferred.ofValue,invoke,callFunc,hfn,h1,h2]
    simp only[Oper.wp,eJ,dP,hrun,Oper.upon]
    refine(hspec w hw).mono fun e w' ⟨hs,hR⟩=>?_
    cases e with
    | returned v=>exact hn v false w' hs (hr v _ hR)
    | panicked c=>exact hq c w' hs (hp c _ hR)
    | outgrown=>exact(ho _ hR).elim
def lF:List Oper→Nat→Option Tmp
  | [],_=>none
  | o::_,0=>o.dst
  | _::l,n+1=>lF l n
theorem dstOf_eq (l:List Oper)(j:Nat):(l[j]?).bind (·.dst)=lF l j:=by
  induction l generalizing j with
  | nil=>simp[lF]
  | cons o l ih=>cases j with
    | zero=>simp[lF]
    | succ j=>simpa[lF] using ih j
def dL (s:List Value)(d:Option Tmp)(v:Value)(k:List Value→Prop):Prop :=
  match d with
  | none=>k s
  | some d=>mC s d v k
def sput (s:List Value)(d:Option Tmp)(v:Value):List Value :=
  match d with
  | none=>s
  | some d=>s.set d v
theorem fT (s:List Value)(d:Option Tmp)(v:Value)(k:List Value→Prop):dL s d v k=k (sput s d v):=by
  cases d with
  | none=>rfl
  | some d=>exact fB _ _ _ _
theorem iE (s:List Value)(ds:List Deferred)(d:Option Tmp)(v:Value):(act s ds).put d v=act (sput s d v) ds:=by
  cases d with
  | none=>rfl
  | some d=>exact tV _ _ _ _
def del:List Nat→Nat→List Nat
  | [],_=>[]
  | x::l,n=>bif Nat.beq x n then del l n else x::del l n
def fJ (D:List Nat)(d:Option Tmp)(l:Bool):List Nat :=
  match d with
  | none=>D
  | some d=>bif l then d::D else del D d
def vstep (P:Program)(L:List Oper)(o:Oper)(ih:List Nat→List Value→Heap→QQ→Prop)(D:List Nat)(s:List Value)(h:Heap)(Q:QQ):Prop :=
  match o with
  | ⟨dst,op,ty,_,_,none⟩ =>
    vop P op ty D s h (fun v l h'=>dL s dst v fun s'=>ih (fJ D dst l) s' h' Q) Q
  | ⟨dst,op,ty,_,_,some (j,want)⟩ =>
    match lF L j with
    | none=>False
    | some g =>
      match mem D g with
      | true =>
        (match sget s g with
        | .bool true =>
          (match want with
          | true=>vop P op ty D s h (fun v l h'=>dL s dst v fun s'=>ih (fJ D dst l) s' h' Q) Q
          | false=>dL s dst undef fun s'=>ih (fJ D dst false) s' h Q)
        | .bool false =>
          (match want with
          | true=>dL s dst undef fun s'=>ih (fJ D dst false) s' h Q
          | false=>vop P op ty D s h (fun v l h'=>dL s dst v fun s'=>ih (fJ D dst l) s' h' Q) Q)
        | _=>dL s dst undef fun s'=>ih (fJ D dst false) s' h Q)
      | false =>
        (match sget s g with
        | .bool t =>
          Br t
            (mC s g (.bool true) fun s =>
              match want with
              | true=>vop P op ty (g::D) s h (fun v l h'=>dL s dst v fun s'=>ih (fJ (g::D) dst l) s' h' Q) Q
              | false=>dL s dst undef fun s'=>ih (fJ (g::D) dst false) s' h Q)
            (mC s g (.bool false) fun s =>
              match want with
              | true=>dL s dst undef fun s'=>ih (fJ (g::D) dst false) s' h Q
              | false=>vop P op ty (g::D) s h (fun v l h'=>dL s dst v fun s'=>ih (fJ (g::D) dst l) s' h' Q) Q)
        | _=>dL s dst undef fun s'=>ih (fJ D dst false) s' h Q)
def vreg (P:Program)(L:List Oper)(l:List Oper):List Nat→List Value→Heap→QQ→Prop :=
  List.rec (motive:=fun _=>List Nat→List Value→Heap→QQ→Prop) (fun _ s h Q=>Q .normal s h) (fun o _ ih=>vstep P L o ih) l
theorem rC (P:Program)(L:List Oper)(o:Oper)(rest:List Oper)(D:List Nat)(s:List Value)(h:Heap)(Q:QQ):vreg P L (o::rest) D s h Q=vstep P L o (vreg P L rest) D s h Q:=rfl
theorem gO (s:List Value)(g:Nat)(v:Value)(h:sget s g=v):s.set g v=s:=by
  induction s generalizing g with
  | nil=>rfl
  | cons x s ih=>cases g with
    | zero=>simp only[sget]at h;subst h;rfl
    | succ g=>simp only[sget]at h;simp[ih g h]
theorem sget_some {s:List Value}{g:Nat}{t:Bool}(h:sget s g=.bool t):s[g]?=some (.bool t):=by
  induction s generalizing g with
  | nil=>simp[sget,undef]at h
  | cons x s ih=>cases g with
    | zero=>simp only[sget]at h;simp[h]
    | succ g=>simp only[sget]at h;simpa using ih h
theorem dU {ops:Array Oper}{s:List Value}{ds:List Deferred}{j g:Nat}{t:Bool}(hd:lF ops.toList j=some g)(hs:sget s g=.bool t) :
    yielded ops (act s ds).tmps j=some t:=by
  have h1:(ops[j]?).bind (·.dst)=some g:=by rw[← hd,← dstOf_eq];simp
  simp[yielded,h1,act,sget_some hs]
theorem eK {ops:Array Oper}{s:List Value}{ds:List Deferred}{j g:Nat}(hd:lF ops.toList j=some g)(hs:∀ t,sget s g=.bool t→False) :
    yielded ops (act s ds).tmps j=none:=by
  have h1:(ops[j]?).bind (·.dst)=some g:=by rw[← hd,← dstOf_eq];simp
  unfold yielded;split
  · rename_i b hb
    rw[h1]at hb
    simp only[Option.bind_some,act,List.getElem?_toArray]at hb
    refine(hs b ?_).elim
    rw[← dA,List.getD_eq_getElem?_getD,hb]
    rfl
  · rfl
theorem pL {P:Program}{ops:Array Oper}{Q:QQ}{rest:List Oper}{w0 w:World}{ds:List Deferred}{s:List Value}{D:List Nat}
    {dst:Option Tmp} {op:Op} {ty:TypeId} {pos:String} {after:Array Edge} {guard:Option (Nat×Bool)}
    (ih:∀ D s w,Same w0 w→vreg P ops.toList rest D s w.heap Q→wpList P ops (lift w0 ds Q) rest (act s ds) w)
    (hs:Same w0 w) (D':List Nat→Bool→List Nat)
    (hv:vop P op ty D s w.heap (fun v l h'=>dL s dst v fun s'=>vreg P ops.toList rest (D' D l) s' h' Q) Q) :
    Oper.wp P ⟨dst,op,ty,pos,after,guard⟩ (act s ds) w (wpList P ops (lift w0 ds Q) rest) (lift w0 ds Q) :=
  (nK hv).run w rfl ds dst pos after guard _ _
    (fun v l w' hw' hk=>by rw[iE];rw[fT]at hk;exact ih _ _ _ (hs.trans hw') hk)
    (fun c w' hw' hq=>⟨s,rfl,hs.trans hw',hq⟩)
theorem iZ {P:Program}{ops:Array Oper}{Q:QQ}{w0:World}{ds:List Deferred}:∀(l:List Oper)(D:List Nat)(s:List Value)(w:World),
    Same w0 w→vreg P ops.toList l D s w.heap Q→wpList P ops (lift w0 ds Q) l (act s ds) w
  | [],_,s,w,hs,hv=>⟨s,rfl,hs,hv⟩
  | ⟨dst,op,ty,pos,after,none⟩::rest,D,s,w,hs,hv=>by
    simp only[rC,vstep]at hv
    unfold wpList
    rw[if_pos (by simp[Region.wanted])]
    exact .inl (pL (iZ rest) hs (fun D l=>fJ D dst l) hv)
  | ⟨dst,op,ty,pos,after,some (j,want)⟩::rest,D,s,w,hs,hv=>by
    simp only[rC,vstep]at hv
    cases hd:lF ops.toList j with
    | none=>simp[hd]at hv
    | some g =>
      simp only[hd]at hv
      have skip:∀(s:List Value) (D:List Nat),(dL s dst undef fun s'=>vreg P ops.toList rest D s' w.heap Q)→wpList P ops (lift w0 ds Q) rest ((act s ds).put dst undef) w:=fun s D hk=>by
        rw[iE];rw[fT]at hk;exact iZ rest _ _ _ hs hk
      cases hm:mem D g with
      | true =>
        simp only[hm]at hv
        split at hv
        · rename_i hg
          have hy:=dU (ds:=ds) hd hg;unfold wpList;cases want with
          | true =>
            rw[if_pos (by simp[Region.wanted,hy])]
            exact .inl (pL (iZ rest) hs (fun D l=>fJ D dst l) hv)
          | false =>
            rw[if_neg (by simp[Region.wanted,hy])]
            exact skip _ _ hv
        · rename_i hg
          have hy:=dU (ds:=ds) hd hg;unfold wpList;cases want with
          | false =>
            rw[if_pos (by simp[Region.wanted,hy])]
            exact .inl (pL (iZ rest) hs (fun D l=>fJ D dst l) hv)
          | true =>
            rw[if_neg (by simp[Region.wanted,hy])]
            exact skip _ _ hv
        · rename_i h1 h2
          have hy:=eK (ds:=ds) (s:=s) hd (fun t e=>match t,e with|true,e=>h1 e|false,e=>h2 e);unfold wpList
          rw[if_neg (by simp[Region.wanted,hy])]
          exact skip _ _ hv
      | false =>
        simp only[hm]at hv
        split at hv
        · rename_i t hg
          have hy:=dU (ds:=ds) hd hg;unfold wpList;cases t with
          | true =>
            have hv:=hv.y rfl
            rw[fB,gO s g _ hg]at hv
            cases want with
            | true =>
              rw[if_pos (by simp[Region.wanted,hy])]
              exact .inl (pL (iZ rest) hs (fun D l=>fJ D dst l) hv)
            | false =>
              rw[if_neg (by simp[Region.wanted,hy])]
              exact skip _ _ hv
          | false =>
            have hv:=hv.n rfl
            rw[fB,gO s g _ hg]at hv
            cases want with
            | false =>
              rw[if_pos (by simp[Region.wanted,hy])]
              exact .inl (pL (iZ rest) hs (fun D l=>fJ D dst l) hv)
            | true =>
              rw[if_neg (by simp[Region.wanted,hy])]
              exact skip _ _ hv
        · rename_i h1
          have hy:=eK (ds:=ds) (s:=s) hd (fun t e=>h1 t e);unfold wpList
          rw[if_neg (by simp[Region.wanted,hy])]
          exact skip _ _ hv
structure RegVC (P:Program) (id:Nat) (ops:Array Oper) (s:List Value) (h:Heap) (Q:QQ):Prop where
  wp:∀(w0 w:World) (ds:List Deferred),w.heap=h→Same w0 w→(Code.region id ops false).wp P (lift w0 ds Q) (act s ds) w
def sT:List Oper→Bool
  | []=>false
  | o::rest=>match o.op with
    | .call ⟨.value (.tmp _),_,_⟩=>true
    | _=>sT rest
def vregion (P:Program)(id:Nat)(ops:Array Oper)(draw:Bool)(Q:QQ)(s:List Value)(h:Heap):Prop :=
  match draw with
  | true=>DrawVC P id ops s h Q
  | false=>match sT ops.toList with
    | true=>RegVC P id ops s h Q
    | false=>vreg P ops.toList ops.toList [] s h Q
theorem RegVC.plain {P:Program}{id:Nat}{ops:Array Oper}{s:List Value}{h:Heap}{Q:QQ}(hv:vreg P ops.toList ops.toList [] s h Q):RegVC P id ops s h Q where
  wp w0 w ds hw hs:=by subst hw;exact wp_region_list (iZ _ _ _ _ hs hv)
def vcond (a b:Code)(c:Operand)(A B:QQ→List Value→Heap→Prop)(Q:QQ)(s:List Value)(h:Heap):Prop :=
  match ev s c with
  | .bool t=>Br t (A Q s h) (B Q s h) a b
  | _=>False
def outQ (id:Nat)(Q:QQ):QQ:=fun e s h =>
  match e with
  | .exit id'=>(match Nat.beq id' id with|true=>Q .normal s h|false=>Q (.exit id') s h)
  | e=>Q e s h
def ngQ (Q:QQ):QQ:=fun e s h =>
  match e with
  | .goto _=>False
  | e=>Q e s h
def vcode (P:Program)(c:Code):QQ→List Value→Heap→Prop :=
  Code.rec (motive:=fun _=>QQ→List Value→Heap→Prop)
    (fun Q s h=>Q .normal s h)
    (fun id ops draw=>vregion P id ops draw)
    (fun _ _ A B Q s h=>A (zW (fun s h=>B Q s h) Q) s h)
    (fun c a b A B=>vcond a b c A B)
    (fun id _ B Q s h=>B (outQ id Q) s h)
    (fun _ B Q s h=>LoopVC B Q s h)
    (fun _ _ _ _ _ _ _ _ _=>False)
    (fun id Q s h=>Q (.exit id) s h)
    (fun _ B Q s h=>B (ngQ Q) s h)
    (fun _ Q s h=>Q .normal s h)
    (fun _ _ _ _=>False)
    (fun Q s h=>Q .ret s h)
    (fun _ _ _ _=>False) c
theorem xB (P:Program)(c:Operand)(a b:Code)(Q:QQ)(s:List Value)(h:Heap):vcode P (.cond c a b) Q s h=vcond a b c (vcode P a) (vcode P b) Q s h:=rfl
theorem dF {P:Program}{w0:World}{ds:List Deferred}:∀(c:Code)(Q:QQ)(s:List Value)(w:World),Same w0 w→vcode P c Q s w.heap →
    c.wp P (lift w0 ds Q) (act s ds) w:=by
  intro c
  induction c with
  | skip=>intro Q s w hs hv;exact wp_skip ⟨s,rfl,hs,hv⟩
  | region id ops draw =>
    intro Q s w hs hv;cases draw with
    | true=>exact hv.wp w0 w ds rfl hs
    | false =>
      cases hc:sT ops.toList with
      | true=>exact RegVC.wp (by simpa only[vcode,vregion,hc] using hv) w0 w ds rfl hs
      | false=>exact(RegVC.plain (by simpa only[vcode,vregion,hc] using hv)).wp w0 w ds rfl hs
  | seq a b iha ihb =>
    intro Q s w hs hv;refine wp_seq (wp_mono (iha _ s w hs hv) ?_);rintro e a' w' ⟨s',rfl,hs',hq⟩;cases e with
    | normal=>exact ihb Q s' w' hs' hq
    | _=>exact⟨s',rfl,hs',hq⟩
  | cond c a b iha ihb =>
    intro Q s w hs hv
    simp only[xB,vcond]at hv
    split at hv
    · rename_i t ht
      refine wp_cond_split (t:=t) (by rw[eJ];exact ht) (fun h=>iha Q s w hs (hv.y h)) (fun h=>ihb Q s w hs (hv.n h))
    · exact hv.elim
  | block id b ih =>
    intro Q s w hs hv;refine wp_block (wp_mono (ih _ s w hs hv) ?_);rintro e a' w' ⟨s',rfl,hs',hq⟩;cases e with
    | exit id' =>
      simp only[Exit.inBlock]
      simp only[outQ]at hq
      cases hb:Nat.beq id' id with
      | true=>rw[hb]at hq;rw[if_pos (Nat.eq_of_beq_eq_true hb)];exact⟨s',rfl,hs',hq⟩
      | false=>rw[hb]at hq;rw[if_neg (Nat.ne_of_beq_eq_false hb)];exact⟨s',rfl,hs',hq⟩
    | _=>exact⟨s',rfl,hs',hq⟩
  | loop b ih =>
    intro Q s w hs hv
    obtain⟨I,μ,h0,hr⟩:=hv.ex
    refine wp_loop (fun a w'=>∃ s',a=act s' ds∧Same w0 w'∧I s' w'.heap) (fun a w'=>μ a.tmps.toList w'.heap) ⟨s,rfl,hs,h0⟩ ?_;rintro _ w1 ⟨s1,rfl,hs1,hI⟩;refine wp_mono (ih _ s1 w1 hs1 (hr s1 _ hI)) ?_;rintro e a' w' ⟨s',rfl,hs',hq⟩;cases e with
    | normal=>exact⟨⟨s',rfl,hs',hq.1⟩,by simpa[act] using hq.2⟩
    | _=>exact⟨s',rfl,hs',hq⟩
  | exit id=>intro Q s w hs hv;exact wp_exit ⟨s,rfl,hs,hv⟩
  | scope b ih =>
    intro Q s w hs hv;refine wp_scope_straight (wp_mono (ih _ s w hs hv) ?_);rintro e a' w' ⟨s',rfl,hs',hq⟩;cases e with
    | goto l=>exact hq.elim
    | _=>exact⟨s',rfl,hs',hq⟩
  | label l=>intro Q s w hs hv;exact wp_label ⟨s,rfl,hs,hv⟩
  | ret=>intro Q s w hs hv;exact wp_ret ⟨s,rfl,hs,hv⟩
  | _=>intro Q s w hs hv;exact hv.elim
structure RetVC (P:Program) (fn:Func) (s:List Value) (h:Heap) (R:Value→Heap→Prop):Prop where
  ex:∃ v,(∀ w:World,w.heap=h→(results fn s.toArray).run P w=.ok v w)∧R v h
def yY (P:Program)(fn:Func)(R:Ending→Heap→Prop):QQ:=fun e s h =>
  match e with
  | .normal=>RetVC P fn s h fun v h=>R (.returned v) h
  | .ret=>RetVC P fn s h fun v h=>R (.returned v) h
  | .panic c=>R (.panicked c) h
  | _=>False
def padK:Nat→(List Value→Prop)→Prop
  | 0,k=>k []
  | n+1,k=>padK n fun l=>k (undef::l)
theorem padK_eq (n:Nat)(k:List Value→Prop):padK n k=k (List.replicate n undef):=by
  induction n generalizing k with
  | zero=>rfl
  | succ n ih=>simp[padK,ih,List.replicate_succ]
def mL (args:List Value)(n:Nat)(k:List Value→Prop):Prop :=
  match args,n with
  | [],n=>padK n k
  | a::l,n+1=>mL l n fun l'=>k (a::l')
  | a::l,0=>mL l 0 fun l'=>k (a::l')
theorem nX (args:List Value)(n:Nat)(k:List Value→Prop):mL args n k=k (args++List.replicate (n - args.length) undef):=by
  induction args generalizing n k with
  | nil=>simp[mL,padK_eq]
  | cons a l ih=>cases n with
    | zero=>simp[mL,ih]
    | succ n=>simp[mL,ih,Nat.add_sub_add_right]
theorem Spec.enter {P:Program}{f:FuncId}{fn:Func}{c:Code}{n:Nat}{args:List Value}{h:Heap}{R:Ending→Heap→Prop}
    (hf:P.funcs[f]?=some fn) (hb:fn.body=some c) (hn:fn.ntmps=n) (hname:(fn.name == "runtime.NumGoroutine")=false)
    (hv:mL args n fun s=>vcode P c (yY P fn R) s h):Spec P f args h R:=by
  refine⟨⟨fn,hf,by simp[hb],hname⟩,fun w hw=>?_⟩
  subst hw
  rw[nX]at hv
  have hwp:=dF (w0:=w) (ds:=[]) c _ _ w (.refl w) hv;have he:act (args++List.replicate (n - args.length) undef) []={ tmps:=args.toArray++Array.replicate (fn.ntmps - args.toArray.size) undef,defers:=[] }:=by
    simp[act,hn]
  rw[he]at hwp
  refine calls_of_wp hf hb (wp_mono hwp ?_);rintro e a w' ⟨s',rfl,hs',hq⟩;cases e with
  | normal=>obtain⟨v,hr,hR⟩:=hq.ex;exact⟨rfl,v,hr w' rfl,hs',hR⟩
  | ret=>obtain⟨v,hr,hR⟩:=hq.ex;exact⟨rfl,v,hr w' rfl,hs',hR⟩
  | panic c=>exact⟨rfl,hs',hq⟩
  | _=>exact hq.elim
theorem Br.tt {A B:Prop}{a b:Code}(h:A):Br true A B a b:=⟨fun _=>h,fun e=>by cases e⟩
theorem Br.ff {A B:Prop}{a b:Code}(h:B):Br false A B a b:=⟨fun e=>(by cases e),fun _=>h⟩
theorem Br.dec {p:Prop} [Decidable p] {A B:Prop}{a b:Code}(y:p→A)(n:¬ p→B):Br (decide p) A B a b :=
 ⟨fun e=>y (of_decide_eq_true e),fun e=>n (of_decide_eq_false e)⟩
theorem Br.aBO {p:Prop} [Decidable p] {A B:Prop}{a b:Code}(n:¬ p→A)(y:p→B):Br (!decide p) A B a b :=
 ⟨fun e=>n (by simpa using e),fun e=>y (by simpa using e)⟩
theorem Ar.fit {k:IntKind}{n:Int}{K:Value→Prop}(lo:k.min≤n)(hi:n≤k.max)(h:K (.int k n)):Ar k n K:=by
 refine⟨?_⟩
 have:k.wrap n=n:=by
  revert lo hi
  cases k<;>simp only[IntKind.min,IntKind.max,IntKind.wrap,IntKind.bits,IntKind.signed]<;>intro lo hi<;>simp at*<;> omega
 rw[this];exact h
theorem Ar.i64 {n:Int}{K:Value→Prop}(lo:-9223372036854775808≤n)(hi:n≤9223372036854775807)(h:K (.int .i64 n)):Ar .i64 n K :=
 Ar.fit lo hi h
theorem Ar.i64n {n m:Int}{K:Value→Prop}(lo:-9223372036854775808≤m)(hi:m≤9223372036854775807)(e:(n - m) % 18446744073709551616=0)(h:K (.int .i64 m)):Ar .i64 n K:=by
 refine⟨?_⟩
 have:IntKind.i64.wrap n=m:=by
  simp only[IntKind.wrap,IntKind.bits,IntKind.signed]
  simp
  split<;>omega
 rw[this];exact h
def mask (asg:List Nat):Nat→List Value→List Value
 | _,[]=>[]
 | k,v::l=>(bif mem asg k then undef else v)::mask asg (k+1) l
def vQ:List Nat→List Value→Nat→Option Value
 | n::ns,v::vs,k=>bif Nat.beq n k then some v else vQ ns vs k
 | _,_,_=>none
def uT (asg lv:List Nat)(vs:List Value)(junk:Nat→Value):Nat→List Value→(List Value→Prop)→Prop
 | _,[],c=>c []
 | k,v::l,c=>uT asg lv vs junk (k+1) l fun l' =>
   match vQ lv vs k with
   | some u=>c (u::l')
   | none=>bif mem asg k then c (junk k::l') else c (v::l')
def havoc (asg lv:List Nat)(vs:List Value)(junk:Nat→Value):Nat→List Value→List Value
 | _,[]=>[]
 | k,v::l =>
   (match vQ lv vs k with
   | some u=>u
   | none=>bif mem asg k then junk k else v)::havoc asg lv vs junk (k+1) l
theorem uS (asg lv:List Nat)(vs:List Value)(junk:Nat→Value)(k:Nat)(l:List Value)(c:List Value→Prop) :
  uT asg lv vs junk k l c=c (havoc asg lv vs junk k l):=by
 induction l generalizing k c with
 | nil=>rfl
 | cons v l ih =>
  simp only[uT,havoc,ih]
  cases vQ lv vs k with
  | some u=>rfl
  | none=>cases mem asg k<;>rfl
theorem live1_map (lv:List Nat)(f:Nat→Value)(k:Nat)(u:Value)(h:vQ lv (lv.map f) k=some u):u=f k:=by
 induction lv with
 | nil=>simp[vQ]at h
 | cons n ns ih =>
  simp only[List.map_cons,vQ]at h
  cases hb:Nat.beq n k with
  | true=>rw[hb]at h;have:=Nat.eq_of_beq_eq_true hb;subst this;simpa using h.symm
  | false=>rw[hb]at h;exact ih h
theorem oP (asg lv:List Nat)(s1:List Value):∀(l l1:List Value)(k:Nat),(∀ i,l1[i]?=s1[k+i]?)→mask asg k l1=mask asg k l →
  havoc asg lv (lv.map (sget s1)) (sget s1) k l=l1
 | [],[],_,_,_=>rfl
 | [],_::_,_,_,hm=>by simp[mask]at hm
 | _::_,[],_,_,hm=>by simp[mask]at hm
 | v::l,v1::l1,k,hk,hm=>by
  simp only[mask,List.cons.injEq]at hm
  have h0:sget s1 k=v1:=by
   have:=hk 0
   simp only[lgZ,Nat.add_zero]at this
   rw[← dA];simp[← this]
  have ht:=oP asg lv s1 l l1 (k+1) (fun i=>by have:=hk (i+1);simpa[Nat.add_assoc,Nat.add_comm 1 i] using this) hm.2
  simp only[havoc,ht,List.cons.injEq,and_true]
  cases hl:vQ lv (lv.map (sget s1)) k with
  | some u=>simp only;rw[live1_map lv _ k u hl,h0]
  | none =>
   simp only
   cases ha:mem asg k with
   | true=>simp only[cond_true,h0]
   | false=>have:=hm.1;simp only[ha,cond_false]at this;simp only[cond_false,this]
theorem LoopVC.intro {B:QQ→List Value→Heap→Prop}{Q:QQ}{s:List Value}{h:Heap}(asg lv:List Nat)
  (I:List Value→Heap→Prop) (μ:List Value→Heap→Nat) (h0:nA s lv fun vs=>I vs h)
  (hr:∀(vs:List Value) (junk:Nat→Value) (h':Heap),I vs h' →
   uT asg lv vs junk 0 s fun s1=>B (zW (fun s' h''=>mask asg 0 s'=mask asg 0 s∧nA s' lv fun vs'=>I vs' h''∧μ vs' h''<μ vs h') Q) s1 h'):LoopVC B Q s h where
 ex:=by
  simp only[uA]at h0 hr
  refine⟨fun s1 h1=>mask asg 0 s1=mask asg 0 s∧I (lv.map (sget s1)) h1,fun s1 h1=>μ (lv.map (sget s1)) h1,⟨rfl,h0⟩,?_⟩
  rintro s1 h1 ⟨hm,hI⟩
  have:=hr (lv.map (sget s1)) (sget s1) h1 hI
  rw[uS,oP asg lv s1 s s1 0 (by simp) hm]at this
  simpa only[and_assoc] using this
theorem RunVC.mono {P:Program}{op:Op}{ty:TypeId}{s:List Value}{h:Heap}{K K':KK}{Q Q':QQ}(r:RunVC P op ty s h K Q)
  (hk:∀ v l h,K v l h→K' v l h) (hq:∀ e s h,Q e s h→Q' e s h):RunVC P op ty s h K' Q' where
 run w hw ds dst pos after guard next Q'' hn hp :=
  r.run w hw ds dst pos after guard next Q'' (fun v l w' hs hv=>hn v l w' hs (hk _ _ _ hv)) (fun c w' hs hv=>hp c w' hs (hq _ _ _ hv))
theorem Br.imp {t:Bool}{A B A' B':Prop}{c d c' d':Code}(b:Br t A B c d)(ha:A→A')(hb:B→B'):Br t A' B' c' d':=⟨fun e=>ha (b.y e),fun e=>hb (b.n e)⟩
theorem vbin_mono {op:BinOp}{x y:Value}{K K':Value→Prop}{F F':Prop}(hk:∀ v,K v→K' v)(hf:F→F')(h:vbin op x y K F):vbin op x y K' F':=by
 unfold vbin at *;split at h
 ·rename_i k a k' b
  cases hb:Nat.beq (kn k) (kn k') with
  | false=>rw[hb]at h;exact hf h
  | true =>
   rw[hb]at h
   cases op<;>first
    | exact hf h
    | exact hk _ h
    | exact⟨hk _ h.h⟩
 ·cases op<;>first
   | exact hf h
   | exact hk _ h
 ·exact hf h
theorem vopF_mono {op:Op}{D:List Nat}{s:List Value}{h:Heap}{K K':KK}{F F':Prop}{C C':FuncId→List Value→Prop}
  (hk:∀ v l h,K v l h→K' v l h) (hf:F→F') (hc:∀ g a,C g a→C' g a) (hv:vopF F C op D s h K):vopF F' C' op D s h K':=by
 unfold vopF at *
 simp only[oR,oQ]at *
 split at hv
 ·exact hk _ _ _ hv
 ·exact hk _ _ _ hv
 ·rename_i c a b
  cases hl:lit D c with
  | true =>
   rw[hl]at hv;simp only at hv ⊢
   split at hv
   ·exact hk _ _ _ hv
   ·exact hk _ _ _ hv
   ·exact hv.elim
  | false =>
   rw[hl]at hv;simp only at hv ⊢
   split at hv
   ·exact hv.imp (hk _ _ _) (hk _ _ _)
   ·exact hv.elim
 ·exact vbin_mono (fun v=>hk v _ _) hf hv
 ·split at hv
  ·exact hk _ _ _ hv
  ·exact hf hv
 ·split at hv
  ·exact⟨hk _ _ _ hv.h⟩
  ·exact hf hv
 ·split at hv
  ·split at hv
   ·exact hk _ _ _ hv
   ·exact hv.elim
  ·exact hv.elim
 ·split at hv
  ·exact hc _ _ hv
  ·exact hf hv
 ·exact hf hv
theorem CallVC.mono {P:Program}{g:FuncId}{args s:List Value}{h:Heap}{K K':KK}{Q Q':QQ}(r:CallVC P g args s h K Q)
  (hk:∀ v l h,K v l h→K' v l h) (hq:∀ e s h,Q e s h→Q' e s h):CallVC P g args s h K' Q':=by
 obtain⟨R,h1,h2,h3,h4⟩:=r.spec
 exact⟨R,h1,fun v h' r=>hk _ _ _ (h2 v h' r),fun c h' r=>hq _ _ _ (h3 c h' r),h4⟩
theorem vop_mono {P:Program}{op:Op}{ty:TypeId}{D:List Nat}{s:List Value}{h:Heap}{K K':KK}{Q Q':QQ}
  (hk:∀ v l h,K v l h→K' v l h) (hq:∀ e s h,Q e s h→Q' e s h) (hv:vop P op ty D s h K Q):vop P op ty D s h K' Q' :=
 vopF_mono hk (fun r=>r.mono hk hq) (fun _ _ r=>r.mono hk hq) hv
theorem rB {P:Program}{L:List Oper}{Q Q':QQ}(hq:∀ e s h,Q e s h→Q' e s h):∀(l:List Oper)(D:List Nat)(s:List Value)(h:Heap),vreg P L l D s h Q→vreg P L l D s h Q'
 | [],_,_,_,hv=>hq _ _ _ hv
 | ⟨dst,op,ty,pos,after,none⟩::rest,D,s,h,hv=>by
  simp only[rC,vstep,fT]at hv ⊢
  exact vop_mono (fun _ _ _ hk=>rB hq rest _ _ _ hk) hq hv
 | ⟨dst,op,ty,pos,after,some (j,want)⟩::rest,D,s,h,hv=>by
  have run:∀ D s,vop P op ty D s h (fun v l h'=>vreg P L rest (fJ D dst l) (sput s dst v) h' Q) Q→vop P op ty D s h (fun v l h'=>vreg P L rest (fJ D dst l) (sput s dst v) h' Q') Q' :=
   fun D s hv=>vop_mono (fun _ _ _ hk=>rB hq rest _ _ _ hk) hq hv
  have skip:∀ D s,vreg P L rest D s h Q→vreg P L rest D s h Q':=fun D s hv=>rB hq rest _ _ _ hv
  simp only[rC,vstep,fT,fB]at hv ⊢
  cases hd:lF L j with
  | none=>simp[hd]at hv
  | some g =>
   simp only[hd]at hv ⊢
   cases hm:mem D g with
   | true =>
    simp only[hm]at hv ⊢
    split at hv
    ·cases want<;>first|exact run _ _ hv|exact skip _ _ hv
    ·cases want<;>first|exact run _ _ hv|exact skip _ _ hv
    ·exact skip _ _ hv
   | false =>
    simp only[hm]at hv ⊢
    split at hv
    ·cases want
     ·exact hv.imp (skip _ _) (run _ _)
     ·exact hv.imp (run _ _) (skip _ _)
    ·exact skip _ _ hv
theorem tE {N N':List Value→Heap→Prop}{Q Q':QQ}(hn:∀ s h,N s h→N' s h)(hq:∀ e s h,Q e s h→Q' e s h)(e:Exit)(s:List Value)(h:Heap)(hv:zW N Q e s h):zW N' Q' e s h:=by
 cases e<;>first|exact hn _ _ hv|exact hq _ _ _ hv
theorem lW {P:Program}:∀(c:Code) {Q Q':QQ}(_:∀ e s h,Q e s h→Q' e s h)(s:List Value)(h:Heap),vcode P c Q s h→vcode P c Q' s h:=by
 intro c
 induction c with
 | skip=>intro Q Q' hq s h hv;exact hq _ _ _ hv
 | region id ops draw =>
  intro Q Q' hq s h hv;cases draw with
  | true=>exact⟨fun w0 w ds hw hs=>wp_mono (hv.wp w0 w ds hw hs) fun e a w' ⟨s',ha,hs',h'⟩=>⟨s',ha,hs',hq _ _ _ h'⟩⟩
  | false =>
   cases hc:sT ops.toList with
   | true =>
    have hv:RegVC P id ops s h Q:=by simpa only[vcode,vregion,hc] using hv
    have:RegVC P id ops s h Q':=⟨fun w0 w ds hw hs=>wp_mono (hv.wp w0 w ds hw hs) fun e a w' ⟨s',ha,hs',h'⟩=>⟨s',ha,hs',hq _ _ _ h'⟩⟩
    simpa only[vcode,vregion,hc] using this
   | false =>
    have hv:vreg P ops.toList ops.toList [] s h Q:=by simpa only[vcode,vregion,hc] using hv
    have:=rB hq _ _ _ _ hv
    simpa only[vcode,vregion,hc] using this
 | seq a b iha ihb=>intro Q Q' hq s h hv;exact iha (tE (fun s h hv=>ihb hq s h hv) hq) s h hv
 | cond c a b iha ihb =>
  intro Q Q' hq s h hv
  simp only[xB,vcond]at hv ⊢
  split at hv
  ·exact hv.imp (iha hq s h) (ihb hq s h)
  ·exact hv.elim
 | block id b ih =>
  intro Q Q' hq s h hv;refine ih ?_ s h hv;intro e s h hv;cases e with
  | exit id' =>
   simp only[outQ]at hv ⊢
   cases hb:Nat.beq id' id with
   | true=>rw[hb]at hv;exact hq _ _ _ hv
   | false=>rw[hb]at hv;exact hq _ _ _ hv
  | _=>exact hq _ _ _ hv
 | loop b ih =>
  intro Q Q' hq s h hv
  obtain⟨I,μ,h0,hr⟩:=hv.ex
  exact⟨I,μ,h0,fun s h hI=>ih (tE (fun _ _ x=>x) hq) s h (hr s h hI)⟩
 | exit id=>intro Q Q' hq s h hv;exact hq _ _ _ hv
 | scope b ih =>
  intro Q Q' hq s h hv;refine ih ?_ s h hv;intro e s h hv;cases e with
  | goto l=>exact hv.elim
  | _=>exact hq _ _ _ hv
 | label l=>intro Q Q' hq s h hv;exact hq _ _ _ hv
 | ret=>intro Q Q' hq s h hv;exact hq _ _ _ hv
 | _=>intro Q Q' hq s h hv;exact hv.elim
theorem Br.join {P:Program}{t:Bool}{A B:Code}{X Y:Prop}{N:List Value→Heap→Prop}{Q:QQ}{s:List Value}{h:Heap}(asg lv:List Nat)(I:List Value→Heap→Prop)
  (hX:X=vcode P A (zW N Q) s h) (hY:Y=vcode P B (zW N Q) s h)
  (hab:Br t (vcode P A (zW (fun s' h'=>mask asg 0 s'=mask asg 0 s∧nA s' lv fun vs=>I vs h') Q) s h) (vcode P B (zW (fun s' h'=>mask asg 0 s'=mask asg 0 s∧nA s' lv fun vs=>I vs h') Q) s h))
  (hr:∀(vs:List Value) (junk:Nat→Value) (h':Heap),I vs h'→uT asg lv vs junk 0 s fun s1=>N s1 h') :
  Br t X Y A B:=by
 subst hX hY;have key:∀ e s' h',zW (fun s' h'=>mask asg 0 s'=mask asg 0 s∧nA s' lv fun vs=>I vs h') Q e s' h'→zW N Q e s' h':=by
  refine tE (fun s' h' ⟨hm,hI⟩=>?_) (fun _ _ _ x=>x)
  rw[uA]at hI
  have:=hr (lv.map (sget s')) (sget s') h' hI
  rwa [uS,oP asg lv s' s s' 0 (by simp) hm]at this
 exact hab.imp (lW A key s h) (lW B key s h)
theorem RetVC.one {P:Program}{fn:Func}{s:List Value}{h:Heap}{R:Value→Heap→Prop}{t:Tmp}(hf:fn.results=#[.tmp t])(hr:pV s t fun v=>R v h):RetVC P fn s h R where
 ex:=⟨sget s t,fun w _=>by rw[results_tmp hf,← dA];simp,by rwa [pU]at hr⟩
theorem RetVC.two {P:Program}{fn:Func}{s:List Value}{h:Heap}{R:Value→Heap→Prop}{t u:Tmp}(hf:fn.results=#[.tmp t,.tmp u])(hr:pV s t fun v=>pV s u fun w=>R (.tuple ⟨[v,w]⟩) h):RetVC P fn s h R where
 ex:=⟨.tuple ⟨[sget s t,sget s u]⟩,fun w _=>by rw[results_tmp2 hf,← dA,← dA];simp,by simpa only[pU] using hr⟩
theorem RetVC.zero {P:Program}{fn:Func}{s:List Value}{h:Heap}{R:Value→Heap→Prop}(hf:fn.results=#[])(hr:R (.tuple #[]) h):RetVC P fn s h R where
 ex:=⟨_,fun w _=>by rw[results_none hf],hr⟩
theorem CallVC.ret {P:Program}{g:FuncId}{args:List Value}{s:List Value}{h:Heap}{K:KK}{Q:QQ}{Post:Value→Heap→Prop}
  (sp:cK P g args h Post) (hk:∀ v h',Post v h'→K v false h'):CallVC P g args s h K Q where
 spec:=⟨_,.inl sp,hk,fun _ _ h=>h.elim,fun _ h=>h.elim⟩
theorem CallVC.ext {P:Program}{g:FuncId}{args:List Value}{s:List Value}{h:Heap}{K:KK}{Q:QQ}{Post:Value→Heap→Prop}
  (sp:XSpec P g args h (Ret Post)) (hk:∀ v h',Post v h'→K v false h'):CallVC P g args s h K Q where
 spec:=⟨_,.inr sp,hk,fun _ _ h=>h.elim,fun _ h=>h.elim⟩
theorem StillVC.remE {pr:Bool}{P:Program}{t ty t':TypeId}{x y:Operand}{s:List Value}{h:Heap}{K:KK}{k:IntKind}{a b:Int}
  (hx:ev s x=.int k a) (hy:ev s y=.int k b) (ha:0≤a) (hb:0<b) (hk:K (.int k (a % b)) false h):StillVC pr P (.binOp .rem t x y t') ty s h K :=
 .pure' _ false (fun w=>by
  have hb':b≠0:=by omega
  simp[execOp,hx,hy,eqGuard_rem,binOp_rem,Op.intDiv,hb',Int.tmod_eq_emod_of_nonneg ha]) hk
theorem StillVC.quoE {pr:Bool}{P:Program}{t ty t':TypeId}{x y:Operand}{s:List Value}{h:Heap}{K:KK}{k:IntKind}{a b:Int}
  (hx:ev s x=.int k a) (hy:ev s y=.int k b) (ha:0≤a) (hb:0<b) (hm:a≤k.max) (hk:K (.int k (a / b)) false h):StillVC pr P (.binOp .quo t x y t') ty s h K :=
 .pure' _ false (fun w=>by
  have hb':b≠0:=by omega
  have h1:a / b≤a:=Int.ediv_le_self b ha;have h2:0≤a / b:=Int.ediv_nonneg ha (by omega)
  have:k.wrap (a / b)=a / b:=by
   revert hm h1 h2
   generalize a / b=q
   cases k<;>simp only[IntKind.max,IntKind.wrap,IntKind.bits,IntKind.signed]<;>intro hm h1 h2<;>simp at*<;> omega
  simp[execOp,hx,hy,eqGuard_quo,binOp_quo,Op.intDiv,hb',Int.tdiv_eq_ediv_of_nonneg ha,this]) hk
structure Ext (h h':Heap):Prop where
 size:h.size≤h'.size
 old:∀ b,b<h.size→h'[b]?=h[b]?
theorem Ext.refl (h:Heap):Ext h h:=⟨Nat.le_refl _,fun _ _=>rfl⟩
theorem Ext.trans {a b c:Heap}(h:Ext a b)(k:Ext b c):Ext a c :=
 ⟨Nat.le_trans h.size k.size,fun i hi=>(k.old i (Nat.lt_of_lt_of_le hi h.size)).trans (h.old i hi)⟩
theorem cellAt_lt {h:Heap}{a:Addr}{v:Value}(hc:aX h a=some v):a.block<h.size:=by
 rcases Nat.lt_or_ge a.block h.size with h'|h'
 ·exact h'
 ·simp[aX,Array.getElem?_eq_none h']at hc
theorem gH {h h':Heap}{a:Addr}(e:h'[a.block]?=h[a.block]?):aX h' a=aX h a:=by simp[aX,e]
theorem Ext.cell {h h':Heap}(e:Ext h h') {a:Addr}{v:Value}(hc:aX h a=some v):aX h' a=some v:=by
 rw[gH (e.old _ (cellAt_lt hc))];exact hc
structure Item where
 fp:Nat→Prop
 sat:Heap→Prop
 loc:∀ h h':Heap,(∀ b,fp b→h'[b]?=h[b]?)→sat h→sat h'
def box (b:Nat)(cs:List Value)(t:TypeId):Item where
 fp x:=x=b
 sat h:=h[b]?=some (.cells cs.toArray t (0,0))
 loc _ _ e:=fun k=>(e b rfl).trans k
def rM (h:Heap)(e:TypeId)(sz:Nat)(v:Value)(n:Nat)(xs:List Value):Prop :=
 xs.length=n*sz∧((v=.slice none 0 0∧n=0) ∨
  ∃ g cap cur,v=.slice (some ⟨g,0,none⟩) n cap∧h[g]?=some (.cells cur e (0,0))∧n≤cap∧cap≤maxLen∧cur.size=cap*sz∧cur.toList.take (n*sz)=xs)
def row (v:Value)(e:TypeId)(sz n:Nat)(xs:List Value):Item where
 fp x:=v.ownBlock=some x
 sat h:=rM h e sz v n xs
 loc h h' eq:=fun⟨l,r⟩=>⟨l,r.imp id fun⟨g,cap,cur,hv,hg,rest⟩=>⟨g,cap,cur,hv,by rw[eq g (by rw[hv];rfl)];exact hg,rest⟩⟩
structure OwnR (h0:Heap) (L:List Item) (h:Heap):Prop where
 ext:Ext h0 h
 sat:∀ x∈L,x.sat h
 lo:∀ x∈L,∀ b,x.fp b→h0.size≤b
 hi:∀ x∈L,∀ b,x.fp b→b<h.size
 dis:L.Pairwise fun x y=>∀ b,x.fp b→¬ y.fp b
section
variable {h0 h h' : Heap} {L L' : List Item}
theorem OwnR.refl (h:Heap):OwnR h [] h:=⟨.refl h,by simp,by simp,by simp,.nil⟩
theorem OwnR.call (o:OwnR h0 L h)(o':OwnR h L' h'):OwnR h0 (L++L') h' where
 ext:=o.ext.trans o'.ext
 sat x hx:=by
  rcases List.mem_append.1 hx with hx|hx
  ·exact x.loc h h' (fun b hb=>o'.ext.old b (o.hi x hx b hb)) (o.sat x hx)
  ·exact o'.sat x hx
 lo x hx b hb:=by
  rcases List.mem_append.1 hx with hx|hx
  ·exact o.lo x hx b hb
  ·exact Nat.le_trans o.ext.size (o'.lo x hx b hb)
 hi x hx b hb:=by
  rcases List.mem_append.1 hx with hx|hx
  ·exact Nat.lt_of_lt_of_le (o.hi x hx b hb) o'.ext.size
  ·exact o'.hi x hx b hb
 dis:=by
  refine List.pairwise_append.2 ⟨o.dis,o'.dis,fun x hx y hy b hb hb'=>?_⟩;have h1:=o.hi x hx b hb;have h2:=o'.lo y hy b hb'
  omega
def pick (L:List Item):List Nat→List Item
 | []=>[]
 | k::ks=>match L[k]? with
  | some x=>x::pick L ks
  | none=>pick L ks
def mem0:List Nat→Nat→Bool
 | [],_=>false
 | x::l,n=>bif Nat.beq x n then true else mem0 l n
def dst:List Nat→Bool
 | []=>true
 | k::ks=>!mem0 ks k&&dst ks
theorem nT (l:List Nat)(n:Nat):mem0 l n=true↔n∈l:=by
 induction l with
 | nil=>simp[mem0]
 | cons x l ih =>
  simp only[mem0,List.mem_cons]
  cases hb:Nat.beq x n with
  | true=>have:=Nat.eq_of_beq_eq_true hb;simp[this]
  | false=>have:=Nat.ne_of_beq_eq_false hb;simp[ih,Ne.symm this]
theorem tC {L:List Item}{ks:List Nat}{x:Item}(hx:x∈pick L ks):∃ k∈ks,L[k]?=some x:=by
 induction ks with
 | nil=>simp[pick]at hx
 | cons k ks ih =>
  simp only[pick]at hx
  split at hx
  ·rename_i y hy
   rcases List.mem_cons.1 hx with rfl|hx
   ·exact⟨k,by simp,hy⟩
   ·obtain⟨j,hj,hl⟩:=ih hx;exact⟨j,by simp[hj],hl⟩
  ·obtain⟨j,hj,hl⟩:=ih hx;exact⟨j,by simp[hj],hl⟩
theorem OwnR.dis' (o:OwnR h0 L h) {i j:Nat}{x y:Item}(hi:L[i]?=some x)(hj:L[j]?=some y)(hne:i≠j):∀ b,x.fp b→¬ y.fp b:=by
 obtain⟨hi',hx⟩:=List.getElem?_eq_some_iff.1 hi
 obtain⟨hj',hy⟩:=List.getElem?_eq_some_iff.1 hj
 rcases Nat.lt_or_ge i j with hlt|hge
 ·have:=List.pairwise_iff_getElem.1 o.dis i j hi' hj' hlt;rw[hx,hy]at this;exact this
 ·have:=List.pairwise_iff_getElem.1 o.dis j i hj' hi' (by omega);rw[hx,hy]at this;exact fun b h1 h2=>this b h2 h1
theorem OwnR.sel (o:OwnR h0 L h)(ks:List Nat)(hk:dst ks=true):OwnR h0 (pick L ks) h where
 ext:=o.ext
 sat x hx:=by obtain⟨k,_,hl⟩:=tC hx;exact o.sat x (List.mem_of_getElem? hl)
 lo x hx:=by obtain⟨k,_,hl⟩:=tC hx;exact o.lo x (List.mem_of_getElem? hl)
 hi x hx:=by obtain⟨k,_,hl⟩:=tC hx;exact o.hi x (List.mem_of_getElem? hl)
 dis:=by
  induction ks with
  | nil=>exact .nil
  | cons k ks ih =>
   simp only[dst,Bool.and_eq_true,Bool.not_eq_true']at hk
   simp only[pick]
   split
   ·rename_i x hx
    refine List.pairwise_cons.2 ⟨fun y hy=>?_,ih hk.2⟩
    obtain⟨j,hj,hl⟩:=tC hy
    refine o.dis' hx hl fun e=>?_;subst e
    rw[(nT _ _).2 hj]at hk
    exact Bool.noConfusion hk.1
   ·exact ih hk.2
theorem OwnR.perm (o:OwnR h0 L h)(p:L.Perm L'):OwnR h0 L' h where
 ext:=o.ext
 sat x hx:=o.sat x (p.mem_iff.2 hx)
 lo x hx:=o.lo x (p.mem_iff.2 hx)
 hi x hx:=o.hi x (p.mem_iff.2 hx)
 dis:=(p.pairwise_iff (fun h b h1 h2=>h b h2 h1)).1 o.dis
theorem OwnR.push {c:Array Value}{t:TypeId}(o:OwnR h0 L h):OwnR h0 (L++[box h.size c.toList t]) (h.push (.cells c t)):=by
 have e:Ext h (h.push (.cells c t)):=⟨by simp,fun b hb=>by rw[Array.getElem?_push,if_neg (by omega)]⟩;refine o.call ⟨e,?_,?_,?_,List.pairwise_singleton _ _⟩
 ·intro x hx;simp only[List.mem_singleton]at hx;subst hx
  simp[box]
 ·intro x hx b hb;simp only[List.mem_singleton]at hx;subst hx;cases hb;exact Nat.le_refl _
 ·intro x hx b hb;simp only[List.mem_singleton]at hx;subst hx;cases hb;simp
theorem OwnR.set (o:OwnR h0 L h) {k:Nat}{x y:Item}(hk:L[k]?=some x)(hs:h.size≤h'.size)(hold:∀ b,b<h.size→¬ x.fp b→h'[b]?=h[b]?)
  (hy:y.sat h') (hfp:∀ b,y.fp b→x.fp b∨h.size≤b) (hhi:∀ b,y.fp b→b<h'.size):OwnR h0 (L.set k y) h':=by
 obtain⟨hk',hx⟩:=List.getElem?_eq_some_iff.1 hk
 have other:∀(j:Nat) (z:Item),L[j]?=some z→j≠k→∀ b,z.fp b→¬ x.fp b:=by
  intro j z hz hne b hb hb'
  obtain⟨hj',hz'⟩:=List.getElem?_eq_some_iff.1 hz
  rcases Nat.lt_or_ge j k with hlt|hge
  ·have:=List.pairwise_iff_getElem.1 o.dis j k hj' hk' hlt;rw[hx,hz']at this;exact this b hb hb'
  ·have:=List.pairwise_iff_getElem.1 o.dis k j hk' hj' (by omega);rw[hx,hz']at this;exact this b hb' hb
 have memSet:∀ z∈L.set k y,z=y∨∃ j,j≠k∧L[j]?=some z:=by
  intro z hz
  obtain⟨j,hj⟩:=List.mem_iff_getElem?.1 hz
  rw[List.getElem?_set]at hj
  split at hj
  ·left;simpa using hj.symm
  ·exact .inr ⟨j,by omega,hj⟩
 refine⟨⟨Nat.le_trans o.ext.size hs,fun b hb=>?_⟩,?_,?_,?_,?_⟩
 ·have hnx:¬ x.fp b:=fun hf=>by have:=o.lo x (List.mem_of_getElem? hk) b hf;omega
  rw[hold b (Nat.lt_of_lt_of_le hb o.ext.size) hnx];exact o.ext.old b hb
 ·intro z hz
  rcases memSet z hz with rfl|⟨j,hne,hj⟩
  ·exact hy
  ·exact z.loc h h' (fun b hb=>hold b (o.hi z (List.mem_of_getElem? hj) b hb) (other j z hj hne b hb)) (o.sat z (List.mem_of_getElem? hj))
 ·intro z hz b hb
  rcases memSet z hz with rfl|⟨j,hne,hj⟩
  ·rcases hfp b hb with h1|h1
   ·exact o.lo x (List.mem_of_getElem? hk) b h1
   ·exact Nat.le_trans o.ext.size h1
  ·exact o.lo z (List.mem_of_getElem? hj) b hb
 ·intro z hz b hb
  rcases memSet z hz with rfl|⟨j,hne,hj⟩
  ·exact hhi b hb
  ·exact Nat.lt_of_lt_of_le (o.hi z (List.mem_of_getElem? hj) b hb) hs
 ·rw[List.pairwise_iff_getElem]
  intro i j hi hj hij;have hi':i<L.length:=by simpa using hi
  have hj':j<L.length:=by simpa using hj
  rw[List.getElem_set,List.getElem_set]
  split
  ·rename_i hki
   rw[if_neg (by omega)]
   intro b hb hb';have hz:L[j]?=some L[j]:=by simp[hj']
   rcases hfp b hb with h1|h1
   ·exact other j _ hz (by omega) b hb' h1
   ·have:=o.hi _ (List.mem_of_getElem? hz) b hb';omega
  ·split
   ·intro b hb hb'
    have hz:L[i]?=some L[i]:=by simp[hi']
    rcases hfp b hb' with h1|h1
    ·exact other i _ hz (by omega) b hb h1
    ·have:=o.hi _ (List.mem_of_getElem? hz) b hb;omega
   ·exact List.pairwise_iff_getElem.1 o.dis i j hi' hj' hij
structure Base where
 h:Heap
 T:List Item
instance:Coe Heap Base:=⟨fun h=>⟨h,[]⟩⟩
def Own (B:Base)(L:List Item)(h:Heap):Prop:=OwnR B.h (L++B.T) h
end
section
variable {B : Base} {h h' : Heap} {L L' : List Item}
theorem Own.ext (o:Own B L h):Ext B.h h:=OwnR.ext o
theorem Own.sat (o:Own B L h):∀ x∈L,x.sat h:=fun x hx=>OwnR.sat o x (List.mem_append_left _ hx)
theorem Own.hi (o:Own B L h):∀ x∈L,∀ b,x.fp b→b<h.size:=fun x hx=>OwnR.hi o x (List.mem_append_left _ hx)
theorem Own.refl (h:Heap):Own h [] h:=OwnR.refl h
theorem OwnR.own {h0:Heap}(o:OwnR h0 L h):Own h0 L h:=by unfold Own;simpa using o
theorem Own.toR {h0:Heap}(o:Own h0 L h):OwnR h0 L h:=by unfold Own at o;simpa using o
theorem Own.callR (o:Own B L h)(o':OwnR h L' h'):Own B (L++L') h':=by
 have:=OwnR.call o o'
 refine this.perm ?_
 rw[List.append_assoc,List.append_assoc]
 exact List.Perm.append_left L List.perm_append_comm
theorem Own.call (o:Own B L h)(o':Own h L' h'):Own B (L++L') h':=o.callR o'.toR
theorem Own.ext' (o:Own B L h)(o':Own h [] h'):Own B L h':=by
 have:=o.call o';rwa [List.append_nil]at this
theorem nR {L T:List Item}:∀(ks:List Nat),(∀ k∈ks,k<L.length)→pick (L++T) ks=pick L ks
 | [],_=>rfl
 | k::ks,h=>by
  simp only[pick]
  rw[List.getElem?_append_left (h k (by simp)),nR ks (fun j hj=>h j (by simp[hj]))]
theorem uG {L:List Item}:∀(ks:List Nat),pick L ks=pick L (ks.filter fun k=>decide (k<L.length))
 | []=>rfl
 | k::ks=>by
  simp only[pick,List.filter_cons]
  by_cases hk:k<L.length
  ·simp only[hk,decide_true,if_true,pick];rw[uG ks]
  ·rw[List.getElem?_eq_none (by omega)]
   simp only[hk,decide_false]
   exact uG ks
theorem qC (L T:List Item):∀(n:Nat),n≤T.length→pick (L++T) (List.range' (L.length+(T.length - n)) n)=T.drop (T.length - n)
 | 0,_=>by simp[pick]
 | n+1,h=>by
  have e:T.length - n=T.length - (n+1)+1:=by omega
  have ih:=qC L T n (by omega)
  rw[e,← Nat.add_assoc]at ih
  rw[List.range'_succ]
  simp only[pick]
  rw[List.getElem?_append_right (by omega),Nat.add_sub_cancel_left,List.drop_eq_getElem_cons (by omega)]
  simp only[show T.length - (n+1)<T.length by omega,getElem?_pos]
  rw[ih]
theorem sE (p:Nat→Bool):∀(ks:List Nat),dst ks=true→dst (ks.filter p)=true
 | [],_=>rfl
 | k::ks,h=>by
  simp only[dst,Bool.and_eq_true,Bool.not_eq_true']at h
  rw[List.filter_cons]
  split
  ·simp only[dst,Bool.and_eq_true,Bool.not_eq_true']
   refine⟨?_,sE p ks h.2⟩
   cases hm:mem0 (ks.filter p) k with
   | false=>rfl
   | true =>
    have h1:=h.1
    rw[(nT _ _).2 (List.mem_filter.1 ((nT _ _).1 hm)).1]at h1
    exact Bool.noConfusion h1
  ·exact sE p ks h.2
theorem kJ {n m:Nat}:∀(ks:List Nat),dst ks=true→(∀ k∈ks,k<n)→dst (ks++List.range' n m)=true
 | [],_,_=>by
  rw[lnA]
  induction m generalizing n with
  | zero=>rfl
  | succ m ih =>
   rw[List.range'_succ]
   simp only[dst,Bool.and_eq_true,Bool.not_eq_true']
   refine⟨?_,ih (by simp)⟩
   cases hm:mem0 (List.range' (n+1) m) n with
   | false=>rfl
   | true=>have:=(nT _ _).1 hm;simp only[List.mem_range'_1]at this;omega
 | k::ks,h,hlt=>by
  simp only[dst,Bool.and_eq_true,Bool.not_eq_true']at h
  simp only[lcA,dst,Bool.and_eq_true,Bool.not_eq_true']
  refine⟨?_,kJ ks h.2 (fun j hj=>hlt j (by simp[hj]))⟩
  cases hm:mem0 (ks++List.range' n m) k with
  | false=>rfl
  | true =>
   rcases List.mem_append.1 ((nT _ _).1 hm) with hk|hk
   ·have h1:=h.1;rw[(nT _ _).2 hk]at h1;exact Bool.noConfusion h1
   ·have:=hlt k (by simp)
    simp only[List.mem_range'_1]at hk;omega
theorem kS (L:List Item):∀(ks js:List Nat),pick L (ks++js)=pick L ks++pick L js
 | [],js=>rfl
 | k::ks,js=>by
  simp only[lcA,pick]
  split
  ·rw[kS L ks js];rfl
  ·exact kS L ks js
theorem Own.sel (o:Own B L h)(ks:List Nat)(hk:dst ks=true):Own B (pick L ks) h:=by
 have hf:∀ k∈ks.filter (fun k=>decide (k<L.length)),k<L.length:=fun k hk=>by simpa using (List.mem_filter.1 hk).2
 have:=OwnR.sel o (ks.filter (fun k=>decide (k<L.length))++List.range' L.length B.T.length) (kJ _ (sE _ ks hk) hf)
 rw[kS,nR _ hf,← uG]at this
 have hr:=qC L B.T B.T.length (Nat.le_refl _)
 rw[Nat.sub_self,Nat.add_zero,List.drop_zero]at hr
 rw[hr]at this
 exact this
theorem Own.lend (o:Own B L h)(ks js:List Nat)(hk:dst (ks++js)=true):Own ⟨B.h,pick L js++B.T⟩ (pick L ks) h:=by
 have:=o.sel (ks++js) hk
 unfold Own at this ⊢
 rwa [kS,List.append_assoc]at this
theorem Own.back {J K:List Item}(o:Own ⟨B.h,J++B.T⟩ K h):Own B (K++J) h:=by
 unfold Own at o ⊢
 rwa [List.append_assoc]
theorem Own.push {c:Array Value}{t:TypeId}(o:Own B L h):Own B (L++[box h.size c.toList t]) (h.push (.cells c t)):=by
 have:=OwnR.push (c:=c) (t:=t) o
 refine this.perm ?_
 rw[List.append_assoc,List.append_assoc]
 exact List.Perm.append_left L List.perm_append_comm
theorem Own.set (o:Own B L h) {k:Nat}{x y:Item}(hk:L[k]?=some x)(hs:h.size≤h'.size)(hold:∀ b,b<h.size→¬ x.fp b→h'[b]?=h[b]?)
  (hy:y.sat h') (hfp:∀ b,y.fp b→x.fp b∨h.size≤b) (hhi:∀ b,y.fp b→b<h'.size):Own B (L.set k y) h':=by
 obtain⟨hk',_⟩:=List.getElem?_eq_some_iff.1 hk
 have:=OwnR.set (k:=k) (x:=x) (y:=y) o (by rw[List.getElem?_append_left hk'];exact hk) hs hold hy hfp hhi
 rwa [List.set_append_left _ _ hk']at this
end
section
variable {h0 : Base} {h h' : Heap} {L L' : List Item}
theorem Own.old (o:Own h0 L h) {a:Addr}{v:Value}(hc:aX h0.h a=some v):aX h a=some v:=o.ext.cell hc
theorem Own.cellB (o:Own h0 L h)(k:Nat) {b:Nat}{cs:List Value}{t:TypeId}(hk:L[k]?=some (box b cs t))(i:Nat):aX h ⟨b,i,none⟩=cs[i]?:=by
 have hb:h[b]?=some (.cells cs.toArray t (0,0)):=o.sat _ (List.mem_of_getElem? hk)
 simp[aX,hb]
end
def Arr (h:Heap)(v:Value)(xs:List Value):Prop :=
 ∃ a cap,v=.slice a xs.length cap∧xs.length≤cap∧(xs=[]∨∃ b o,a=some ⟨b,o,none⟩∧∀ i,i<xs.length→aX h ⟨b,o+i,none⟩=xs[i]?)
theorem Arr.ext {h h':Heap}{v:Value}{xs:List Value}(a:Arr h v xs)(e:Ext h h'):Arr h' v xs:=by
 obtain⟨ad,cap,hv,hl,r⟩:=a
 refine⟨ad,cap,hv,hl,r.imp id fun⟨b,o,ha,hc⟩=>⟨b,o,ha,fun i hi=>?_⟩⟩
 have:xs[i]?=some xs[i]:=by simp[hi]
 rw[this];exact e.cell (by rw[hc i hi,this])
theorem Arr.nil (h:Heap):Arr h (.slice none 0 0) []:=⟨_,_,rfl,Nat.le_refl _,.inl rfl⟩
theorem rM.arr {h:Heap}{e:TypeId}{v:Value}{n:Nat}{xs:List Value}(r:rM h e 1 v n xs):Arr h v xs:=by
 obtain⟨hl,r⟩:=r
 rcases r with ⟨rfl,rfl⟩|⟨g,cap,cur,rfl,hg,hn,_,hs,ht⟩
 ·have:xs=[]:=List.eq_nil_of_length_eq_zero (by simpa using hl)
  subst this;exact Arr.nil h
 ·have hn':xs.length=n:=by simpa using hl
  refine⟨_,cap,by rw[hn'],by omega,.inr ⟨g,0,rfl,fun i hi=>?_⟩⟩
  rw[← ht,List.getElem?_take,if_pos (by omega)]
  simp[aX,hg]
theorem Own.rowArr {h0:Base}{h:Heap}{L:List Item}(o:Own h0 L h)(k:Nat) {v:Value}{e:TypeId}{n:Nat}{xs:List Value}(hk:L[k]?=some (row v e 1 n xs)):Arr h v xs :=
 rM.arr (o.sat _ (List.mem_of_getElem? hk))
theorem Own.boxArr {h0:Base}{h:Heap}{L:List Item}(o:Own h0 L h)(k:Nat) {b:Nat}{cs:List Value}{t:TypeId}(hk:L[k]?=some (box b cs t)) {n c:Nat}(hn:cs.length=n)(hc:n≤c):Arr h (.slice (some ⟨b,0,none⟩) n c) cs:=by
 subst hn
 exact⟨_,_,rfl,hc,.inr ⟨b,0,rfl,fun i _=>by rw[Nat.zero_add];exact o.cellB k hk i⟩⟩
def oO:TypeDesc→Bool
 | .struct _=>true
 | .array _ _=>true
 | _=>false
structure TyI (P:Program) (t:TypeId) (agg:Bool) (zero:List Value) (bytes:Nat):Prop where
 und:∃ d,P.underlying t=some d∧oO d=agg
 info:∃ i z,P.info? t=some i∧i.size=zero.length∧i.zero=some z∧z.cells=zero.toArray∧i.bytes=bytes
theorem TyI.mk' {P:Program}{t:TypeId}{agg:Bool}{zero:List Value}{bytes:Nat}{d:TypeDesc}{z:Value}(hd:P.underlying t=some d)(ha:oO d=agg)
  (hi:(P.info? t).map (fun i=>(i.zero,i.size,i.bytes))=some (some z,zero.length,bytes)) (hz:z.cells=zero.toArray):TyI P t agg zero bytes:=by
 refine⟨⟨d,hd,ha⟩,?_⟩
 cases hh:P.info? t with
 | none=>simp[hh]at hi
 | some i=>simp[hh]at hi;exact⟨i,z,rfl,hi.2.1,hi.1,hz,hi.2.2⟩
def cP (P:Program)(t e:TypeId):Prop:=P.underlying t=some (.slice e)
theorem TyI.isAgg {P:Program}{t:TypeId}{agg:Bool}{zero:List Value}{bytes:Nat}(T:TyI P t agg zero bytes)(w:World):(isAgg t).run P w=.ok agg w:=by
 obtain⟨d,hd,ha⟩:=T.und
 simp only[Go.isAgg,Sem.run_bind,run_underlying hd,Result.andThen_ok]
 subst ha;cases d<;>simp[oO]
theorem TyI.sizeOf {P:Program}{t:TypeId}{agg:Bool}{zero:List Value}{bytes:Nat}(T:TyI P t agg zero bytes)(w:World):(sizeOf t).run P w=.ok zero.length w:=by
 obtain⟨i,z,hi,hs,_⟩:=T.info
 simp[Go.sizeOf,typeInfo,hi,hs]
theorem TyI.zeroValue {P:Program}{t:TypeId}{agg:Bool}{zero:List Value}{bytes:Nat}(T:TyI P t agg zero bytes)(w:World):∃ z,(zeroValue t).run P w=.ok z w∧z.cells=zero.toArray:=by
 obtain⟨i,z,hi,hs,hz,hc,_⟩:=T.info
 exact⟨z,by simp[Go.zeroValue,typeInfo,hi,hz],hc⟩
section
variable {P : Program} {ty : TypeId} {s : List Value} {h0 : Base} {h : Heap} {L : List Item} {K : KK} {Q : QQ}
def adr (v:Value)(i:Nat):Value :=
 match v with
 | .slice (some a) _ _=>.pointer (some ⟨a.block,a.off+i,none⟩)
 | _=>undef
theorem StillVC.idx {pr:Bool}{t e:TypeId}{by_:Nat}{x i:Operand}{xs:List Value}{k:IntKind}{m:Int}{agg:Bool}{z:Value}(hS:cP P t e)(hE:TyI P e agg [z] by_)(hA:Arr h (ev s x) xs)
  (hi:ev s i=.int k m) (h1:0≤m) (h2:m<xs.length) (hk:evK s x fun v=>K (adr v m.toNat) false h):StillVC pr P (.indexAddr t x i) ty s h K:=by
 rw[oR]at hk
 obtain⟨a,cap,hv,_,r⟩:=hA
 rcases r with rfl|⟨b,o,rfl,hc⟩
 ·simp at h2;omega
 refine .pure' _ false (fun w=>?_) hk;have he:P.elem t=e:=by unfold cP at hS;simp[Program.elem,hS]
 have hS':P.underlying t=some (.slice (P.elem t)):=by rw[he];exact hS
 simp[execOp,hi,hv,run_indexAt_slice w t _ _ _ _ _ hS',h1,h2,he,hE.sizeOf,adr,Addr.add_lit]
theorem StillVC.load1 {t:TypeId}{x:Operand}{zero:List Value}{by_:Nat}{a:Addr}{v:Value}(hT:TyI P t false zero by_)(hx:ev s x=.pointer (some a))(hc:aX h a=some v)(hk:K v false h):StillVC false P (.load t x) ty s h K :=
 ⟨v,false,[(a,v)],by simp,by simpa using hc,fun w hw=>by
  have:w.cell? a=some v:=hw (a,v) (by simp)
  simp[execOp,hx,Instr.loadAt,Instr.sureAddr,loadVar,hT.isAgg,run_load,this],hk⟩
theorem StillVC.loadA {t:TypeId}{x:Operand}{zero:List Value}{by_:Nat}{v u:Value}{xs:List Value}{i:Nat}(hA:Arr h v xs)(hT:TyI P t false zero by_)(hx:ev s x=adr v i)(hu:xs[i]?=some u)(hk:K u false h):StillVC false P (.load t x) ty s h K:=by
 obtain⟨a,cap,rfl,_,r⟩:=hA
 obtain⟨hi,_⟩:=List.getElem?_eq_some_iff.1 hu
 rcases r with rfl|⟨b,o,rfl,hc⟩
 ·simp at hi
 exact .load1 hT (by simpa[adr] using hx) (by rw[hc i hi];exact hu) hk
theorem StillVC.lenA {pr:Bool}{t e:TypeId}{x:Operand}{xs:List Value}(hA:Arr h (ev s x) xs)(hS:cP P t e)(hk:K (.int .i64 xs.length) false h):StillVC pr P (.call ⟨.builtin .len,⟨[x]⟩,⟨[t]⟩⟩) ty s h K:=by
 obtain⟨a,cap,hv,_⟩:=hA
 refine .pure' _ false (fun w=>?_) hk
 simp[execOp,resolve,invoke,builtin,hv,Builtin.len_,run_underlying hS,goInt]
theorem StillVC.aBR {pr:Bool}{t:TypeId}{x:Operand}{l:List UInt8}(hx:ev s x=.string ⟨⟨l⟩⟩)(hS:P.underlying t=some .string)(hk:K (.int .i64 l.length) false h):StillVC pr P (.call ⟨.builtin .len,⟨[x]⟩,⟨[t]⟩⟩) ty s h K:=by
 refine .pure' _ false (fun w=>?_) hk;have hz:(⟨⟨l⟩⟩:ByteArray).size=l.length:=rfl
 simp[execOp,resolve,invoke,builtin,hx,Builtin.len_,run_underlying hS,goInt,hz]
theorem StillVC.max2 {pr:Bool}{tys:Array TypeId}{x y:Operand}{k k':IntKind}{a b:Int}(hx:ev s x=.int k a)(hy:ev s y=.int k' b)(hk:K (.int k (max a b)) false h):StillVC pr P (.call ⟨.builtin .max,⟨[x,y]⟩,tys⟩) ty s h K:=by
 refine .pure' _ false (fun w=>?_) hk
 have:(if a<b then b else a)=max a b:=by split<;>omega
 simp[execOp,resolve,invoke,builtin,hx,hy,Builtin.max_,Builtin.max2,this]
theorem StillVC.convI {pr:Bool}{src dst:TypeId}{x:Operand}{k k':IntKind}{a:Int}{d:TypeDesc}(hx:ev s x=.int k a)(hs:P.underlying src=some d)(hd:P.underlying dst=some (.int k'))(hk:Ar k' a fun v=>K v false h):StillVC pr P (.convert src dst x) ty s h K :=
 .pure' (.int k' (k'.wrap a)) false (fun w=>by simp[execOp,hx,convert,run_underlying hs,run_underlying hd,Conv.intToInt]) hk.h
theorem StillVC.aBG {pr:Bool}{t:TypeId}{x i:Operand}{l:List UInt8}{k:IntKind}{m:Int}{c:UInt8}(hx:ev s x=.string ⟨⟨l⟩⟩)(hi:ev s i=.int k m)(hS:P.underlying t=some .string)(h1:0≤m)(hc:l[m.toNat]?=some c)(hk:K (.int .u8 c.toNat) false h):StillVC pr P (.index t x i) ty s h K:=by
 refine .pure' _ false (fun w=>?_) hk;have hc':(⟨⟨l⟩⟩:ByteArray)[m.toNat]?=some c:=by
  obtain⟨hl,he⟩:=List.getElem?_eq_some_iff.1 hc
  have:m.toNat<(⟨⟨l⟩⟩:ByteArray).size:=by simpa[ByteArray.size] using hl
  simp only[this,getElem?_pos,Option.some.injEq]
  exact he
 simp[execOp,hx,hi,Instr.index,asIntOf,run_underlying hS,h1,hc']
theorem StillVC.aBQ {pr:Bool}{fn:Fn}{first cap:List Operand}(hk:zY s first fun a=>zY s cap fun b=>K (.func fn ⟨a⟩ ⟨b⟩) false h):StillVC pr P (.makeFunc fn ⟨first⟩ ⟨cap⟩) ty s h K :=
 .pure' (.func fn ⟨first.map (ev s)⟩ ⟨cap.map (ev s)⟩) false (fun w=>by simp[execOp,Instr.makeFunc]) (by simpa only[oQ] using hk)
theorem StillVC.aBF {pr:Bool}{t t':TypeId}{x y:Operand}{a b:List UInt8}(hx:ev s x=.string ⟨⟨a⟩⟩)(hy:ev s y=.string ⟨⟨b⟩⟩)(hl:a.length+b.length≤9223372036854775807)(hk:K (.string ⟨⟨a++b⟩⟩) false h):StillVC pr P (.binOp .add t x y t') ty s h K:=by
 refine .pure' _ false (fun w=>?_) hk;have happ:(⟨⟨a⟩⟩:ByteArray)++⟨⟨b⟩⟩=⟨⟨a++b⟩⟩:=by
  have:(⟨⟨a⟩⟩++⟨⟨b⟩⟩:ByteArray).data=(⟨a⟩:Array UInt8)++⟨b⟩:=by simp
  cases h:(⟨⟨a⟩⟩++⟨⟨b⟩⟩:ByteArray) with
  | mk d=>rw[h]at this;simp only at this;subst this;simp
 have hz:∀ l:List UInt8,(⟨⟨l⟩⟩:ByteArray).size=l.length:=fun _=>rfl;have hsz:¬ (9223372036854775807<(a.length:Int)+(b.length:Int)):=by omega
 simp[execOp,hx,hy,eqGuard_at_string,binOp,Op.stringOp,hz,hsz,happ]
def pE (L:List Item)(x:Item)(k:List Item→Prop):Prop :=
 match L with
 | []=>k [x]
 | y::L=>pE L x fun L'=>k (y::L')
theorem kT (L:List Item)(x:Item)(k:List Item→Prop):pE L x k=k (L++[x]):=by
 induction L generalizing k with
 | nil=>rfl
 | cons y L ih=>simp[pE,ih]
def pD (L:List Item)(n:Nat)(x:Item)(k:List Item→Prop):Prop :=
 match L,n with
 | [],_=>k []
 | _::L,0=>k (x::L)
 | y::L,n+1=>pD L n x fun L'=>k (y::L')
theorem qK (L:List Item)(n:Nat)(x:Item)(k:List Item→Prop):pD L n x k=k (L.set n x):=by
 induction L generalizing n k with
 | nil=>simp[pD]
 | cons y L ih=>cases n with
  | zero=>simp[pD]
  | succ n=>simp[pD,ih]
theorem RunVC.alloc {t:TypeId}{agg:Bool}{zero:List Value}{by_:Nat}(o:Own h0 L h)(hT:TyI P t agg zero by_)
  (hk:∀ b h',pE L (box b zero t) fun L'=>Own h0 L' h'→K (.pointer (some ⟨b,0,none⟩)) false h'):RunVC P (.alloc t) ty s h K Q :=
 .of fun w hw=>by
  subst hw
  obtain⟨z,hz,hc⟩:=hT.zeroValue w
  refine⟨.pointer (some ⟨w.heap.size,0,none⟩),false,{ w with heap:=w.heap.push (.cells z.cells t) },by simp[execOp,Instr.alloc,hz,newVar,newRow],⟨rfl,rfl,rfl,by simp⟩,?_⟩
  have:=hk w.heap.size (w.heap.push (.cells z.cells t))
  rw[kT]at this
  refine this ?_;have o':=o.push (c:=z.cells) (t:=t)
  rw[hc]at o' ⊢;exact o'
theorem RunVC.aBS {t:TypeId}{x:Operand}{v:Value}(o:Own h0 L h)(hx:ev s x=v)
  (hk:∀ b h',pE L (box b v.cells.toList t) fun L'=>Own h0 L' h'→K (.pointer (some ⟨b,0,none⟩)) false h'):RunVC P (.box t x) ty s h K Q :=
 .of fun w hw=>by
  subst hw
  refine⟨.pointer (some ⟨w.heap.size,0,none⟩),false,{ w with heap:=w.heap.push (.cells v.cells t) },by simp[execOp,Instr.box,hx,newVar,newRow],⟨rfl,rfl,rfl,by simp⟩,?_⟩
  have:=hk w.heap.size (w.heap.push (.cells v.cells t))
  rw[kT]at this
  exact this o.push
end
section
variable {P : Program} {ty : TypeId} {s : List Value} {h0 : Base} {h : Heap} {L : List Item} {K : KK} {Q : QQ}
theorem Own.boxBlk (o:Own h0 L h)(k:Nat) {b:Nat}{cs:List Value}{t:TypeId}(hk:L[k]?=some (box b cs t)) :
  h[b]?=some (.cells cs.toArray t (0,0)):=o.sat _ (List.mem_of_getElem? hk)
def wsets (w:World)(b off:Nat):List Value→World
 | []=>w
 | v::vs=>wsets (w.setCell ⟨b,off,none⟩ v) b (off+1) vs
theorem pW {w:World}{b off:Nat}{cs:List Value}{t:TypeId}{lo hi:Nat}{v:Value}(hb:w.heap[b]?=some (.cells cs.toArray t (lo,hi))) :
  (w.setCell ⟨b,off,none⟩ v).heap[b]?=some (.cells (cs.set off v).toArray t (lo,hi)):=by
 simp[World.setCell,Array.getElem?_modify,hb]
def lset (cs:List Value)(off:Nat):List Value→List Value
 | []=>cs
 | v::vs=>lset (cs.set off v) (off+1) vs
theorem qJ (cs:List Value)(off:Nat)(vs:List Value):(lset cs off vs).length=cs.length:=by
 induction vs generalizing cs off with
 | nil=>rfl
 | cons v vs ih=>simp[lset,ih]
theorem pX {b off:Nat}(vs:List Value):∀(i:Nat)(w:World)(cs:List Value)(t:TypeId)(lo hi:Nat),
  w.heap[b]?=some (.cells cs.toArray t (lo,hi))→(lo=hi∨cs.length≤lo)→off+i+vs.length≤cs.length→(∀ v∈vs,v.oneCell'=true) →
  (storeCells ⟨b,off,none⟩ vs i).run P w=.ok () (wsets w b (off+i) vs):=by
 induction vs with
 | nil=>intro i w cs t lo hi _ _ _ _;simp[storeCells,wsets]
 | cons v vs ih =>
  intro i w cs t lo hi hb hfr hl h1
  simp only[List.length_cons]at hl
  have hv:=h1 v (by simp);have hcell:w.cell? ⟨b,off+i,none⟩=some cs[off+i]:=by
   simp only[World.cell?,hb];simp
  have hfz:w.frozen? ⟨b,off+i,none⟩=false:=by
   simp only[World.frozen?,hb];simp;omega
  have hb':=pW (off:=off+i) (v:=v) hb
  simp only[storeCells,Sem.run_bind,Addr.add_lit,run_store P w _ v _ hv,hcell,hfz,Result.andThen_ok,Bool.false_eq_true,if_false]
  have:=ih (i+1) (w.setCell ⟨b,off+i,none⟩ v) (cs.set (off+i) v) t lo hi hb' (by simpa using hfr) (by simp;omega) (fun u hu=>h1 u (by simp[hu]))
  exact this
theorem sets_blk (vs:List Value):∀(w:World)(b off:Nat)(cs:List Value)(t:TypeId)(lo hi:Nat),w.heap[b]?=some (.cells cs.toArray t (lo,hi)) →
  (wsets w b off vs).heap[b]?=some (.cells (lset cs off vs).toArray t (lo,hi)):=by
 induction vs with
 | nil=>intro w b off cs t lo hi hb;exact hb
 | cons v vs ih=>intro w b off cs t lo hi hb;exact ih _ _ _ _ _ _ _ (pW hb)
theorem gC (vs:List Value):∀(w:World)(b off:Nat),(wsets w b off vs).heap.size=w.heap.size∧(∀ x,x≠b→(wsets w b off vs).heap[x]?=w.heap[x]?)∧Same w (wsets w b off vs):=by
 induction vs with
 | nil=>intro w b off;exact⟨rfl,fun _ _=>rfl,.refl w⟩
 | cons v vs ih =>
  intro w b off
  obtain⟨h1,h2,h3⟩:=ih (w.setCell ⟨b,off,none⟩ v) b (off+1)
  refine⟨by rw[wsets,h1];simp,fun x hx=>?_,Same.trans (b:=w.setCell ⟨b,off,none⟩ v) ⟨rfl,rfl,rfl,by simp⟩ h3⟩
  rw[wsets,h2 x hx]
  simp only[World.setCell,Array.getElem?_modify]
  rw[if_neg (by simpa using fun e=>hx e.symm)]
def zH (v:Value)(k:List Value→Prop):Prop :=
 match v with
 | .agg ⟨cs⟩=>k cs
 | v=>k [v]
theorem rI (v:Value)(k:List Value→Prop):zH v k=k v.cells.toList:=by
 cases v<;>rfl
def lsetsK (cs:List Value)(off:Nat)(vs:List Value)(k:List Value→Prop):Prop :=
 match vs with
 | []=>k cs
 | v::vs=>lsetsK (cs.set off v) (off+1) vs k
theorem uN (cs:List Value)(off:Nat)(vs:List Value)(k:List Value→Prop):lsetsK cs off vs k=k (lset cs off vs):=by
 induction vs generalizing cs off with
 | nil=>rfl
 | cons v vs ih=>exact ih _ _
theorem RunVC.store {t:TypeId}{a x:Operand}{zero:List Value}{by_:Nat}{agg:Bool}{b off:Nat}{cs:List Value}{t':TypeId}(o:Own h0 L h)(k:Nat)(hk:L[k]?=some (box b cs t'))(hT:TyI P t agg zero by_)
  (ha:ev s a=.pointer (some ⟨b,off,none⟩)) (hl:off+zero.length≤cs.length)
  (hK:evK s x fun v=>zH v fun vs=>(vs.length=zero.length∧vs.all (fun u=>u.oneCell')=true)∧∀ h',lsetsK cs off vs fun cs'=>pD L k (box b cs' t') fun L'=>Own h0 L' h'→K undef false h'):RunVC P (.store t a x) ty s h K Q :=
 .of_skip fun w hw=>by
  subst hw;have hb:=o.boxBlk k hk;have hfr:(0:Nat)=0∨cs.length≤0:=.inl rfl
  rw[oR,rI]at hK
  generalize hx:ev s x=v at hK
  obtain⟨⟨hsz',h1'⟩,hK⟩:=hK
  have hsz:v.cells.size=zero.length:=by simpa using hsz'
  have h1:∀ u∈v.cells.toList,u.oneCell'=true:=List.all_eq_true.1 h1';have hrun:=pX (P:=P) (b:=b) (off:=off) v.cells.toList 0 w cs t' 0 0 hb hfr (by simp[hsz];omega) h1
  refine⟨wsets w b off v.cells.toList,?_,(gC _ w b off).2.2,?_⟩
  ·simp[execOp,ha,hx,Instr.storeAt,Instr.sureAddr,storeVar,hT.sizeOf,hsz,hrun]
  ·have:=hK (wsets w b off v.cells.toList).heap
   rw[uN,qK]at this
   refine this (o.set hk (Nat.le_of_eq (gC _ w b off).1.symm) (fun x _ hx=>(gC _ w b off).2.1 x hx) ?_ (fun x hx=>.inl hx) (fun x hx=>?_))
   ·exact sets_blk _ _ _ _ _ _ _ _ hb
   ·rw[(gC _ w b off).1];exact o.hi _ (List.mem_of_getElem? hk) x hx
theorem StillVC.aBx {t:TypeId}{x:Operand}{zero:List Value}{by_:Nat}{b off:Nat}{cs:List Value}{t':TypeId}{v:Value}(o:Own h0 L h)(k:Nat)(hk:L[k]?=some (box b cs t'))(hT:TyI P t false zero by_)
  (hx:ev s x=.pointer (some ⟨b,off,none⟩)) (hv:cs[off]?=some v) (hK:K v false h):StillVC false P (.load t x) ty s h K :=
 .load1 hT hx (by rw[o.cellB k hk];exact hv) hK
theorem gT {w:World}{a:Addr}(vs:List Value):∀(i:Nat)(acc:Array Value),(∀ j,j<vs.length→w.cell? (a.add (i+j))=vs[j]?) →
  (loadCellsFrom a i vs.length acc).run P w=.ok (acc++vs.toArray) w:=by
 induction vs with
 | nil=>intro i acc _;simp[loadCellsFrom]
 | cons v vs ih =>
  intro i acc hc;have h0:w.cell? (a.add i)=some v:=by simpa using hc 0 (by simp)
  have ht:=ih (i+1) (acc.push v) (fun j hj=>by have:=hc (j+1) (by simpa using hj);simpa[Nat.add_assoc,Nat.add_comm 1 j] using this)
  simp only[List.length_cons,loadCellsFrom,Sem.run_bind,run_load,h0,Result.andThen_ok,ht]
  simp
theorem StillVC.loadN {t:TypeId}{x:Operand}{zero:List Value}{by_:Nat}{a:Addr}{vs:List Value}(hT:TyI P t true zero by_)(hx:ev s x=.pointer (some a))(hl:vs.length=zero.length)
  (hc:∀ j,j<vs.length→aX h (a.add j)=vs[j]?) (hK:K (.agg ⟨vs⟩) false h):StillVC false P (.load t x) ty s h K :=
 ⟨.agg ⟨vs⟩,false,(List.range vs.length).map (fun j=>(a.add j,vs.getD j undef)),by simp,by
  intro r hr
  obtain⟨j,hj,rfl⟩:=List.mem_map.1 hr
  have hj':j<vs.length:=by simpa using hj
  simp only
  rw[hc j hj'];simp[hj'],fun w hw=>by
  have:=gT (P:=P) (w:=w) (a:=a) vs 0 #[] (fun j hj=>by
   rw[Nat.zero_add]
   have:=hw (a.add j,vs.getD j undef) (List.mem_map.2 ⟨j,by simpa using hj,rfl⟩)
   simp only at this
   rw[this];simp[hj])
  simp[execOp,hx,Instr.loadAt,Instr.sureAddr,loadVar,hT.isAgg,hT.sizeOf,← hl,loadCells,this],hK⟩
theorem StillVC.aBB {t:TypeId}{x:Operand}{zero:List Value}{by_:Nat}{b off:Nat}{cs:List Value}{t':TypeId}{vs:List Value}(o:Own h0 L h)(k:Nat)(hk:L[k]?=some (box b cs t'))(hT:TyI P t true zero by_)
  (hx:ev s x=.pointer (some ⟨b,off,none⟩)) (hv':(cs.drop off).take zero.length=vs) (hl:vs.length=zero.length) (hK:K (.agg ⟨vs⟩) false h):StillVC false P (.load t x) ty s h K :=
 have hv:(cs.drop off).take vs.length=vs:=by rw[hl];exact hv'
 .loadN hT hx hl (fun j hj=>by
  rw[Addr.add_lit,o.cellB k hk]
  conv=>rhs;rw[← hv]
  rw[List.getElem?_take,if_pos hj,List.getElem?_drop]) hK
theorem RunVC.make {t e:TypeId}{l c:Operand}{z:Value}{by_:Nat}{n:Int}{k1 k2:IntKind}(o:Own h0 L h)(hS:cP P t e)(hE:TyI P e false [z] by_)(hl:ev s l=.int k1 n)(hc:ev s c=.int k2 n)
  (h1:0≤n) (h2:n≤9223372036854775807) (h3:by_*n≤281474976710656)
  (hK:∀ b h',pE L (box b (List.replicate n.toNat z) e) fun L'=>Own h0 L' h'→K (.slice (some ⟨b,0,none⟩) n.toNat n.toNat) false h'):RunVC P (.makeSlice t l c) ty s h K Q :=
 .of fun w hw=>by
  subst hw
  obtain⟨i,z',hi,hs,hz,hzc,hb⟩:=hE.info
  have hs1:i.size=1:=by simpa using hs
  have hzc1:z'.cells=#[z]:=hzc;have hr:=run_make (P:=P) w t e i z' hS hi hz k1 k2 n n h1 (Int.le_refl _) (by rw[hb];exact h3) h2;have hm:madeCells z'.cells (n.toNat*i.size)=(List.replicate n.toNat z).toArray:=by
   apply Array.toList_inj.1
   rw[hs1,Nat.mul_one,hzc1,toList_madeCells_one]
  rw[hm]at hr
  refine⟨.slice (some ⟨w.heap.size,0,none⟩) n.toNat n.toNat,false,{ w with heap:=w.heap.push (.cells (List.replicate n.toNat z).toArray e) },by simp[execOp,hl,hc,hr],⟨rfl,rfl,rfl,by simp⟩,?_⟩
  have:=hK w.heap.size (w.heap.push (.cells (List.replicate n.toNat z).toArray e))
  rw[kT]at this
  exact this (by have:=o.push (c:=(List.replicate n.toNat z).toArray) (t:=e);simpa using this)
theorem RunVC.make0 {t e:TypeId}{l c:Operand}{agg:Bool}{zero:List Value}{by_:Nat}{n:Int}{k1 k2:IntKind}(o:Own h0 L h)(hS:cP P t e)(hE:TyI P e agg zero by_)(hl:ev s l=.int k1 0)(hc:ev s c=.int k2 n)
  (h1:0≤n) (h2:n≤9223372036854775807) (h3:by_*n≤281474976710656)
  (hK:∀ v h',pE L (row v e zero.length 0 []) fun L'=>Own h0 L' h'→K v false h'):RunVC P (.makeSlice t l c) ty s h K Q :=
 .of fun w hw=>by
  subst hw
  obtain⟨i,z',hi,hs,hz,hzc,hb⟩:=hE.info
  have hr:=run_make (P:=P) w t e i z' hS hi hz k1 k2 0 n (Int.le_refl _) h1 (by rw[hb];exact h3) h2
  refine⟨.slice (some ⟨w.heap.size,0,none⟩) 0 n.toNat,false,{ w with heap:=w.heap.push (.cells (madeCells z'.cells (n.toNat*i.size)) e) },by simp[execOp,hl,hc,hr],⟨rfl,rfl,rfl,by simp⟩,?_⟩
  have:=hK (.slice (some ⟨w.heap.size,0,none⟩) 0 n.toNat) (w.heap.push (.cells (madeCells z'.cells (n.toNat*i.size)) e))
  rw[kT]at this
  refine this (o.callR ⟨⟨by simp,fun b hb=>by rw[Array.getElem?_push,if_neg (by omega)]⟩,?_,?_,?_,List.pairwise_singleton _ _⟩)
  ·intro x hx;simp only[List.mem_singleton]at hx;subst hx
   refine⟨by simp,.inr ⟨w.heap.size,n.toNat,madeCells z'.cells (n.toNat*i.size),rfl,by simp,Nat.zero_le _,by simp only[maxLen];omega,by rw[size_madeCells,hs],by simp⟩⟩
  ·intro x hx b hb;simp only[List.mem_singleton]at hx;subst hx;simp[row,Value.ownBlock]at hb;omega
  ·intro x hx b hb;simp only[List.mem_singleton]at hx;subst hx;simp[row,Value.ownBlock]at hb;simp;omega
theorem RunVC.litA {t e:TypeId}{n:Nat}{parts:Array (Nat×Operand)}{z:Value}{by_:Nat}{vs:List Value}(o:Own h0 L h)(hS:cP P t e)(hE:TyI P e false [z] by_)
  (hp:parts.toList.map (fun p=>(p.1,ev s p.2))=vs.zipIdx.map (fun p=>(p.2,p.1))) (hn:vs.length=n) (h1:vs.all (fun u=>u.oneCell')=true) (hsm:n≤16777216)
  (hK:∀ b h',pE L (box b vs e) fun L'=>Own h0 L' h'→K (.slice (some ⟨b,0,none⟩) n n) false h'):RunVC P (.buildSlice t n parts) ty s h K Q :=
 .of fun w hw=>by
  subst hw
  obtain⟨i,z',hi,hs,hz,hzc,hb⟩:=hE.info
  have hs1:i.size=1:=by simpa using hs
  have hzc1:z'.cells=#[z]:=hzc;have fillK:∀(us:List Value) (k:Nat) (cells:Array Value),us.all (fun u=>u.oneCell')=true→k+us.length≤cells.size →
    ∃ cells',Instr.fill (fun i=>some (i*1,1)) cells ((us.zipIdx k).map (fun p=>(p.2,p.1)))=some cells'∧cells'.size=cells.size∧(∀ j,j<k→cells'[j]?=cells[j]?)∧(∀ j,j<us.length→cells'[k+j]?=us[j]?)∧(∀ j,k+us.length≤j→cells'[j]?=cells[j]?):=by
   intro us
   induction us with
   | nil=>intro k cells _ _;exact⟨cells,by simp[Instr.fill],rfl,fun _ _=>rfl,by simp,fun _ _=>rfl⟩
   | cons u us ih =>
    intro k cells h1 hl
    simp only[List.all_cons,Bool.and_eq_true]at h1
    simp only[List.length_cons]at hl
    have hu:u.cells=#[u]:=by cases u<;>simp[Value.oneCell']at h1<;>rfl
    obtain⟨c',hc',hsz,hlo,hmid,hhi⟩:=ih (k+1) (cells.setIfInBounds k u) h1.2 (by simp;omega)
    refine⟨c',?_,by rw[hsz];simp,fun j hj=>by rw[hlo j (by omega)];simp[Array.getElem?_setIfInBounds];omega,fun j hj=>?_,fun j hj=>?_⟩
    ·simp only[List.zipIdx_cons,List.map_cons,Instr.fill,hu]
     have:¬ (cells.size<k*1+1):=by omega
     simp
     have e1:(cells.setIfInBounds k u)=(cells.setIfInBounds (k+0) u):=rfl
     simpa[e1,show k+1≤cells.size by omega] using hc'
    ·cases j with
     | zero=>rw[Nat.add_zero,hlo k (by omega)];simp[Array.getElem?_setIfInBounds];omega
     | succ j =>
      have:=hmid j (by simpa using hj)
      rw[show k+(j+1)=k+1+j from by omega,this];simp
    ·simp only[List.length_cons]at hj
     rw[hhi j (by omega)];simp[Array.getElem?_setIfInBounds];omega
  have hzero:(parts.map fun x=>match x with|(i,x)=>(i,ev s x)).toList=vs.zipIdx.map (fun p=>(p.2,p.1)):=by
   rw[← hp];simp
  obtain⟨c',hc',hsz,_,hmid,_⟩:=fillK vs 0 ((Array.range (n*1)).map (fun j=>(if n*1=0 then(#[]:Array Value) else z'.cells)[j % (if n*1=0 then(#[]:Array Value) else z'.cells).size]!)) h1 (by simp[hn])
  have hc:c'=vs.toArray:=by
   apply Array.ext_getElem?
   intro j;by_cases hj:j<vs.length
   ·have:=hmid j hj;rw[Nat.zero_add]at this;rw[this];simp
   ·have e1:c'.size=n:=by rw[hsz];simp
    rw[Array.getElem?_eq_none (by omega)]
    simp;omega
  subst hc
  refine⟨.slice (some ⟨w.heap.size,0,none⟩) n n,false,{ w with heap:=w.heap.push (.cells vs.toArray e) },?_,⟨rfl,rfl,rfl,by simp⟩,?_⟩
  ·have hle:¬ (16777216<n):=by omega
   by_cases h0:n=0
   ·subst h0
    simp only[Nat.zero_mul,if_true]at hc'
    simp only[Nat.mul_one]at hc'
    simp[execOp,Instr.buildSlice,run_underlying hS,sizeOf,typeInfo,hi,hs1,newRow]
    simp at hc'
    rw[hp,hc'];simp
   ·simp only[Nat.mul_one,h0,if_false]at hc'
    simp[execOp,Instr.buildSlice,run_underlying hS,sizeOf,typeInfo,zeroValue,hz,hi,hs1,newRow,hle,h0]
    rw[hp,hc'];simp
  ·have:=hK w.heap.size (w.heap.push (.cells vs.toArray e))
   rw[kT]at this
   exact this (by have:=o.push (c:=vs.toArray) (t:=e);simpa using this)
theorem kY (parts:List (Nat×Operand))(s:List Value):∀ k,parts.map (·.1)=List.range' k parts.length→parts.map (fun p=>(p.1,ev s p.2))=(((parts.map (·.2)).map (ev s)).zipIdx k).map (fun p=>(p.2,p.1)):=by
 induction parts with
 | nil=>intro k _;rfl
 | cons p parts ih =>
  intro k h
  simp only[List.map_cons,List.length_cons,List.range'_succ,List.cons.injEq]at h
  simp only[List.map_cons,List.zipIdx_cons,List.cons.injEq]
  exact⟨by rw[h.1],ih (k+1) h.2⟩
theorem RunVC.lit {t e:TypeId}{n:Nat}{parts:List (Nat×Operand)}{z:Value}{by_:Nat}(o:Own h0 L h)(hS:cP P t e)(hE:TyI P e false [z] by_)
  (hp:parts.map (·.1)=List.range' 0 parts.length) (hn:parts.length=n) (hsm:n≤16777216)
  (hK:zY s (parts.map (·.2)) fun vs=>vs.all (fun u=>u.oneCell')=true∧∀ b h',pE L (box b vs e) fun L'=>Own h0 L' h'→K (.slice (some ⟨b,0,none⟩) n n) false h'):RunVC P (.buildSlice t n ⟨parts⟩) ty s h K Q:=by
 rw[oQ]at hK
 exact .litA (vs:=(parts.map (·.2)).map (ev s)) o hS hE (kY parts s 0 hp) (by simpa using hn) hK.1 hsm hK.2
theorem nP {w:World}{e:TypeId}{sz:Nat}{v:Value}{n:Nat}{xs:List Value}(r:rM w.heap e sz v n xs):w.ownsRow 0 e sz v n xs :=
 ⟨r.1,r.2.imp id fun⟨g,cap,cur,a,b,c⟩=>⟨g,cap,cur,a,Nat.zero_le _,b,c⟩⟩
theorem aAw {w:World}{e:TypeId}{sz:Nat}{v:Value}{n:Nat}{xs:List Value}(r:w.ownsRow 0 e sz v n xs):rM w.heap e sz v n xs :=
 ⟨r.1,r.2.imp id fun⟨g,cap,cur,a,_,b,c⟩=>⟨g,cap,cur,a,b,c⟩⟩
def cR (sz:Nat)(h:Heap)(v:Value)(n:Nat)(xs:List Value):Prop :=
 xs.length=n*sz∧∃ a cap,v=.slice a n cap∧n≤cap∧(n=0∨∃ b o,a=some ⟨b,o,none⟩∧∀ i,i<xs.length→aX h ⟨b,o+i,none⟩=xs[i]?)
theorem Arr.toN {h:Heap}{v:Value}{xs:List Value}(a:Arr h v xs):cR 1 h v xs.length xs:=by
 obtain⟨ad,cap,hv,hl,r⟩:=a
 exact⟨by simp,ad,cap,hv,hl,r.imp (fun e=>by simp[e]) id⟩
theorem cR.to1 {h:Heap}{v:Value}{n:Nat}{xs:List Value}(a:cR 1 h v n xs):Arr h v xs:=by
 obtain⟨hl,ad,cap,hv,hc,r⟩:=a
 have:n=xs.length:=by omega
 subst this
 exact⟨ad,cap,hv,hc,r.imp (fun e=>List.eq_nil_of_length_eq_zero e) id⟩
theorem cR.ext {sz:Nat}{h h':Heap}{v:Value}{n:Nat}{xs:List Value}(a:cR sz h v n xs)(e:Ext h h'):cR sz h' v n xs:=by
 obtain⟨hl,ad,cap,hv,hc,r⟩:=a
 refine⟨hl,ad,cap,hv,hc,r.imp id fun⟨b,o,ha,hc⟩=>⟨b,o,ha,fun i hi=>?_⟩⟩
 have:xs[i]?=some xs[i]:=by simp[hi]
 rw[this];exact e.cell (by rw[hc i hi,this])
theorem cR.nil (sz:Nat)(h:Heap):cR sz h (.slice none 0 0) 0 []:=⟨by simp,_,_,rfl,Nat.le_refl _,.inl rfl⟩
theorem rM.arrN {h:Heap}{e:TypeId}{sz:Nat}{v:Value}{n:Nat}{xs:List Value}(r:rM h e sz v n xs):cR sz h v n xs:=by
 obtain⟨hl,r⟩:=r
 rcases r with ⟨rfl,rfl⟩|⟨g,cap,cur,rfl,hg,hn,_,hs,ht⟩
 ·exact⟨hl,_,_,rfl,Nat.le_refl _,.inl rfl⟩
 ·refine⟨hl,_,cap,rfl,hn,.inr ⟨g,0,rfl,fun i hi=>?_⟩⟩
  rw[← ht,List.getElem?_take,if_pos (by omega)]
  simp[aX,hg]
theorem Own.rowArrN {h0:Base}{h:Heap}{L:List Item}(o:Own h0 L h)(k:Nat) {v:Value}{e:TypeId}{sz n:Nat}{xs:List Value}(hk:L[k]?=some (row v e sz n xs)):cR sz h v n xs :=
 rM.arrN (o.sat _ (List.mem_of_getElem? hk))
theorem Own.boxRow {h0:Base}{h:Heap}{L:List Item}(o:Own h0 L h)(k:Nat) {b:Nat}{cs:List Value}{t:TypeId}(hk:L[k]?=some (box b cs t))(sz n cap:Nat)(hc:cs.length=cap*sz)(hn:n≤cap)(hm:cap≤maxLen) :
  Own h0 (L.set k (row (.slice (some ⟨b,0,none⟩) n cap) t sz n (cs.take (n*sz)))) h:=by
 have hb:h[b]?=some (.cells cs.toArray t (0,0)):=o.boxBlk k hk;refine o.set hk (Nat.le_refl _) (fun _ _ _=>rfl) ⟨?_,.inr ⟨b,cap,cs.toArray,rfl,hb,hn,hm,by simpa using hc,by simp⟩⟩ (fun x hx=>.inl ?_) (fun x hx=>?_)
 ·rw[List.length_take,hc];exact Nat.min_eq_left (Nat.mul_le_mul_right _ hn)
 ·simp[row,Value.ownBlock]at hx;exact hx.symm
 ·simp[row,Value.ownBlock]at hx;subst hx;exact(Array.getElem?_eq_some_iff.1 hb).1
theorem Own.nilRow {h0:Base}{h:Heap}{L:List Item}(o:Own h0 L h)(e:TypeId)(sz:Nat):Own h0 (L++[row (.slice none 0 0) e sz 0 []]) h:=by
 refine o.callR ⟨.refl h,?_,?_,?_,List.pairwise_singleton _ _⟩
 ·intro x hx;simp only[List.mem_singleton]at hx;subst hx;exact⟨by simp,.inl ⟨rfl,rfl⟩⟩
 ·intro x hx b hb;simp only[List.mem_singleton]at hx;subst hx;simp[row,Value.ownBlock]at hb
 ·intro x hx b hb;simp only[List.mem_singleton]at hx;subst hx;simp[row,Value.ownBlock]at hb
theorem RunVC.append {t e:TypeId}{x y:Operand}{agg:Bool}{zero:List Value}{by_:Nat}{n m:Nat}{xs ys:List Value}(o:Own h0 L h)(k:Nat)(hk:L[k]?=some (row (ev s x) e zero.length n xs))
  (hS:cP P t e) (hE:TyI P e agg zero by_) (hz:0<zero.length) (hA:cR zero.length h (ev s y) m ys) (h1:∀ u∈ys,u.oneCell'=true)
  (h63:n+m≤maxLen) (hb:(n+m)*by_≤140737488355328)
  (hK:∀ v' h',pD L k (row v' e zero.length (n+m) (xs++ys)) fun L'=>Own h0 L' h'→K v' false h'):RunVC P (.call ⟨.builtin .append,⟨[x,y]⟩,⟨[t,t]⟩⟩) ty s h K Q :=
 .of fun w hw=>by
  subst hw
  obtain⟨i,z',hi,hs,hz',hzc,hby⟩:=hE.info
  have hrow:rM w.heap e zero.length (ev s x) n xs:=o.sat _ (List.mem_of_getElem? hk);have hlt:∀ b,(row (ev s x) e zero.length n xs).fp b→b<w.heap.size:=o.hi _ (List.mem_of_getElem? hk)
  obtain⟨hyl,a,c,hv,_,hc⟩:=hA
  have fin:∀(v':Value) (w':World),w'.ownsRow 0 e zero.length v' (n+m) (xs++ys)→w.grownBy w' (ev s x).ownBlock→(∀ b,v'.ownBlock=some b→(ev s x).ownBlock=some b∨w.heap.size≤b)→K v' false w'.heap:=by
   intro v' w' hown hg hfp
   have:=hK v' w'.heap
   rw[qK]at this
   refine this (o.set hk hg.size (fun b hb hnb=>hg.block b hb (fun e=>hnb e.symm)) (aAw hown) hfp (fun b hb=>(hown.lt b hb).2))
  rcases Nat.eq_zero_or_pos m with rfl|hm
  ·have hy:ys=[]:=List.eq_nil_of_length_eq_zero (by simpa using hyl)
   subst hy
   refine⟨ev s x,false,w,?_,.refl w,?_⟩
   ·obtain⟨hxl,r⟩:=hrow
    have hz0:i.size≠0:=by omega
    rcases r with ⟨hx,rfl⟩|⟨g,cap,cur,hx,hg,hnc,hcm,hcs,ht⟩
    ·cases a with
     | none=>simp[execOp,resolve,invoke,builtin,hx,hv,Builtin.append_,run_underlying hS,sizeOf,typeInfo,hi,Builtin.lenOf,Builtin.firstCells]
     | some a=>simp[execOp,resolve,invoke,builtin,hx,hv,Builtin.append_,run_underlying hS,sizeOf,typeInfo,hi,Builtin.lenOf,Builtin.firstCells,loadCells,loadCellsFrom]
    ·cases a with
     | none=>simp[execOp,resolve,invoke,builtin,hx,hv,Builtin.append_,run_underlying hS,sizeOf,typeInfo,hi,Builtin.lenOf,Builtin.firstCells,hnc,storeCells]
     | some a=>simp[execOp,resolve,invoke,builtin,hx,hv,Builtin.append_,run_underlying hS,sizeOf,typeInfo,hi,Builtin.lenOf,Builtin.firstCells,loadCells,loadCellsFrom,hnc,storeCells]
   ·have:=fin (ev s x) w (by simpa using nP hrow) ⟨rfl,rfl,rfl,Nat.le_refl _,fun _ _ _=>rfl⟩ (fun b hb=>.inl hb)
    exact this
  ·rcases hc with rfl|⟨b,off,rfl,hc⟩
   ·omega
   ·obtain⟨v',w',hr,hown,hg,hnil⟩:=run_append_own (P:=P) w 0 t ty e i z' zero.length by_ hS hi hz' hs hby (by rw[hzc];simp) hz (ev s x) n xs (nP hrow) ⟨b,off,none⟩ m c ys hyl
     (fun j u hu=>by
      rw[Addr.add_lit]
      obtain⟨hj,_⟩:=List.getElem?_eq_some_iff.1 hu
      exact(hc j hj).trans hu) h1 h63 hb (Nat.zero_le _)
    refine⟨v',false,w',?_,⟨hg.os,hg.tape,hg.output,hg.size⟩,fin v' w' hown hg ?_⟩
    ·simp[execOp,resolve,invoke,builtin,hv,hr]
    ·intro b' hb'
     have hnews:∀ j u,ys[j]?=some u→w.cell? ((⟨b,off,none⟩:Addr).add j)=some u:=fun j u hu=>by
      rw[Addr.add_lit]
      obtain⟨hj,_⟩:=List.getElem?_eq_some_iff.1 hu
      exact(hc j hj).trans hu
     rw[← hs]at hyl
     rw[← hby]at hb
     have h63i:((n+m:Nat):Int)≤9223372036854775807:=by simp only[maxLen]at h63;omega
     rcases hrow.2 with ⟨hx,hn0⟩|⟨g,cap,cur,hx,hgg,hnc,hcm,hcs,ht⟩
     ·subst hn0
      have hr2:=run_append_nil (P:=P) w t ty e i z' hS hi hz' ⟨b,off,none⟩ m c ys hyl hnews hm (by simpa using h63i) (by have:=hb;simp only[Nat.zero_add]at this;omega)
      rw[hx,hr2]at hr
      injection hr with e1 e2
      subst e1
      simp[Value.ownBlock]at hb'
      right;omega
     ·by_cases hroom:n+m≤cap
      ·have hr2:=run_append_room (P:=P) w t ty e i hS hi g n cap cur hgg ⟨b,off,none⟩ m c ys hyl hnews h1 hroom (by rw[hyl,hcs,← hs,← Nat.add_mul];exact Nat.mul_le_mul_right _ hroom)
       rw[hx,hr2]at hr
       injection hr with e1 e2
       subst e1
       left;rw[hx];exact hb'
      ·have holds:∀ j u,xs[j]?=some u→w.cell? ((⟨g,0,none⟩:Addr).add j)=some u:=World.ownsRow.cells (nP hrow) (by rw[hx];rfl)
       have hr2:=run_append_grow (P:=P) w t ty e i z' hS hi hz' ⟨g,0,none⟩ n cap xs (by rw[hrow.1,hs]) holds ⟨b,off,none⟩ m c ys hyl hnews (by omega) h63i (growslice_fits (by omega) hb)
       rw[hx,hr2]at hr
       injection hr with e1 e2
       subst e1
       simp[Value.ownBlock]at hb'
       right;omega
theorem StillVC.idxB {pr:Bool}{t e:TypeId}{by_:Nat}{x i:Operand}{agg:Bool}{z:Value}{k':IntKind}{m:Int}{b n c:Nat}{cs:List Value}{t':TypeId}(_o:Own h0 L h)(k:Nat)(_hk:L[k]?=some (box b cs t'))(hS:cP P t e)(hE:TyI P e agg [z] by_)
  (hx:ev s x=.slice (some ⟨b,0,none⟩) n c) (hi:ev s i=.int k' m) (h1:0≤m) (h2:m<n) (hk:K (.pointer (some ⟨b,m.toNat,none⟩)) false h):StillVC pr P (.indexAddr t x i) ty s h K:=by
 refine .pure' _ false (fun w=>?_) hk;have he:P.elem t=e:=by unfold cP at hS;simp[Program.elem,hS]
 have hS':P.underlying t=some (.slice (P.elem t)):=by rw[he];exact hS
 simp[execOp,hi,hx,run_indexAt_slice w t _ _ _ _ _ hS',h1,h2,he,hE.sizeOf,Addr.add_lit]
end
section
variable {P : Program} {ops : Array Oper} {Q : Exit → Act → World → Prop}
def wpE (P:Program)(ops:Array Oper)(Q:Exit→Act→World→Prop)(fl:Nat→Bool):Nat→Array Bool→Act→World→Prop
 | 0,listed,a,w=>Region.ready .any ops listed=[]∧Q .normal a w
 | n+1,listed,a,w =>
  (Region.ready .any ops listed=[]→Q .normal a w) ∧
  ∀ i∈Region.ready .any ops listed,wpOp P ops Q i (fun a' w'=>(fl i=true→Ext w.heap w'.heap)∧wpE P ops Q fl n (listed.setIfInBounds i true) a' w') a w
theorem wpE_any {fl:Nat→Bool}:∀(n:Nat)(listed:Array Bool)(a:Act)(w:World),wpE P ops Q fl n listed a w→wpAny P .any ops Q n listed a w
 | 0,_,_,_,h=>h
 | n+1,_,_,_,h=>⟨h.1,fun i hi=>wpOp_mono (fun a w h=>wpE_any n _ a w h.2) (h.2 i hi)⟩
def gI (P:Program)(ops:Array Oper)(o:Oper)(v:Value)(reads:List (Addr×Value))(a:Act):Prop :=
 (Region.wanted o (yielded ops a.tmps)=true∧∀ w:World,(∀ r∈reads,w.cell? r.1=some r.2)→(execOp a.eval o).run P w=.ok (.value v) w) ∨
 (Region.wanted o (yielded ops a.tmps)=false∧v=undef)
theorem gI.wpOp {i:Nat}{o:Oper}{v:Value}{reads:List (Addr×Value)}{a:Act}(hi:ops[i]?=some o)(hy:gI P ops o v reads a)
  {K:Act→World→Prop} {w:World} (hr:∀ r∈reads,w.cell? r.1=some r.2) (h:K (a.put o.dst v) w):wpOp P ops Q i K a w:=by
 unfold Go.wpOp
 simp only[hi]
 rcases hy with ⟨hw,hv⟩|⟨hw,rfl⟩
 ·simp only[hw,if_true,Oper.wp,hv w hr,Oper.upon];exact .inl h
 ·simp only[hw,Bool.false_eq_true,if_false];exact h
theorem gI.of_same {o:Oper}{v:Value}{reads:List (Addr×Value)}{a a':Act}(hy:gI P ops o v reads a)(he:execOp a'.eval o=execOp a.eval o)
  (hw:Region.wanted o (yielded ops a'.tmps)=Region.wanted o (yielded ops a.tmps)):gI P ops o v reads a':=by
 unfold gI at *
 rw[he,hw]
 exact hy
theorem aAd {j:Nat}{oi oj:Oper}{v:Value}{reads:List (Addr×Value)}(hj:ops[j]?=some oj)(hap:oi.apart ops oj=true)
  (hsi:∀ cs b,oi.op≠.select cs b) (hsj:∀ cs b,oj.op≠.select cs b)
  (hQ:∀ c a w,Q (.panic c) (a.put oi.dst v) w→Q (.panic c) a w) {K:Act→World→Prop} {a:Act} {w:World}
  (hy:gI P ops oi v reads a) (h:wpOp P ops Q j K (a.put oi.dst v) w) :
  wpOp P ops Q j (fun a' w'=>gI P ops oi v reads a'∧K (a'.put oi.dst v) w') a w:=by
 obtain⟨h1,h2,h3⟩:=Oper.apart_spec hap
 have keep:∀(a:Act),gI P ops oi v reads a→∀ u,gI P ops oi v reads (a.put oj.dst u):=fun a hy u =>
  hy.of_same (execOp_put oi hsi a oj.dst u h3) (wanted_put oi a oj.dst u h3)
 have keepD:∀ d,gI P ops oi v reads { a with defers:=d::a.defers }:=fun d=>hy.of_same rfl rfl;unfold wpOp at *
 simp only[hj]at *
 rw[wanted_put oj a oi.dst v h1]at h
 split
 ·rename_i hw
  simp only[hw,if_true]at h
  rcases h with h|⟨hasks,hlets⟩
  case inr=>exact .inr ⟨by unfold Oper.asks at *;rw[execOp_put oj hsj a oi.dst v h1]at hasks;exact hasks,hlets⟩
  refine .inl ?_;unfold Oper.wp at *
  rw[execOp_put oj hsj a oi.dst v h1]at h
  generalize (execOp a.eval oj).run P w=r at *
  cases r with
  | ok n w' =>
   cases n<;>simp only[Oper.upon]at h ⊢
   case value u=>exact⟨keep a hy u,by rw[← Act.put_comm a v u h2];exact h⟩
   case skip=>exact⟨keep a hy _,by rw[← Act.put_comm a v undef h2];exact h⟩
   case defer d =>
    refine⟨keep _ (keepD d) _,?_⟩
    rw[← Act.put_comm _ v undef h2,← Act.put_defers]
    exact h
   case enter f args =>
    refine Calls.mono h fun e w'' he=>?_;cases e with
    | returned u=>exact⟨keep a hy u,by rw[← Act.put_comm a v u h2];exact he⟩
    | panicked c=>exact hQ _ _ _ he
    | outgrown=>exact he
   case row row args=>exact Rows.mono h fun u w'' he=>⟨keep a hy u,by rw[← Act.put_comm a v u h2];exact he⟩
  | halt x w' =>
   cases x<;>simp only[Oper.upon]at h ⊢
   case panic u=>exact hQ _ _ _ h
 ·rename_i hw
  simp only[hw]at h
  exact⟨keep a hy _,by rw[← Act.put_comm a v undef h2];exact h⟩
def edges (ops:Array Oper)(j:Nat):List Nat :=
 match ops[j]? with
 | some o=>(o.after.toList.filter (Region.binds .any ·)).map (·.on)
 | none=>[]
def aBs (acc:List Nat)(x:Nat):List Nat:=if acc.contains x then acc else x::acc
def clo (ops:Array Oper):Nat→List Nat→List Nat
 | 0,S=>S
 | n+1,S=>clo ops n (S.foldl (fun acc j=>(edges ops j).foldl aBs acc) S)
def Closed (ops:Array Oper)(listed:Array Bool):Prop:=∀ j,listed.getD j false=true→∀ e∈edges ops j,listed.getD e false=true
theorem addNew_all {p:Nat→Prop}(l acc:List Nat)(ha:∀ x∈acc,p x)(hl:∀ x∈l,p x):∀ x∈l.foldl aBs acc,p x:=by
 induction l generalizing acc with
 | nil=>exact ha
 | cons y l ih =>
  refine ih _ ?_ (fun x hx=>hl x (by simp[hx]));intro x hx;unfold aBs at hx;split at hx
  ·exact ha x hx
  ·rcases List.mem_cons.1 hx with rfl|hx
   ·exact hl _ (by simp)
   ·exact ha x hx
theorem sG {listed:Array Bool}(hc:Closed ops listed):∀(n:Nat)(S:List Nat),(∀ x∈S,listed.getD x false=true)→∀ x∈clo ops n S,listed.getD x false=true
 | 0,_,h=>h
 | n+1,S,h=>by
  refine sG hc n _ ?_;have key:∀(l acc:List Nat),(∀ x∈l,listed.getD x false=true)→(∀ x∈acc,listed.getD x false=true)→∀ x∈l.foldl (fun acc j=>(edges ops j).foldl aBs acc) acc,listed.getD x false=true:=by
   intro l
   induction l with
   | nil=>intro acc _ ha;exact ha
   | cons j l ih=>intro acc hl ha;exact ih _ (fun x hx=>hl x (by simp[hx])) (addNew_all _ _ ha (hc j (hl j (by simp))))
  exact key S S h h
theorem mem_edges {j e:Nat}(h:e∈edges ops j):∃ o,ops[j]?=some o∧∃ x∈o.after,Region.binds .any x=true∧x.on=e:=by
 unfold edges at h;split at h
 ·rename_i o ho
  obtain⟨x,hx,rfl⟩:=List.mem_map.1 h
  obtain⟨h1,h2⟩:=List.mem_filter.1 hx
  exact⟨o,ho,x,Array.mem_toList_iff.1 h1,h2,rfl⟩
 ·simp at h
theorem pY {listed:Array Bool}{j:Nat}(hj:j∈Region.ready .any ops listed):∀ e∈edges ops j,listed.getD e false=true:=by
 intro e he
 obtain⟨o,ho,x,hx,hb,rfl⟩:=mem_edges he
 obtain⟨_,o',ho',hall⟩:=mem_ready.1 hj
 rw[ho]at ho';injection ho' with ho';subst ho'
 exact hall x hx hb
theorem Closed.set {listed:Array Bool}{j:Nat}(hc:Closed ops listed)(hj:j∈Region.ready .any ops listed):Closed ops (listed.setIfInBounds j true):=by
 intro k hk e he;by_cases hkj:k=j
 ·subst hkj;exact getD_set_true (pY hj e he)
 ·rw[getD_set_ne false (Ne.symm hkj)]at hk
  exact getD_set_true (hc k hk e he)
theorem aAe {fl:Nat→Bool}{i:Nat}{oi:Oper}{v:Value}{reads:List (Addr×Value)}(hi:ops[i]?=some oi)(hsel:∀(j:Nat)(o:Oper) cs b,ops[j]?=some o→o.op≠.select cs b)
  (hQ:∀ c a w,Q (.panic c) (a.put oi.dst v) w→Q (.panic c) a w)
  (hfl:reads=[]∨∀ j,j≠i→fl j=false→i∈clo ops ops.size (edges ops j)) :
  ∀(n:Nat) (listed:Array Bool) (a:Act) (w:World),Closed ops listed →
   (∀ j oj,ops[j]?=some oj→j≠i→listed.getD j true=false→(∀ e∈oj.after,Region.binds .any e=true→e.on≠i)→oi.apart ops oj=true) →
   i∈Region.ready .any ops listed→gI P ops oi v reads a→(∀ r∈reads,w.cell? r.1=some r.2) →
   wpE P ops Q fl n (listed.setIfInBounds i true) (a.put oi.dst v) w→wpE P ops Q fl (n+1) listed a w:=by
 intro n;have first:∀(n:Nat) (listed:Array Bool) (a:Act) (w:World),gI P ops oi v reads a→(∀ r∈reads,w.cell? r.1=some r.2)→wpE P ops Q fl n (listed.setIfInBounds i true) (a.put oi.dst v) w →
   wpOp P ops Q i (fun a' w'=>(fl i=true→Ext w.heap w'.heap)∧wpE P ops Q fl n (listed.setIfInBounds i true) a' w') a w:=fun n listed a w hy hr H =>
  hy.wpOp hi hr ⟨fun _=>.refl _,H⟩
 induction n with
 | zero =>
  intro listed a w _ _ hr hy hrd H
  refine⟨fun h=>(by rw[h]at hr;cases hr),fun j hj=>?_⟩
  by_cases hji:j=i
  ·subst hji;exact first 0 listed a w hy hrd H
  ·have:=ready_mono hj hji
   rw[H.1]at this
   cases this
 | succ n ih =>
  intro listed a w hcl hfree hr hy hrd H
  refine⟨fun h=>(by rw[h]at hr;cases hr),fun j hj=>?_⟩
  by_cases hji:j=i
  ·subst hji;exact first (n+1) listed a w hy hrd H
  ·have h1:=H.2 j (ready_mono hj hji)
   obtain⟨hjun,oj,hoj,hall⟩:=mem_ready.1 hj
   have hiun:listed.getD i false=false:=by
    have h0:=(mem_ready.1 hr).1
    rcases Nat.lt_or_ge i listed.size with h'|h'
    ·simp[h']at h0 ⊢;exact h0
    ·simp[Array.getElem?_eq_none h']
   have hnot:∀ e∈oj.after,Region.binds .any e=true→e.on≠i:=fun e he hb heq=>by
    have h1:=hall e he hb
    rw[heq,hiun]at h1;cases h1
   have hflj:reads=[]∨fl j=true:=by
    rcases hfl with h|h
    ·exact .inl h
    ·right
     cases hf:fl j with
     | true=>rfl
     | false =>
      have:=sG hcl _ _ (pY hj) i (h j hji hf)
      rw[hiun]at this;cases this
   have h2:=aAd hoj (hfree j oj hoj hji hjun hnot) (fun cs b=>hsel i oi cs b hi) (fun cs b=>hsel j oj cs b hoj) hQ hy h1;have hfree':∀ k ok,ops[k]?=some ok→k≠i→(listed.setIfInBounds j true).getD k true=false →
     (∀ e∈ok.after,Region.binds .any e=true→e.on≠i)→oi.apart ops ok=true:=fun k ok hk hki hun hno=>by
    refine hfree k ok hk hki ?_ hno;by_cases hjk:j=k
    ·subst hjk;exact hjun
    ·rw[getD_set_ne true hjk]at hun;exact hun
   refine wpOp_mono (fun a' w' h3=>⟨h3.2.1,ih (listed.setIfInBounds j true) a' w' (hcl.set hj) hfree' (ready_mono hr (Ne.symm hji)) h3.1 ?_ ?_⟩) h2
   ·rcases hflj with rfl|hflj
    ·simp
    ·intro r hr'
     exact(h3.2.1 hflj).cell (hrd r hr')
   ·rw[Array.setIfInBounds_comm _ _ hji]
    exact h3.2.2
end
def wM:List Oper→Nat→Option Oper
 | [],_=>none
 | o::_,0=>some o
 | _::l,n+1=>wM l n
theorem tD (l:List Oper)(n:Nat):l[n]?=wM l n:=by
 induction l generalizing n with
 | nil=>simp[wM]
 | cons o l ih=>cases n with
  | zero=>simp[wM]
  | succ n=>simpa[wM] using ih n
def vdop (P:Program)(st0 stR tails:List Nat)(i:Nat)(op:Op)(ty:TypeId)(D:List Nat)(s:List Value)(h:Heap)(K:KK)(Q:QQ):Prop :=
 bif mem st0 i then vopS true P op ty D s h K
 else bif mem stR i then vopS false P op ty D s h K
 else bif mem tails i then vop P op ty D s h K Q
 else vop P op ty D s h (fun v l h'=>Ext h h'∧K v l h') Q
def vostep (P:Program)(L:List Oper)(st0 stR tails:List Nat)(i:Nat)(ih:List Nat→List Value→Heap→QQ→Prop)(D:List Nat)(s:List Value)(h:Heap)(Q:QQ):Prop :=
  match wM L i with
  | none=>False
  | some ⟨dst,op,ty,_,_,none⟩ =>
   vdop P st0 stR tails i op ty D s h (fun v l h'=>dL s dst v fun s'=>ih (fJ D dst l) s' h' Q) Q
  | some ⟨dst,op,ty,_,_,some (j,want)⟩ =>
   match lF L j with
   | none=>False
   | some g =>
    match mem D g with
    | true =>
     (match sget s g with
     | .bool true =>
      (match want with
      | true=>vdop P st0 stR tails i op ty D s h (fun v l h'=>dL s dst v fun s'=>ih (fJ D dst l) s' h' Q) Q
      | false=>dL s dst undef fun s'=>ih (fJ D dst false) s' h Q)
     | .bool false =>
      (match want with
      | true=>dL s dst undef fun s'=>ih (fJ D dst false) s' h Q
      | false=>vdop P st0 stR tails i op ty D s h (fun v l h'=>dL s dst v fun s'=>ih (fJ D dst l) s' h' Q) Q)
     | _=>dL s dst undef fun s'=>ih (fJ D dst false) s' h Q)
    | false =>
     (match sget s g with
     | .bool t =>
      Br t
       (mC s g (.bool true) fun s =>
        match want with
        | true=>vdop P st0 stR tails i op ty (g::D) s h (fun v l h'=>dL s dst v fun s'=>ih (fJ (g::D) dst l) s' h' Q) Q
        | false=>dL s dst undef fun s'=>ih (fJ (g::D) dst false) s' h Q)
       (mC s g (.bool false) fun s =>
        match want with
        | true=>dL s dst undef fun s'=>ih (fJ (g::D) dst false) s' h Q
        | false=>vdop P st0 stR tails i op ty (g::D) s h (fun v l h'=>dL s dst v fun s'=>ih (fJ (g::D) dst l) s' h' Q) Q)
     | _=>dL s dst undef fun s'=>ih (fJ D dst false) s' h Q)
def vord (P:Program)(L:List Oper)(st0 stR tails:List Nat)(l:List Nat):List Nat→List Value→Heap→QQ→Prop :=
 List.rec (motive:=fun _=>List Nat→List Value→Heap→QQ→Prop) (fun _ s h Q=>Q .normal s h) (fun i _ ih=>vostep P L st0 stR tails i ih) l
theorem vord_cons (P:Program)(L:List Oper)(st0 stR tails:List Nat)(i:Nat)(rest D:List Nat)(s:List Value)(h:Heap)(Q:QQ):vord P L st0 stR tails (i::rest) D s h Q=vostep P L st0 stR tails i (vord P L st0 stR tails rest) D s h Q:=rfl
def qF (ops:Array Oper)(st0 stR:List Nat):List Nat→Array Bool→Bool
 | [],listed=>(Region.ready .any ops listed).isEmpty
 | i::rest,listed =>
  ((bif mem st0 i||mem stR i then(Region.ready .any ops listed).contains i&&Region.free .any ops listed i else(Region.ready .any ops listed) == [i]) &&
   qF ops st0 stR rest (listed.setIfInBounds i true))
def kK (ops:Array Oper)(stR tails:List Nat):Bool :=
 tails.all fun j=>stR.all fun i=>i == j||(clo ops ops.size (edges ops j)).contains i
def qT (ops:Array Oper)(st0 stR tails ord:List Nat):Bool :=
 Region.noSelect ops&&kK ops stR tails&&qF ops st0 stR ord (Array.replicate ops.size false)
section
variable {P : Program} {ops : Array Oper} {Q : QQ} {w0 : World} {ds : List Deferred} {st0 stR tails : List Nat}
theorem mem_iff (l:List Nat)(n:Nat):mem l n=true↔n∈l:=by
 induction l with
 | nil=>simp[mem]
 | cons x l ih =>
  simp only[mem,List.mem_cons]
  cases hb:Nat.beq x n with
  | true=>have:=Nat.eq_of_beq_eq_true hb;simp[this]
  | false=>have:=Nat.ne_of_beq_eq_false hb;simp[ih,Ne.symm this]
theorem tJ (hp:∀ c s s' h,Q (.panic c) s h→Q (.panic c) s' h)(d:Option Tmp)(v:Value):∀ c a w,lift w0 ds Q (.panic c) (Act.put a d v) w→lift w0 ds Q (.panic c) a w:=by
 rintro c a w ⟨s,ha,hs,hq⟩
 refine⟨a.tmps.toList,?_,hs,hp c _ _ _ hq⟩
 have hd:(a.put d v).defers=ds:=by rw[ha];rfl
 have hd':a.defers=ds:=by cases d<;>exact hd
 cases a;simp only at hd';subst hd';simp[act]
theorem step_skip {listed:Array Bool}{i n:Nat}{o:Oper}{s:List Value}{w:World}(hp:∀ c s s' h,Q (.panic c) s h→Q (.panic c) s' h)(hsel:Region.noSelect ops=true)
  (hi:ops[i]?=some o) (hw:Region.wanted o (yielded ops (act s ds).tmps)=false) (hcl:Closed ops listed)
  (hok:(bif mem st0 i||mem stR i then(Region.ready .any ops listed).contains i&&Region.free .any ops listed i else(Region.ready .any ops listed) == [i])=true)
  (ih:wpE P ops (lift w0 ds Q) (fun j=>!mem tails j) n (listed.setIfInBounds i true) ((act s ds).put o.dst undef) w) :
  wpE P ops (lift w0 ds Q) (fun j=>!mem tails j) (n+1) listed (act s ds) w:=by
 cases hc:(mem st0 i||mem stR i) with
 | true =>
  rw[hc]at hok
  simp only[cond_true,Bool.and_eq_true]at hok
  exact aAe hi (Region.noSelect_spec hsel) (tJ hp _ _) (.inl rfl) n listed _ w hcl (Region.free_spec hi hok.2) (by simpa using hok.1) (.inr ⟨hw,rfl⟩) (by simp) ih
 | false =>
  rw[hc]at hok
  simp only[cond_false,beq_iff_eq]at hok
  refine⟨fun h=>(by rw[h]at hok;cases hok),fun j hj=>?_⟩
  rw[hok]at hj
  simp only[List.mem_singleton]at hj;subst hj
  unfold wpOp
  simp only[hi,hw,Bool.false_eq_true,if_false]
  exact⟨fun _=>.refl _,ih⟩
theorem step_run {listed:Array Bool}{i n:Nat}{dst:Option Tmp}{op:Op}{ty:TypeId}{pos:String}{after:Array Edge}{guard:Option (Nat×Bool)}{D:List Nat}{s:List Value}{w:World}{K:KK}
  (hp:∀ c s s' h,Q (.panic c) s h→Q (.panic c) s' h) (hsel:Region.noSelect ops=true) (htails:kK ops stR tails=true)
  (hi:ops[i]?=some ⟨dst,op,ty,pos,after,guard⟩) (hw:Region.wanted ⟨dst,op,ty,pos,after,guard⟩ (yielded ops (act s ds).tmps)=true) (hcl:Closed ops listed) (hs:Same w0 w)
  (hok:(bif mem st0 i||mem stR i then(Region.ready .any ops listed).contains i&&Region.free .any ops listed i else(Region.ready .any ops listed) == [i])=true)
  (hv:vdop P st0 stR tails i op ty D s w.heap K Q)
  (ih:∀ v l w',Same w0 w'→K v l w'.heap→wpE P ops (lift w0 ds Q) (fun j=>!mem tails j) n (listed.setIfInBounds i true) ((act s ds).put dst v) w') :
  wpE P ops (lift w0 ds Q) (fun j=>!mem tails j) (n+1) listed (act s ds) w:=by
 have still:∀ pr:Bool,(mem st0 i||mem stR i)=true→(pr=true∨mem stR i=true)→vopS pr P op ty D s w.heap K→wpE P ops (lift w0 ds Q) (fun j=>!mem tails j) (n+1) listed (act s ds) w:=by
  intro pr hc hpr hv
  rw[hc]at hok
  simp only[cond_true,Bool.and_eq_true]at hok
  obtain⟨v,l,reads,hre,hr,hrun,hk⟩:=(lU hv).ex
  refine aAe (oi:=⟨dst,op,ty,pos,after,guard⟩) (v:=v) (reads:=reads) hi (Region.noSelect_spec hsel) (tJ hp _ _) ?_ n listed _ w hcl (Region.free_spec hi hok.2) (by simpa using hok.1) (.inl ⟨hw,fun w hw'=>?_⟩) (fun r hm=>hr r hm) (ih v l w hs hk)
  ·rcases hpr with rfl|hm
   ·exact .inl (hre rfl)
   ·right
    intro j hne hf;have hjt:j∈tails:=by rw[← mem_iff];simpa using hf
    have:=List.all_eq_true.1 (List.all_eq_true.1 htails j hjt) i ((mem_iff _ _).1 hm)
    simp only[Bool.or_eq_true,beq_iff_eq]at this
    rcases this with h|h
    ·exact absurd h.symm hne
    ·simpa using h
  ·rw[eJ,dP];exact hrun w hw'
 unfold vdop at hv;cases h0:mem st0 i with
 | true=>rw[h0]at hv;exact still true (by simp[h0]) (.inl rfl) hv
 | false =>
  rw[h0]at hv
  simp only[cond_false]at hv
  cases hR:mem stR i with
  | true=>rw[hR]at hv;exact still false (by simp[hR]) (.inr hR) hv
  | false =>
   rw[hR]at hv
   simp only[cond_false]at hv
   rw[h0,hR]at hok
   simp only[Bool.or_false,cond_false,beq_iff_eq]at hok
   have fin:∀ K':KK,(∀ v l h',K' v l h'→(mem tails i=false→Ext w.heap h')∧K v l h')→vop P op ty D s w.heap K' Q→wpE P ops (lift w0 ds Q) (fun j=>!mem tails j) (n+1) listed (act s ds) w:=by
    intro K' hK' hv'
    refine⟨fun h=>(by rw[h]at hok;cases hok),fun j hj=>?_⟩
    rw[hok]at hj
    simp only[List.mem_singleton]at hj;subst hj
    unfold wpOp
    simp only[hi,hw,if_true]
    exact .inl ((nK hv').run w rfl ds dst pos after guard _ _
     (fun v l w' hw' hk=>⟨fun hf=>(hK' v l _ hk).1 (by simpa using hf),ih v l w' (hs.trans hw') (hK' v l _ hk).2⟩)
     (fun c w' hw' hq=>⟨s,rfl,hs.trans hw',hq⟩))
   cases ht:mem tails i with
   | true=>rw[ht]at hv;exact fin K (fun v l h' hk=>⟨fun h=>(by rw[ht]at h;cases h),hk⟩) hv
   | false=>rw[ht]at hv;exact fin _ (fun v l h' hk=>⟨fun _=>hk.1,hk.2⟩) hv
theorem wZ (hp:∀ c s s' h,Q (.panic c) s h→Q (.panic c) s' h)(hsel:Region.noSelect ops=true)(htails:kK ops stR tails=true) :
  ∀(ord:List Nat) (D:List Nat) (s:List Value) (w:World) (listed:Array Bool),Same w0 w→Closed ops listed→qF ops st0 stR ord listed=true→vord P ops.toList st0 stR tails ord D s w.heap Q →
   wpE P ops (lift w0 ds Q) (fun j=>!mem tails j) ord.length listed (act s ds) w
 | [],D,s,w,listed,hs,_,hok,hv=>⟨by simpa[qF] using hok,s,rfl,hs,hv⟩
 | i::rest,D,s,w,listed,hs,hcl,hok,hv=>by
  simp only[qF,Bool.and_eq_true]at hok
  obtain⟨hok,hrest⟩:=hok
  have hready:i∈Region.ready .any ops listed:=by
   cases hc:(mem st0 i||mem stR i) with
   | true=>rw[hc]at hok;simp only[cond_true,Bool.and_eq_true]at hok;simpa using hok.1
   | false=>rw[hc]at hok;simp only[cond_false,beq_iff_eq]at hok;rw[hok];simp
  have hcl':=hcl.set hready;have goOn:∀ D s (w:World),Same w0 w→vord P ops.toList st0 stR tails rest D s w.heap Q→wpE P ops (lift w0 ds Q) (fun j=>!mem tails j) rest.length (listed.setIfInBounds i true) (act s ds) w :=
   fun D s w hs hv=>wZ hp hsel htails rest D s w _ hs hcl' hrest hv
  simp only[vord_cons,vostep]at hv
  cases ho:wM ops.toList i with
  | none=>simp[ho]at hv
  | some o =>
   have hi:ops[i]?=some o:=by rw[← ho,← tD];simp
   obtain⟨dst,op,ty,pos,after,guard⟩:=o
   have run:∀ D D' s,Region.wanted ⟨dst,op,ty,pos,after,guard⟩ (yielded ops (act s ds).tmps)=true →
     vdop P st0 stR tails i op ty D s w.heap (fun v l h'=>dL s dst v fun s'=>vord P ops.toList st0 stR tails rest (fJ D' dst l) s' h' Q) Q →
     wpE P ops (lift w0 ds Q) (fun j=>!mem tails j) (rest.length+1) listed (act s ds) w:=fun D D' s hw hv =>
    step_run hp hsel htails hi hw hcl hs hok hv fun v l w' hs' hk=>by rw[iE];rw[fT]at hk;exact goOn _ _ _ hs' hk
   have skip:∀ D s,Region.wanted ⟨dst,op,ty,pos,after,guard⟩ (yielded ops (act s ds).tmps)=false →
     (dL s dst undef fun s'=>vord P ops.toList st0 stR tails rest D s' w.heap Q) →
     wpE P ops (lift w0 ds Q) (fun j=>!mem tails j) (rest.length+1) listed (act s ds) w:=fun D s hw hk =>
    step_skip hp hsel hi hw hcl hok (by rw[iE];rw[fT]at hk;exact goOn _ _ _ hs hk)
   cases guard with
   | none=>simp only[ho]at hv;exact run _ _ _ (by simp[Region.wanted]) hv
   | some gw =>
    obtain⟨j,want⟩:=gw
    simp only[ho]at hv
    cases hd:lF ops.toList j with
    | none=>simp[hd]at hv
    | some g =>
     simp only[hd]at hv
     cases hm:mem D g with
     | true =>
      simp only[hm]at hv
      split at hv
      ·rename_i hg
       have hy:=dU (ds:=ds) hd hg;cases want with
       | true=>exact run _ _ _ (by simp[Region.wanted,hy]) hv
       | false=>exact skip _ _ (by simp[Region.wanted,hy]) hv
      ·rename_i hg
       have hy:=dU (ds:=ds) hd hg;cases want with
       | false=>exact run _ _ _ (by simp[Region.wanted,hy]) hv
       | true=>exact skip _ _ (by simp[Region.wanted,hy]) hv
      ·rename_i h1 h2
       have hy:=eK (ds:=ds) (s:=s) hd (fun t e=>match t,e with|true,e=>h1 e|false,e=>h2 e);exact skip _ _ (by simp[Region.wanted,hy]) hv
     | false =>
      simp only[hm]at hv
      split at hv
      ·rename_i t hg
       have hy:=dU (ds:=ds) hd hg;cases t with
       | true =>
        have hv:=hv.y rfl
        rw[fB,gO s g _ hg]at hv
        cases want with
        | true=>exact run _ _ _ (by simp[Region.wanted,hy]) hv
        | false=>exact skip _ _ (by simp[Region.wanted,hy]) hv
       | false =>
        have hv:=hv.n rfl
        rw[fB,gO s g _ hg]at hv
        cases want with
        | false=>exact run _ _ _ (by simp[Region.wanted,hy]) hv
        | true=>exact skip _ _ (by simp[Region.wanted,hy]) hv
      ·rename_i h1
       have hy:=eK (ds:=ds) (s:=s) hd (fun t e=>h1 t e);exact skip _ _ (by simp[Region.wanted,hy]) hv
theorem DrawVC.intro {id:Nat}{s:List Value}{h:Heap}(st0 stR tails ord:List Nat)(hm:P.follows .mixedOrders=true)(hok:qT ops st0 stR tails ord=true)(hlen:ord.length=ops.size)
  (hp:∀ c s s' h,Q (.panic c) s h→Q (.panic c) s' h) (hv:vord P ops.toList st0 stR tails ord [] s h Q):DrawVC P id ops s h Q where
 wp w0 w ds hw hs:=by
  subst hw
  simp only[qT,Bool.and_eq_true]at hok
  refine wp_region_any hm (wpE_any (fl:=fun j=>!mem tails j) _ _ _ _ ?_);have hcl:Closed ops (Array.replicate ops.size false):=by
   intro j hj
   exfalso
   by_cases hlt:j<ops.size<;>simp[hlt]at hj
  have:=wZ (P:=P) (w0:=w0) (ds:=ds) hp hok.1.1 hok.1.2 ord [] s { w with drawn:=w.drawn+1 } _ (hs.trans ⟨rfl,rfl,rfl,by simp⟩) hcl hok.2 hv
  rw[hlen]at this
  exact this
end
end Go.Proofs.YtohlogbnpfofpaaGreatDoor
