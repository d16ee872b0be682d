/- Part 1 of the proof of matches_lifted: Vc, VcRules, VcMem, VcMem2. -/
import Derived.WalkKit
import Derived.Scope
set_option linter.all false
set_option maxHeartbeats 100000000
set_option maxRecDepth 100000
namespace Go.Proofs.YtohlogbnpfofpaaGreatDoor
open Go
abbrev aBs := List UInt8
abbrev aVs := List Value
def aDX := @List.length_append
def aDY := @List.mem_of_getElem?
def aDZ := @List.getElem?_eq_some_iff
def aD0 := @Bool.and_eq_true
def aD1 := @List.length_cons
def aD2 := @List.length_nil
def aD3 := @List.length_eq_zero_iff
def aD4 := @List.all_eq_true
def aD5 := @List.mem_singleton
def aD6 := @Nat.le_refl
def aD7 := @List.append_nil
def aD8 := @List.drop_eq_getElem_cons
def aD9 := @Bool.false_eq_true
def aEa := @List.take_of_length_le
def aEb := @List.append_assoc
def aEc := @Nat.le_trans
def aEd := @List.mem_cons
def aEe := @Bool.eq_iff_iff
def aEf := @List.flatMap_cons
def aEg := @Nat.zero_add
def aEh := @Bool.eq_false_iff
def aEi := @List.getD_eq_getElem?_getD
def aEj := @Bool.and_true
def aEk := @Bool.true_eq_false
def aEl := @List.getElem?_toArray
def aEm := @List.mem_iff_getElem?
def aEn := @Bool.not_eq_true'
def aEo := @Option.map_eq_some_iff
def aEp := @List.take_succ_cons
def aEq := @Bool.true_and
def aEr := @List.take_add_one
def aEs := @Nat.le_of_not_lt
def aEt := @List.drop_of_length_le
def aEu := @Bool.false_and
def aEv := @List.getElem?_map
def aEw := @List.take_append_drop
def aEx := @List.map_cons
def aEy := @List.flatMap_append
def aEz := @List.flatten_cons
def aEA := @List.getElem?_eq_none
def aEB := @Bool.or_eq_true
def aEC := @List.length_take
def aED := @Bool.and_false
def aEE := @List.pairwise_iff_getElem
def aEF := @List.flatten_nil
def aEG := @List.takeWhile_cons
def aEH := @List.mem_append
def aEI := @List.pairwise_singleton
def aEJ := @List.getElem?_set_ne
def aEK := @Nat.eq_of_beq_eq_true
def aEL := @List.mem_map
def aEM := @List.getElem?_drop
def aEN := @List.getElem?_eq_getElem
def aEO := @List.all_cons
def aEP := @List.drop_drop
def aEQ := @Option.isSome_map
def aER := @List.getElem?_take
def aES := @List.take_zero
theorem lcA {α : Type} {a : α} {as bs : List α} : a :: as ++ bs = a :: (as ++ bs) := rfl
theorem lnA {α : Type} (as : List α) : [] ++ as = as := rfl
theorem lgS {α : Type} {a : α} {as : List α} {i : Nat} : (a :: as)[i + 1]? = as[i]? := List.getElem?_cons_succ
theorem lgZ {α : Type} {a : α} {as : List α} : (a :: as)[0]? = some a := List.getElem?_cons_zero
theorem lgN {α : Type} {i : Nat} : ([] : List α)[i]? = none := List.getElem?_nil
theorem lsS {α : Type} {a b : α} {as : List α} {i : Nat} : (a :: as).set (i + 1) b = a :: as.set i b := List.set_cons_succ
theorem oMS {α β : Type} {f : α -> β} {a : α} : (some a).map f = some (f a) := rfl
theorem oMN {α β : Type} {f : α -> β} : (none : Option α).map f = none := rfl
theorem aI {a b : Prop} (x : a) (y : b) : a /\ b := ⟨x, y⟩
theorem lsZ {α : Type} {a b : α} {as : List α} : (a :: as).set 0 b = b :: as := List.set_cons_zero
abbrev sv (l : List UInt8) : Value := .string ⟨⟨l⟩⟩
theorem w_ {p : Prop} (h : p := by first | omega | (simp; omega)) : p := h
theorem k_ {p : Prop} (h : p := by kernel_rfl) : p := h
theorem c_ {p : Prop} (h : p := by simp [Value.oneCell']) : p := h
theorem a_ {p : Prop} (h : p := by first | assumption | rfl) : p := h
theorem v_ {p : Prop} (h : p := by simp; omega) : p := h
abbrev iv (n : Int) : Value := .int .i64 n
abbrev pv (b o : Nat) : Value := .pointer (some ⟨b, o, none⟩)
theorem l_ : (∀ (α : Type) (a : α) (as bs : List α), a :: as ++ bs = a :: (as ++ bs)) /\ (∀ (α : Type) (as : List α), [] ++ as = as) /\ (∀ (α : Type) (a : α) (as : List α) (i : Nat), (a :: as)[i + 1]? = as[i]?) /\ (∀ (α : Type) (a : α) (as : List α), (a :: as)[0]? = some a) /\ ∀ (α : Type) (i : Nat), ([] : List α)[i]? = none := ⟨λ_ _ _ _ => rfl, λ_ _ => rfl, λ_ _ _ _ => List.getElem?_cons_succ, λ_ _ _ => List.getElem?_cons_zero, λ_ _ => List.getElem?_nil⟩
theorem zO {p:Prop}(h:p:=by omega):p:=h
theorem zA {p:Prop}(h:p:=by assumption):p:=h
theorem zS {p:Prop}(h:p:=by simp):p:=h
theorem zD {p:Prop}(h:p:=by decide):p:=h
abbrev Heap:=Array Obj
def bI (h:Heap)(a:Addr):Option Value :=
  match h[a.block]? with
  | some (.cells c _ _)=>if a.spot.isSome then none else c[a.off]?
  | _=>none
theorem hH (w:World)(a:Addr):w.cell? a=bI w.heap a:=rfl
def sget:aVs->Nat->Value
  | [],_=>undef
  | v::_,0=>v
  | _::l,n+1=>sget l n
def oP (l:aVs)(n:Nat)(v:Value)(k:aVs->Prop):Prop :=
  match l,n with
  | [],_=>k []
  | _::l,0=>k (v::l)
  | x::l,n+1=>oP l n v (λl'=>k (x::l'))
theorem gA (l:aVs)(n:Nat)(v:Value)(k:aVs->Prop):oP l n v k=k (l.set n v):=by
  induction l generalizing n k with
  | nil=>simp[oP]
  | cons x l ih=>cases n with
    | zero=>simp[oP]
    | succ n=>simp[oP,ih]
theorem dS (l:aVs)(n:Nat):l.getD n undef=sget l n:=by
  induction l generalizing n with
  | nil=>simp[sget]
  | cons x l ih=>cases n with
    | zero=>simp[sget]
    | succ n=>simpa[sget] using ih n
def ev (s:aVs):Operand->Value
  | .tmp t=>sget s t
  | .const v=>v
  | .global g=>.pointer (some ⟨g,0,none⟩)
  | .func f=>.func (.func f) #[] #[]
def rS (l:aVs)(n:Nat)(k:Value->Prop):Prop :=
  match l,n with
  | [],_=>k undef
  | v::_,0=>k v
  | _::l,n+1=>rS l n k
theorem sH (l:aVs)(n:Nat)(k:Value->Prop):rS l n k=k (sget l n):=by
  induction l generalizing n with
  | nil=>simp[rS,sget]
  | cons x l ih=>cases n with
    | zero=>simp[rS,sget]
    | succ n=>simpa[rS,sget] using ih n
def evK (s:aVs)(x:Operand)(k:Value->Prop):Prop :=
  match x with
  | .tmp t=>rS s t k
  | .const v=>k v
  | .global g=>k (.pointer (some ⟨g,0,none⟩))
  | .func f=>k (.func (.func f) #[] #[])
theorem oY (s:aVs)(x:Operand)(k:Value->Prop):evK s x k=k (ev s x):=by
  cases x<;>simp[evK,ev,sH]
def zT (s:aVs)(xs:List Operand)(k:aVs->Prop):Prop :=
  match xs with
  | []=>k []
  | x::xs=>evK s x λv=>zT s xs λvs=>k (v::vs)
theorem pP (s:aVs)(xs:List Operand)(k:aVs->Prop):zT s xs k=k (xs.map (ev s)):=by
  induction xs generalizing k with
  | nil=>rfl
  | cons x xs ih=>simp[zT,oY,ih]
def oS (s:aVs)(ts:List Nat)(k:aVs->Prop):Prop :=
  match ts with
  | []=>k []
  | t::ts=>rS s t λv=>oS s ts λvs=>k (v::vs)
theorem tV (s:aVs)(ts:List Nat)(k:aVs->Prop):oS s ts k=k (ts.map (sget s)):=by
  induction ts generalizing k with
  | nil=>rfl
  | cons x xs ih=>simp[oS,sH,ih]
def act (s:aVs)(ds:List Deferred):Act:=⟨s.toArray,ds⟩
theorem fV (s:aVs)(ds:List Deferred):(act s ds).eval=ev s:=by
  funext x
  cases x with
  | tmp t=>simp only[Act.eval,act,ev,← dS];simp
  | _=>rfl
theorem wL (s:aVs)(ds:List Deferred)(d:Tmp)(v:Value):(act s ds).put (some d) v=act (s.set d v) ds:=by
  simp[act,Act.put]
structure Same (w w':World):Prop where
  os:w'.os=w.os
  tape:w'.tape=w.tape
  output:w'.output=w.output
  size:w.heap.size<=w'.heap.size
theorem Same.refl (w:World):Same w w:=⟨rfl,rfl,rfl,aD6 _⟩
theorem Same.trans {a b c:World}(h:Same a b)(k:Same b c):Same a c:=⟨k.os.trans h.os,k.tape.trans h.tape,k.output.trans h.output,aEc h.size k.size⟩
abbrev QQ:=Exit->aVs->Heap->Prop
abbrev KK:=Value->Bool->Heap->Prop
def lift (w0:World)(ds:List Deferred)(Q:QQ):Exit->Act->World->Prop :=
  λe a w=>∃ s,a=act s ds/\Same w0 w/\Q e s w.heap
def Spec (P:Program)(f:FuncId)(args:aVs)(h:Heap)(R:Ending->Heap->Prop):Prop :=
  (∃ fn,P.funcs[f]?=some fn/\fn.body.isNone=false/\(fn.name == "runtime.NumGoroutine")=false) /\
  ∀ w:World,w.heap=h->Calls P f args.toArray w λe w'=>Same w w'/\R e w'.heap
def Ret (Post:Value->Heap->Prop):Ending->Heap->Prop
  | .returned v,h=>Post v h
  | _,_=>False
abbrev bG (P:Program)(f:FuncId)(args:aVs)(h:Heap)(Post:Value->Heap->Prop):Prop:=Spec P f args h (Ret Post)
theorem Spec.mono {P:Program}{f:FuncId}{args:aVs}{h:Heap}{R R':Ending->Heap->Prop}(s:Spec P f args h R)(hr:∀ e h',R e h'->R' e h'):Spec P f args h R' :=
  ⟨s.1,λw hw=>(s.2 w hw).mono λ_ _ ⟨a,b⟩=>⟨a,hr _ _ b⟩⟩
theorem bG.mono {P:Program}{f:FuncId}{args:aVs}{h:Heap}{R R':Value->Heap->Prop}(s:bG P f args h R)(hr:∀ v h',R v h'->R' v h'):bG P f args h R' :=
  Spec.mono s λe h'=>by cases e<;>first|exact hr _ _|exact id
structure Ar (k:IntKind) (n:Int) (K:Value->Prop):Prop where
  h:K (.int k (k.wrap n))
structure Br (t:Bool) (A B:Prop) (_a _b:Code:=.skip):Prop where
  y:t=true->A
  n:t=false->B
structure RunVC (P:Program) (op:Op) (ty:TypeId) (s:aVs) (h:Heap) (K:KK) (Q:QQ):Prop where
  run:∀(w:World),w.heap=h->∀(ds:List Deferred) (dst:Option Tmp) (pos:String) (after:Array Edge) (guard:Option (Nat×Bool))
    (next:Act->World->Prop) (Q':Exit->Act->World->Prop),
    (∀ v l w',Same w w'->K v l w'.heap->next ((act s ds).put dst v) w') ->
    (∀ chain w',Same w w'->Q (.panic chain) s w'.heap->Q' (.panic chain) (act s ds) w') ->
    Oper.wp P ⟨dst,op,ty,pos,after,guard⟩ (act s ds) w next Q'
structure StillVC (pr:Bool) (P:Program) (op:Op) (ty:TypeId) (s:aVs) (h:Heap) (K:KK):Prop where
  ex:∃(v:Value) (l:Bool) (reads:List (Addr×Value)),(pr=true->reads=[])/\(∀ r∈reads,bI h r.1=some r.2) /\
    (∀ w:World,(∀ r∈reads,w.cell? r.1=some r.2)->(execOp (ev s) ⟨none,op,ty, "",#[],none⟩).run P w=.ok (.value v) w)/\K v l h
def XSpec (P:Program)(f:FuncId)(args:aVs)(h:Heap)(R:Ending->Heap->Prop):Prop :=
  ∀ w:World,w.heap=h->∃ v w',(callFunc f args.toArray).run P w=.ok (.value v) w'/\Same w w'/\R (.returned v) w'.heap
def CSpec (P:Program)(f:FuncId)(args:aVs)(h:Heap)(R:Ending->Heap->Prop):Prop:=Spec P f args h R∨XSpec P f args h R
structure CallVC (P:Program) (g:FuncId) (args:aVs) (s:aVs) (h:Heap) (K:KK) (Q:QQ):Prop where
  spec:∃ R:Ending->Heap->Prop,CSpec P g args h R/\(∀ v h',R (.returned v) h'->K v false h')/\(∀ c h',R (.panicked c) h'->Q (.panic c) s h')/\∀ h',¬ R .outgrown h'
def zY (N:aVs->Heap->Prop)(Q:QQ):QQ
  | .normal,s,h=>N s h
  | e,s,h=>Q e s h
structure LoopVC (B:QQ->aVs->Heap->Prop) (Q:QQ) (s:aVs) (h:Heap):Prop where
  ex:∃(I:aVs->Heap->Prop) (μ:aVs->Heap->Nat),I s h /\
    ∀ s h,I s h->B (zY (λs' h'=>I s' h'/\μ s' h'<μ s h) Q) s h
structure DrawVC (P:Program) (id:Nat) (ops:Array Oper) (s:aVs) (h:Heap) (Q:QQ):Prop where
  wp:∀(w0 w:World) (ds:List Deferred),w.heap=h->Same w0 w->(Code.region id ops true).wp P (lift w0 ds Q) (act s ds) w
def kn:IntKind->Nat
  | .i8=>0|.i16=>1|.i32=>2|.i64=>3|.u8=>4|.u16=>5|.u32=>6|.u64=>7
theorem kn_inj {a b:IntKind}(h:Nat.beq (kn a) (kn b)=true):a=b:=by
  revert h;cases a<;>cases b<;>decide
def mem:List Nat->Nat->Bool
  | [],_=>false
  | x::l,n=>bif Nat.beq x n then true else mem l n
def lit (D:List Nat):Operand->Bool
  | .tmp t=>mem D t
  | .const (.bool _)=>true
  | _=>false
def vbin (op:BinOp)(x y:Value)(K:Value->Prop)(F:Prop):Prop :=
  match x,y with
  | .int k a,.int k' b =>
    bif Nat.beq (kn k) (kn k') then
      match op with
      | .add=>Ar k (a+b) K
      | .sub=>Ar k (a - b) K
      | .mul=>Ar k (a*b) K
      | .eql=>K (.bool (decide (a=b)))
      | .neq=>K (.bool (!decide (a=b)))
      | .lss=>K (.bool (decide (a<b)))
      | .leq=>K (.bool (decide (a<=b)))
      | .gtr=>K (.bool (decide (b<a)))
      | .geq=>K (.bool (decide (b<=a)))
      | _=>F
    else F
  | .string ⟨⟨a⟩⟩,.string ⟨⟨b⟩⟩ =>
    match op with
    | .eql=>K (.bool (decide (a=b)))
    | .neq=>K (.bool (!decide (a=b)))
    | _=>F
  | _,_=>F
def vopF (F:Prop)(C:FuncId->aVs->Prop)(op:Op)(D:List Nat)(s:aVs)(h:Heap)(K:KK):Prop :=
  match op with
  | .move x=>evK s x λv=>K v (lit D x) h
  | .assign x=>evK s x λv=>K v (lit D x) h
  | .pick c a b =>
    match lit D c with
    | true=>(match ev s c with
      | .bool true=>evK s a λv=>K v (lit D a) h
      | .bool false=>evK s b λv=>K v (lit D b) h
      | _=>False)
    | false=>(match ev s c with
      | .bool t=>Br t (evK s a λv=>K v (lit D a) h) (evK s b λv=>K v (lit D b) h)
      | _=>False)
  | .binOp bop _ x y _=>vbin bop (ev s x) (ev s y) (λv=>K v false h) F
  | .unOp .not _ x =>
    match ev s x with
    | .bool b=>K (.bool (!b)) (lit D x) h
    | _=>F
  | .unOp .neg _ x =>
    match ev s x with
    | .int k n=>Ar k (0 - n) λv=>K v false h
    | _=>F
  | .extract t i =>
    match ev s t with
    | .tuple ⟨vs⟩=>(match vs[i]? with
      | some v=>K v false h
      | none=>False)
    | _=>False
  | .call ⟨.value f,⟨args⟩,_⟩ =>
    match ev s f with
    | .func (.func g) ⟨first⟩ ⟨cap⟩=>zT s args λvs=>C g (first++(vs++cap))
    | _=>F
  | _=>F
def vop (P:Program)(op:Op)(ty:TypeId)(D:List Nat)(s:aVs)(h:Heap)(K:KK)(Q:QQ):Prop :=
  vopF (RunVC P op ty s h K Q) (λg args=>CallVC P g args s h K Q) op D s h K
def vopS (pr:Bool)(P:Program)(op:Op)(ty:TypeId)(D:List Nat)(s:aVs)(h:Heap)(K:KK):Prop :=
  vopF (StillVC pr P op ty s h K) (λ_ _=>False) op D s h K
theorem eU (ρ:Operand->Value)(dst:Option Tmp)(op:Op)(ty:TypeId)(pos:String)(after:Array Edge)(guard:Option (Nat×Bool)) :
    execOp ρ ⟨dst,op,ty,pos,after,guard⟩=execOp ρ ⟨none,op,ty, "",#[],none⟩:=by
  cases op<;>rfl
theorem RunVC.of {P:Program}{op:Op}{ty:TypeId}{s:aVs}{h:Heap}{K:KK}{Q:QQ}
    (hr:∀ w:World,w.heap=h->∃ v l w',(execOp (ev s) ⟨none,op,ty, "",#[],none⟩).run P w=.ok (.value v) w'/\Same w w'/\K v l w'.heap):RunVC P op ty s h K Q where
  run w hw ds dst pos after guard next Q' hn _:=by
    obtain⟨v,l,w',hrun,hs,hk⟩:=hr w hw
    simp only[Oper.wp,fV,eU,hrun,Oper.upon]
    exact hn v l w' hs hk
theorem RunVC.of_skip {P:Program}{op:Op}{ty:TypeId}{s:aVs}{h:Heap}{K:KK}{Q:QQ}
    (hr:∀ w:World,w.heap=h->∃ w',(execOp (ev s) ⟨none,op,ty, "",#[],none⟩).run P w=.ok .skip w'/\Same w w'/\K undef false w'.heap):RunVC P op ty s h K Q where
  run w hw ds dst pos after guard next Q' hn _:=by
    obtain⟨w',hrun,hs,hk⟩:=hr w hw
    simp only[Oper.wp,fV,eU,hrun,Oper.upon]
    exact hn undef false w' hs hk
theorem RunVC.panics {P:Program}{op:Op}{ty:TypeId}{s:aVs}{h:Heap}{K:KK}{Q:QQ}
    (hr:∀ w:World,w.heap=h->∃ v w',(execOp (ev s) ⟨none,op,ty, "",#[],none⟩).run P w=.halt (.panic v) w'/\Same w w'/\Q (.panic [{ v,recovered:=false }]) s w'.heap):RunVC P op ty s h K Q where
  run w hw ds dst pos after guard next Q' _ hp:=by
    obtain⟨v,w',hrun,hs,hk⟩:=hr w hw
    simp only[Oper.wp,fV,eU,hrun,Oper.upon]
    exact hp _ w' hs hk
theorem StillVC.run {P:Program}{op:Op}{ty:TypeId}{s:aVs}{h:Heap}{K:KK}{Q:QQ}(r:StillVC false P op ty s h K):RunVC P op ty s h K Q:=by
  obtain⟨v,l,reads,_,hr,hw,hk⟩:=r.ex
  exact .of λw e=>⟨v,l,w,hw w (λx hm=>by subst e;exact hr x hm),.refl w,e▸hk⟩
theorem StillVC.rR {P : Program} {op : Op} {ty : TypeId} {s : List Value} {h : Heap} {K : KK} {Q : QQ} (r : StillVC false P op ty s h K) : RunVC P op ty s h K Q := r.run
theorem StillVC.pure' {pr:Bool}{P:Program}{op:Op}{ty:TypeId}{s:aVs}{h:Heap}{K:KK}(v:Value)(l:Bool)
    (hr:∀ w:World,(execOp (ev s) ⟨none,op,ty, "",#[],none⟩).run P w=.ok (.value v) w) (hk:K v l h):StillVC pr P op ty s h K :=
  ⟨v,l,[],λ_=>rfl,by simp,λw _=>hr w,hk⟩
theorem RunVC.pure' {P:Program}{op:Op}{ty:TypeId}{s:aVs}{h:Heap}{K:KK}{Q:QQ}(v:Value)(l:Bool)
    (hr:∀ w:World,(execOp (ev s) ⟨none,op,ty, "",#[],none⟩).run P w=.ok (.value v) w) (hk:K v l h):RunVC P op ty s h K Q :=
  .of λw hw=>⟨v,l,w,hr w,.refl w,hw▸hk⟩
theorem wI {α:Type} [BEq α] [LawfulBEq α] [DecidableEq α] (a b:α):(a == b)=decide (a=b):=by
  rw[aEe];simp
theorem aBP (a:aBs):(⟨⟨a⟩⟩:ByteArray).toList=a:=by rw[ByteArray.toList_eq]
theorem vbin_sound {pr:Bool}{P:Program}{bop:BinOp}{t ty t':TypeId}{x y:Operand}{s:aVs}{h:Heap}{K:KK}{F:Prop}
    (hv:vbin bop (ev s x) (ev s y) (λv=>K v false h) F):F∨StillVC pr P (.binOp bop t x y t') ty s h K:=by
  unfold vbin at hv;split at hv
  · rename_i k a k' b hx hy
    cases hk:Nat.beq (kn k) (kn k') with
    | false=>rw[hk]at hv;exact .inl hv
    | true =>
      rw[hk]at hv
      have:=kn_inj hk;subst this
      simp only[cond_true]at hv
      cases bop<;>simp only at hv<;>first
        | exact .inl hv
        | exact .inr (.pure' (.int k (k.wrap (a+b))) false (λw=>by simp[execOp,hx,hy,eqGuard_add,binOp_add,Op.intArith]) hv.h)
        | exact .inr (.pure' (.int k (k.wrap (a - b))) false (λw=>by simp[execOp,hx,hy,eqGuard_sub,binOp_sub,Op.intArith]) hv.h)
        | exact .inr (.pure' (.int k (k.wrap (a*b))) false (λw=>by simp[execOp,hx,hy,eqGuard_mul,binOp_mul,Op.intArith]) hv.h)
        | exact .inr (.pure' _ false (λw=>by simp[execOp,hx,hy,eqGuard_at_int,binOp_eql,binOp_neq,binOp_lss,binOp_leq,binOp_gtr,binOp_geq,wI,bne]) hv)
  · rename_i a b hx hy
    cases bop<;>simp only at hv<;>first
      | exact .inl hv
      | exact .inr (.pure' _ false (λw=>by simp[execOp,hx,hy,eqGuard_at_string,binOp,Op.stringOp,wI]) hv)
  · exact .inl hv
theorem uN {pr:Bool}{P:Program}{op:Op}{ty:TypeId}{D:List Nat}{s:aVs}{h:Heap}{K:KK}{F:Prop}{C:FuncId->aVs->Prop}
    (hv:vopF F C op D s h K):F∨StillVC pr P op ty s h K ∨
      ∃ f args tys g first cap,op=.call ⟨.value f,⟨args⟩,tys⟩/\ev s f=.func (.func g) ⟨first⟩ ⟨cap⟩/\C g (first++(args.map (ev s)++cap)):=by
  unfold vopF at hv
  simp only[oY,pP]at hv
  split at hv
  · exact .inr (.inl (.pure' _ _ (λw=>by simp[execOp]) hv))
  · exact .inr (.inl (.pure' _ _ (λw=>by simp[execOp]) hv))
  · rename_i c a b
    cases hl:lit D c with
    | true =>
      rw[hl]at hv;simp only at hv
      split at hv
      · rename_i hc;exact .inr (.inl (.pure' _ _ (λw=>by simp[execOp,hc,asBool]) hv))
      · rename_i hc;exact .inr (.inl (.pure' _ _ (λw=>by simp[execOp,hc,asBool]) hv))
      · exact hv.elim
    | false =>
      rw[hl]at hv;simp only at hv
      split at hv
      · rename_i t hc
        cases t with
        | true=>exact .inr (.inl (.pure' _ _ (λw=>by simp[execOp,hc,asBool]) (hv.y rfl)))
        | false=>exact .inr (.inl (.pure' _ _ (λw=>by simp[execOp,hc,asBool]) (hv.n rfl)))
      · exact hv.elim
  · rcases vbin_sound (pr:=pr) (P:=P) hv with h|h
    · exact .inl h
    · exact .inr (.inl h)
  · split at hv
    · rename_i b hx;exact .inr (.inl (.pure' _ _ (λw=>by simp[execOp,hx,Op.unary]) hv))
    · exact .inl hv
  · split at hv
    · rename_i k n hx;exact .inr (.inl (.pure' (.int k (k.wrap (0 - n))) false (λw=>by simp[execOp,hx,Op.unary,Op.intArith]) hv.h))
    · exact .inl hv
  · split at hv
    · rename_i vs hx
      split at hv
      · rename_i v hi;exact .inr (.inl (.pure' _ _ (λw=>by simp[execOp,hx,Instr.extract,hi]) hv))
      · exact hv.elim
    · exact hv.elim
  · rename_i f args tys
    split at hv
    · rename_i g first cap hf
      exact .inr (.inr ⟨f,args,tys,g,first,cap,rfl,hf,hv⟩)
    · exact .inl hv
  · exact .inl hv
theorem oM {pr:Bool}{P:Program}{op:Op}{ty:TypeId}{D:List Nat}{s:aVs}{h:Heap}{K:KK}(hv:vopS pr P op ty D s h K):StillVC pr P op ty s h K:=by
  rcases uN (pr:=pr) (P:=P) (ty:=ty) hv with h|h|⟨_,_,_,_,_,_,_,_,h⟩
  · exact h
  · exact h
  · exact h.elim
theorem nZ {P:Program}{op:Op}{ty:TypeId}{D:List Nat}{s:aVs}{h:Heap}{K:KK}{Q:QQ}
    (hv:vop P op ty D s h K Q):RunVC P op ty s h K Q:=by
  rcases uN (pr:=false) (P:=P) (ty:=ty) hv with h|h|⟨f,args,tys,g,first,cap,rfl,hf,hv⟩
  · exact h
  · exact h.run
  · obtain⟨R,hC,hr,hp,ho⟩:=hv.spec
    refine⟨λw hw ds dst pos after guard next Q' hn hq=>?_⟩
    rcases hC with ⟨⟨fn,hfn,hbody,hname⟩,hspec⟩|hX
    case inr =>
      obtain⟨v,w',hrun,hs,hR⟩:=hX w hw
      have hrun':(execOp (ev s) ⟨none,.call ⟨.value f,⟨args⟩,tys⟩,ty, "",#[],none⟩).run P w=.ok (.value v) w':=by
        simpa[execOp,resolve,hf,Deferred.ofValue,invoke] using hrun
      simp only[Oper.wp,fV,eU,hrun',Oper.upon]
      exact hn v false w' hs (hr v _ hR)
    have hrun:(execOp (ev s) ⟨none,.call ⟨.value f,⟨args⟩,tys⟩,ty, "",#[],none⟩).run P w=.ok (.enter g (first++(args.map (ev s)++cap)).toArray) w:=by
      have h1:¬ fn.name = "runtime.NumGoroutine":=by simpa using hname
      have h2:¬ fn.body=none:=by intro e;simp[e]at hbody
      simp[execOp,resolve,hf,Deferred.ofValue,invoke,callFunc,hfn,h1,h2]
    simp only[Oper.wp,fV,eU,hrun,Oper.upon]
    refine(hspec w hw).mono λe w' ⟨hs,hR⟩=>?_
    cases e with
    | returned v=>exact hn v false w' hs (hr v _ hR)
    | panicked c=>exact hq c w' hs (hp c _ hR)
    | outgrown=>exact(ho _ hR).elim
def nG:List Oper->Nat->Option Tmp
  | [],_=>none
  | o::_,0=>o.dst
  | _::l,n+1=>nG l n
theorem dstOf_eq (l:List Oper)(j:Nat):(l[j]?).bind (·.dst)=nG l j:=by
  induction l generalizing j with
  | nil=>simp[nG]
  | cons o l ih=>cases j with
    | zero=>simp[nG]
    | succ j=>simpa[nG] using ih j
def eI (s:aVs)(d:Option Tmp)(v:Value)(k:aVs->Prop):Prop :=
  match d with
  | none=>k s
  | some d=>oP s d v k
def sput (s:aVs)(d:Option Tmp)(v:Value):aVs :=
  match d with
  | none=>s
  | some d=>s.set d v
theorem gQ (s:aVs)(d:Option Tmp)(v:Value)(k:aVs->Prop):eI s d v k=k (sput s d v):=by
  cases d with
  | none=>rfl
  | some d=>exact gA _ _ _ _
theorem iD (s:aVs)(ds:List Deferred)(d:Option Tmp)(v:Value):(act s ds).put d v=act (sput s d v) ds:=by
  cases d with
  | none=>rfl
  | some d=>exact wL _ _ _ _
def del:List Nat->Nat->List Nat
  | [],_=>[]
  | x::l,n=>bif Nat.beq x n then del l n else x::del l n
def gU (D:List Nat)(d:Option Tmp)(l:Bool):List Nat :=
  match d with
  | none=>D
  | some d=>bif l then d::D else del D d
def vstep (P:Program)(L:List Oper)(o:Oper)(ih:List Nat->aVs->Heap->QQ->Prop)(D:List Nat)(s:aVs)(h:Heap)(Q:QQ):Prop :=
  match o with
  | ⟨dst,op,ty,_,_,none⟩ =>
    vop P op ty D s h (λv l h'=>eI s dst v λs'=>ih (gU D dst l) s' h' Q) Q
  | ⟨dst,op,ty,_,_,some (j,want)⟩ =>
    match nG L j with
    | none=>False
    | some g =>
      match mem D g with
      | true =>
        (match sget s g with
        | .bool true =>
          (match want with
          | true=>vop P op ty D s h (λv l h'=>eI s dst v λs'=>ih (gU D dst l) s' h' Q) Q
          | false=>eI s dst undef λs'=>ih (gU D dst false) s' h Q)
        | .bool false =>
          (match want with
          | true=>eI s dst undef λs'=>ih (gU D dst false) s' h Q
          | false=>vop P op ty D s h (λv l h'=>eI s dst v λs'=>ih (gU D dst l) s' h' Q) Q)
        | _=>eI s dst undef λs'=>ih (gU D dst false) s' h Q)
      | false =>
        (match sget s g with
        | .bool t =>
          Br t
            (oP s g (.bool true) λs =>
              match want with
              | true=>vop P op ty (g::D) s h (λv l h'=>eI s dst v λs'=>ih (gU (g::D) dst l) s' h' Q) Q
              | false=>eI s dst undef λs'=>ih (gU (g::D) dst false) s' h Q)
            (oP s g (.bool false) λs =>
              match want with
              | true=>eI s dst undef λs'=>ih (gU (g::D) dst false) s' h Q
              | false=>vop P op ty (g::D) s h (λv l h'=>eI s dst v λs'=>ih (gU (g::D) dst l) s' h' Q) Q)
        | _=>eI s dst undef λs'=>ih (gU D dst false) s' h Q)
def vreg (P:Program)(L:List Oper)(l:List Oper):List Nat->aVs->Heap->QQ->Prop :=
  List.rec (motive:=λ_=>List Nat->aVs->Heap->QQ->Prop) (λ_ s h Q=>Q .normal s h) (λo _ ih=>vstep P L o ih) l
theorem tU (P:Program)(L:List Oper)(o:Oper)(rest:List Oper)(D:List Nat)(s:aVs)(h:Heap)(Q:QQ):vreg P L (o::rest) D s h Q=vstep P L o (vreg P L rest) D s h Q:=rfl
theorem hG (s:aVs)(g:Nat)(v:Value)(h:sget s g=v):s.set g v=s:=by
  induction s generalizing g with
  | nil=>rfl
  | cons x s ih=>cases g with
    | zero=>simp only[sget]at h;subst h;rfl
    | succ g=>simp only[sget]at h;simp[ih g h]
theorem sget_some {s:aVs}{g:Nat}{t:Bool}(h:sget s g=.bool t):s[g]?=some (.bool t):=by
  induction s generalizing g with
  | nil=>simp[sget,undef]at h
  | cons x s ih=>cases g with
    | zero=>simp only[sget]at h;simp[h]
    | succ g=>simp only[sget]at h;simpa using ih h
theorem dZ {ops:Array Oper}{s:aVs}{ds:List Deferred}{j g:Nat}{t:Bool}(hd:nG ops.toList j=some g)(hs:sget s g=.bool t) :
    yielded ops (act s ds).tmps j=some t:=by
  have h1:(ops[j]?).bind (·.dst)=some g:=by rw[← hd,← dstOf_eq];simp
  simp[yielded,h1,act,sget_some hs]
theorem eY {ops:Array Oper}{s:aVs}{ds:List Deferred}{j g:Nat}(hd:nG ops.toList j=some g)(hs:∀ t,sget s g=.bool t->False) :
    yielded ops (act s ds).tmps j=none:=by
  have h1:(ops[j]?).bind (·.dst)=some g:=by rw[← hd,← dstOf_eq];simp
  unfold yielded;split
  · rename_i b hb
    rw[h1]at hb
    simp only[Option.bind_some,act,aEl]at hb
    refine(hs b ?_).elim
    rw[← dS,aEi,hb]
    rfl
  · rfl
theorem rZ {P:Program}{ops:Array Oper}{Q:QQ}{rest:List Oper}{w0 w:World}{ds:List Deferred}{s:aVs}{D:List Nat}
    {dst:Option Tmp} {op:Op} {ty:TypeId} {pos:String} {after:Array Edge} {guard:Option (Nat×Bool)}
    (ih:∀ D s w,Same w0 w->vreg P ops.toList rest D s w.heap Q->wpList P ops (lift w0 ds Q) rest (act s ds) w)
    (hs:Same w0 w) (D':List Nat->Bool->List Nat)
    (hv:vop P op ty D s w.heap (λv l h'=>eI s dst v λs'=>vreg P ops.toList rest (D' D l) s' h' Q) Q) :
    Oper.wp P ⟨dst,op,ty,pos,after,guard⟩ (act s ds) w (wpList P ops (lift w0 ds Q) rest) (lift w0 ds Q) :=
  (nZ hv).run w rfl ds dst pos after guard _ _
    (λv l w' hw' hk=>by rw[iD];rw[gQ]at hk;exact ih _ _ _ (hs.trans hw') hk)
    (λc w' hw' hq=>⟨s,rfl,hs.trans hw',hq⟩)
theorem kS {P:Program}{ops:Array Oper}{Q:QQ}{w0:World}{ds:List Deferred}:∀(l:List Oper)(D:List Nat)(s:aVs)(w:World),
    Same w0 w->vreg P ops.toList l D s w.heap Q->wpList P ops (lift w0 ds Q) l (act s ds) w
  | [],_,s,w,hs,hv=>⟨s,rfl,hs,hv⟩
  | ⟨dst,op,ty,pos,after,none⟩::rest,D,s,w,hs,hv=>by
    simp only[tU,vstep]at hv
    unfold wpList
    rw[if_pos (by simp[Region.wanted])]
    exact .inl (rZ (kS rest) hs (λD l=>gU D dst l) hv)
  | ⟨dst,op,ty,pos,after,some (j,want)⟩::rest,D,s,w,hs,hv=>by
    simp only[tU,vstep]at hv
    cases hd:nG ops.toList j with
    | none=>simp[hd]at hv
    | some g =>
      simp only[hd]at hv
      have skip:∀(s:aVs) (D:List Nat),(eI s dst undef λs'=>vreg P ops.toList rest D s' w.heap Q)->wpList P ops (lift w0 ds Q) rest ((act s ds).put dst undef) w:=λs D hk=>by
        rw[iD];rw[gQ]at hk;exact kS rest _ _ _ hs hk
      cases hm:mem D g with
      | true =>
        simp only[hm]at hv
        split at hv
        · rename_i hg
          have hy:=dZ (ds:=ds) hd hg;unfold wpList;cases want with
          | true =>
            rw[if_pos (by simp[Region.wanted,hy])]
            exact .inl (rZ (kS rest) hs (λD l=>gU D dst l) hv)
          | false =>
            rw[if_neg (by simp[Region.wanted,hy])]
            exact skip _ _ hv
        · rename_i hg
          have hy:=dZ (ds:=ds) hd hg;unfold wpList;cases want with
          | false =>
            rw[if_pos (by simp[Region.wanted,hy])]
            exact .inl (rZ (kS rest) hs (λD l=>gU D dst l) hv)
          | true =>
            rw[if_neg (by simp[Region.wanted,hy])]
            exact skip _ _ hv
        · rename_i h1 h2
          have hy:=eY (ds:=ds) (s:=s) hd (λt e=>match t,e with|true,e=>h1 e|false,e=>h2 e);unfold wpList
          rw[if_neg (by simp[Region.wanted,hy])]
          exact skip _ _ hv
      | false =>
        simp only[hm]at hv
        split at hv
        · rename_i t hg
          have hy:=dZ (ds:=ds) hd hg;unfold wpList;cases t with
          | true =>
            have hv:=hv.y rfl
            rw[gA,hG s g _ hg]at hv
            cases want with
            | true =>
              rw[if_pos (by simp[Region.wanted,hy])]
              exact .inl (rZ (kS rest) hs (λD l=>gU D dst l) hv)
            | false =>
              rw[if_neg (by simp[Region.wanted,hy])]
              exact skip _ _ hv
          | false =>
            have hv:=hv.n rfl
            rw[gA,hG s g _ hg]at hv
            cases want with
            | false =>
              rw[if_pos (by simp[Region.wanted,hy])]
              exact .inl (rZ (kS rest) hs (λD l=>gU D dst l) hv)
            | true =>
              rw[if_neg (by simp[Region.wanted,hy])]
              exact skip _ _ hv
        · rename_i h1
          have hy:=eY (ds:=ds) (s:=s) hd (λt e=>h1 t e);unfold wpList
          rw[if_neg (by simp[Region.wanted,hy])]
          exact skip _ _ hv
structure RegVC (P:Program) (id:Nat) (ops:Array Oper) (s:aVs) (h:Heap) (Q:QQ):Prop where
  wp:∀(w0 w:World) (ds:List Deferred),w.heap=h->Same w0 w->(Code.region id ops false).wp P (lift w0 ds Q) (act s ds) w
def vK:List Oper->Bool
  | []=>false
  | o::rest=>match o.op with
    | .call ⟨.value (.tmp _),_,_⟩=>true
    | _=>vK rest
def vregion (P:Program)(id:Nat)(ops:Array Oper)(draw:Bool)(Q:QQ)(s:aVs)(h:Heap):Prop :=
  match draw with
  | true=>DrawVC P id ops s h Q
  | false=>match vK ops.toList with
    | true=>RegVC P id ops s h Q
    | false=>vreg P ops.toList ops.toList [] s h Q
theorem StillVC.aDU {P:Program}{id:Nat}{ops:Array Oper}{s:aVs}{h:Heap}{Q:QQ}(hv:vreg P ops.toList ops.toList [] s h Q):RegVC P id ops s h Q where
  wp w0 w ds hw hs:=by subst hw;exact wp_region_list (kS _ _ _ _ hs hv)
def vcond (a b:Code)(c:Operand)(A B:QQ->aVs->Heap->Prop)(Q:QQ)(s:aVs)(h:Heap):Prop :=
  match ev s c with
  | .bool t=>Br t (A Q s h) (B Q s h) a b
  | _=>False
def outQ (id:Nat)(Q:QQ):QQ:=λe s h =>
  match e with
  | .exit id'=>(match Nat.beq id' id with|true=>Q .normal s h|false=>Q (.exit id') s h)
  | e=>Q e s h
def ngQ (Q:QQ):QQ:=λe s h =>
  match e with
  | .goto _=>False
  | e=>Q e s h
def vcode (P:Program)(c:Code):QQ->aVs->Heap->Prop :=
  Code.rec (motive:=λ_=>QQ->aVs->Heap->Prop)
    (λQ s h=>Q .normal s h)
    (λid ops draw=>vregion P id ops draw)
    (λ_ _ A B Q s h=>A (zY (λs h=>B Q s h) Q) s h)
    (λc a b A B=>vcond a b c A B)
    (λid _ B Q s h=>B (outQ id Q) s h)
    (λ_ B Q s h=>LoopVC B Q s h)
    (λ_ _ _ _ _ _ _ _ _=>False)
    (λid Q s h=>Q (.exit id) s h)
    (λ_ B Q s h=>B (ngQ Q) s h)
    (λ_ Q s h=>Q .normal s h)
    (λ_ _ _ _=>False)
    (λQ s h=>Q .ret s h)
    (λ_ _ _ _=>False) c
theorem aAi (P:Program)(c:Operand)(a b:Code)(Q:QQ)(s:aVs)(h:Heap):vcode P (.cond c a b) Q s h=vcond a b c (vcode P a) (vcode P b) Q s h:=rfl
theorem eH {P:Program}{w0:World}{ds:List Deferred}:∀(c:Code)(Q:QQ)(s:aVs)(w:World),Same w0 w->vcode P c Q s w.heap ->
    c.wp P (lift w0 ds Q) (act s ds) w:=by
  intro c
  induction c with
  | skip=>intro Q s w hs hv;exact wp_skip ⟨s,rfl,hs,hv⟩
  | region id ops draw =>
    intro Q s w hs hv;cases draw with
    | true=>exact hv.wp w0 w ds rfl hs
    | false =>
      cases hc:vK ops.toList with
      | true=>exact RegVC.wp (by simpa only[vcode,vregion,hc] using hv) w0 w ds rfl hs
      | false=>exact(StillVC.aDU (by simpa only[vcode,vregion,hc] using hv)).wp w0 w ds rfl hs
  | seq a b iha ihb =>
    intro Q s w hs hv;refine wp_seq (wp_mono (iha _ s w hs hv) ?_);rintro e a' w' ⟨s',rfl,hs',hq⟩;cases e with
    | normal=>exact ihb Q s' w' hs' hq
    | _=>exact⟨s',rfl,hs',hq⟩
  | cond c a b iha ihb =>
    intro Q s w hs hv
    simp only[aAi,vcond]at hv
    split at hv
    · rename_i t ht
      refine wp_cond_split (t:=t) (by rw[fV];exact ht) (λh=>iha Q s w hs (hv.y h)) (λh=>ihb Q s w hs (hv.n h))
    · exact hv.elim
  | block id b ih =>
    intro Q s w hs hv;refine wp_block (wp_mono (ih _ s w hs hv) ?_);rintro e a' w' ⟨s',rfl,hs',hq⟩;cases e with
    | exit id' =>
      simp only[Exit.inBlock]
      simp only[outQ]at hq
      cases hb:Nat.beq id' id with
      | true=>rw[hb]at hq;rw[if_pos (aEK hb)];exact⟨s',rfl,hs',hq⟩
      | false=>rw[hb]at hq;rw[if_neg (Nat.ne_of_beq_eq_false hb)];exact⟨s',rfl,hs',hq⟩
    | _=>exact⟨s',rfl,hs',hq⟩
  | loop b ih =>
    intro Q s w hs hv
    obtain⟨I,μ,h0,hr⟩:=hv.ex
    refine wp_loop (λa w'=>∃ s',a=act s' ds/\Same w0 w'/\I s' w'.heap) (λa w'=>μ a.tmps.toList w'.heap) ⟨s,rfl,hs,h0⟩ ?_;rintro _ w1 ⟨s1,rfl,hs1,hI⟩;refine wp_mono (ih _ s1 w1 hs1 (hr s1 _ hI)) ?_;rintro e a' w' ⟨s',rfl,hs',hq⟩;cases e with
    | normal=>exact⟨⟨s',rfl,hs',hq.1⟩,by simpa[act] using hq.2⟩
    | _=>exact⟨s',rfl,hs',hq⟩
  | exit id=>intro Q s w hs hv;exact wp_exit ⟨s,rfl,hs,hv⟩
  | scope b ih =>
    intro Q s w hs hv;refine wp_scope_straight (wp_mono (ih _ s w hs hv) ?_);rintro e a' w' ⟨s',rfl,hs',hq⟩;cases e with
    | goto l=>exact hq.elim
    | _=>exact⟨s',rfl,hs',hq⟩
  | label l=>intro Q s w hs hv;exact wp_label ⟨s,rfl,hs,hv⟩
  | ret=>intro Q s w hs hv;exact wp_ret ⟨s,rfl,hs,hv⟩
  | _=>intro Q s w hs hv;exact hv.elim
structure RetVC (P:Program) (fn:Func) (s:aVs) (h:Heap) (R:Value->Heap->Prop):Prop where
  ex:∃ v,(∀ w:World,w.heap=h->(results fn s.toArray).run P w=.ok v w)/\R v h
def zV (P:Program)(fn:Func)(R:Ending->Heap->Prop):QQ:=λe s h =>
  match e with
  | .normal=>RetVC P fn s h λv h=>R (.returned v) h
  | .ret=>RetVC P fn s h λv h=>R (.returned v) h
  | .panic c=>R (.panicked c) h
  | _=>False
def padK:Nat->(aVs->Prop)->Prop
  | 0,k=>k []
  | n+1,k=>padK n λl=>k (undef::l)
theorem padK_eq (n:Nat)(k:aVs->Prop):padK n k=k (List.replicate n undef):=by
  induction n generalizing k with
  | zero=>rfl
  | succ n ih=>simp[padK,ih,List.replicate_succ]
def nL (args:aVs)(n:Nat)(k:aVs->Prop):Prop :=
  match args,n with
  | [],n=>padK n k
  | a::l,n+1=>nL l n λl'=>k (a::l')
  | a::l,0=>nL l 0 λl'=>k (a::l')
theorem oJ (args:aVs)(n:Nat)(k:aVs->Prop):nL args n k=k (args++List.replicate (n - args.length) undef):=by
  induction args generalizing n k with
  | nil=>simp[nL,padK_eq]
  | cons a l ih=>cases n with
    | zero=>simp[nL,ih]
    | succ n=>simp[nL,ih,Nat.add_sub_add_right]
theorem StillVC.aDP {P:Program}{f:FuncId}{fn:Func}{c:Code}{n:Nat}{args:aVs}{h:Heap}{R:Ending->Heap->Prop}
    (hf:P.funcs[f]?=some fn) (hb:fn.body=some c) (hn:fn.ntmps=n) (hname:(fn.name == "runtime.NumGoroutine")=false)
    (hv:nL args n λs=>vcode P c (zV P fn R) s h):Spec P f args h R:=by
  refine⟨⟨fn,hf,by simp[hb],hname⟩,λw hw=>?_⟩
  subst hw
  rw[oJ]at hv
  have hwp:=eH (w0:=w) (ds:=[]) c _ _ w (.refl w) hv;have he:act (args++List.replicate (n - args.length) undef) []={ tmps:=args.toArray++Array.replicate (fn.ntmps - args.toArray.size) undef,defers:=[] }:=by
    simp[act,hn]
  rw[he]at hwp
  refine calls_of_wp hf hb (wp_mono hwp ?_);rintro e a w' ⟨s',rfl,hs',hq⟩;cases e with
  | normal=>obtain⟨v,hr,hR⟩:=hq.ex;exact⟨rfl,v,hr w' rfl,hs',hR⟩
  | ret=>obtain⟨v,hr,hR⟩:=hq.ex;exact⟨rfl,v,hr w' rfl,hs',hR⟩
  | panic c=>exact⟨rfl,hs',hq⟩
  | _=>exact hq.elim
theorem StillVC.aDK {A B:Prop}{a b:Code}(h:A):Br true A B a b:=⟨λ_=>h,λe=>by cases e⟩
theorem StillVC.aDL {A B:Prop}{a b:Code}(h:B):Br false A B a b:=⟨λe=>(by cases e),λ_=>h⟩
theorem StillVC.aDJ {p:Prop} [Decidable p] {A B:Prop}{a b:Code}(y:p->A)(n:¬ p->B):Br (decide p) A B a b :=
 ⟨λe=>y (of_decide_eq_true e),λe=>n (of_decide_eq_false e)⟩
theorem Br.ndec {p:Prop} [Decidable p] {A B:Prop}{a b:Code}(n:¬ p->A)(y:p->B):Br (!decide p) A B a b :=
 ⟨λe=>n (by simpa using e),λe=>y (by simpa using e)⟩
theorem Ar.fit {k:IntKind}{n:Int}{K:Value->Prop}(lo:k.min<=n)(hi:n<=k.max)(h:K (.int k n)):Ar k n K:=by
 refine⟨?_⟩
 have:k.wrap n=n:=by
  revert lo hi
  cases k<;>simp only[IntKind.min,IntKind.max,IntKind.wrap,IntKind.bits,IntKind.signed]<;>intro lo hi<;>simp at*<;> omega
 rw[this];exact h
theorem StillVC.aDQ {n:Int}{K:Value->Prop}(lo:-9223372036854775808<=n)(hi:n<=9223372036854775807)(h:K (.int .i64 n)):Ar .i64 n K :=
 Ar.fit lo hi h
theorem Ar.u64 {n:Int}{K:Value->Prop}(lo:0<=n)(hi:n<=18446744073709551615)(h:K (.int .u64 n)):Ar .u64 n K :=
 Ar.fit lo hi h
theorem Ar.u64w {n:Int}{K:Value->Prop}(h:K (.int .u64 (n % 18446744073709551616))):Ar .u64 n K:=⟨h⟩
theorem Ar.i64n {n m:Int}{K:Value->Prop}(lo:-9223372036854775808<=m)(hi:m<=9223372036854775807)(e:(n - m) % 18446744073709551616=0)(h:K (.int .i64 m)):Ar .i64 n K:=by
 refine⟨?_⟩
 have:IntKind.i64.wrap n=m:=by
  simp only[IntKind.wrap,IntKind.bits,IntKind.signed]
  simp
  split<;>omega
 rw[this];exact h
def mask (asg:List Nat):Nat->aVs->aVs
 | _,[]=>[]
 | k,v::l=>(bif mem asg k then undef else v)::mask asg (k+1) l
def yU:List Nat->aVs->Nat->Option Value
 | n::ns,v::vs,k=>bif Nat.beq n k then some v else yU ns vs k
 | _,_,_=>none
def mN (asg lv:List Nat)(vs:aVs)(junk:Nat->Value):Nat->aVs->(aVs->Prop)->Prop
 | _,[],c=>c []
 | k,v::l,c=>mN asg lv vs junk (k+1) l λl' =>
   match yU lv vs k with
   | some u=>c (u::l')
   | none=>bif mem asg k then c (junk k::l') else c (v::l')
def havoc (asg lv:List Nat)(vs:aVs)(junk:Nat->Value):Nat->aVs->aVs
 | _,[]=>[]
 | k,v::l =>
   (match yU lv vs k with
   | some u=>u
   | none=>bif mem asg k then junk k else v)::havoc asg lv vs junk (k+1) l
theorem oG (asg lv:List Nat)(vs:aVs)(junk:Nat->Value)(k:Nat)(l:aVs)(c:aVs->Prop) :
  mN asg lv vs junk k l c=c (havoc asg lv vs junk k l):=by
 induction l generalizing k c with
 | nil=>rfl
 | cons v l ih =>
  simp only[mN,havoc,ih]
  cases yU lv vs k with
  | some u=>rfl
  | none=>cases mem asg k<;>rfl
theorem live1_map (lv:List Nat)(f:Nat->Value)(k:Nat)(u:Value)(h:yU lv (lv.map f) k=some u):u=f k:=by
 induction lv with
 | nil=>simp[yU]at h
 | cons n ns ih =>
  simp only[aEx,yU]at h
  cases hb:Nat.beq n k with
  | true=>rw[hb]at h;have:=aEK hb;subst this;simpa using h.symm
  | false=>rw[hb]at h;exact ih h
theorem kY (asg lv:List Nat)(s1:aVs):∀(l l1:aVs)(k:Nat),(∀ i,l1[i]?=s1[k+i]?)->mask asg k l1=mask asg k l ->
  havoc asg lv (lv.map (sget s1)) (sget s1) k l=l1
 | [],[],_,_,_=>rfl
 | [],_::_,_,_,hm=>by simp[mask]at hm
 | _::_,[],_,_,hm=>by simp[mask]at hm
 | v::l,v1::l1,k,hk,hm=>by
  simp only[mask,List.cons.injEq]at hm
  have h0:sget s1 k=v1:=by
   have:=hk 0
   simp only[lgZ,Nat.add_zero]at this
   rw[← dS];simp[← this]
  have ht:=kY asg lv s1 l l1 (k+1) (λi=>by have:=hk (i+1);simpa[Nat.add_assoc,Nat.add_comm 1 i] using this) hm.2
  simp only[havoc,ht,List.cons.injEq,and_true]
  cases hl:yU lv (lv.map (sget s1)) k with
  | some u=>simp only;rw[live1_map lv _ k u hl,h0]
  | none =>
   simp only
   cases ha:mem asg k with
   | true=>simp only[cond_true,h0]
   | false=>have:=hm.1;simp only[ha,cond_false]at this;simp only[cond_false,this]
theorem StillVC.aDT {B:QQ->aVs->Heap->Prop}{Q:QQ}{s:aVs}{h:Heap}(asg lv:List Nat)
  (I:aVs->Heap->Prop) (μ:aVs->Heap->Nat) (h0:oS s lv λvs=>I vs h)
  (hr:∀(vs:aVs) (junk:Nat->Value) (h':Heap),I vs h' ->
   mN asg lv vs junk 0 s λs1=>B (zY (λs' h''=>mask asg 0 s'=mask asg 0 s/\oS s' lv λvs'=>I vs' h''/\μ vs' h''<μ vs h') Q) s1 h'):LoopVC B Q s h where
 ex:=by
  simp only[tV]at h0 hr
  refine⟨λs1 h1=>mask asg 0 s1=mask asg 0 s/\I (lv.map (sget s1)) h1,λs1 h1=>μ (lv.map (sget s1)) h1,⟨rfl,h0⟩,?_⟩
  rintro s1 h1 ⟨hm,hI⟩
  have:=hr (lv.map (sget s1)) (sget s1) h1 hI
  rw[oG,kY asg lv s1 s s1 0 zS hm]at this
  simpa only[and_assoc] using this
theorem RunVC.mono {P:Program}{op:Op}{ty:TypeId}{s:aVs}{h:Heap}{K K':KK}{Q Q':QQ}(r:RunVC P op ty s h K Q)
  (hk:∀ v l h,K v l h->K' v l h) (hq:∀ e s h,Q e s h->Q' e s h):RunVC P op ty s h K' Q' where
 run w hw ds dst pos after guard next Q'' hn hp :=
  r.run w hw ds dst pos after guard next Q'' (λv l w' hs hv=>hn v l w' hs (hk _ _ _ hv)) (λc w' hs hv=>hp c w' hs (hq _ _ _ hv))
theorem Br.imp {t:Bool}{A B A' B':Prop}{c d c' d':Code}(b:Br t A B c d)(ha:A->A')(hb:B->B'):Br t A' B' c' d':=⟨λe=>ha (b.y e),λe=>hb (b.n e)⟩
theorem vbin_mono {op:BinOp}{x y:Value}{K K':Value->Prop}{F F':Prop}(hk:∀ v,K v->K' v)(hf:F->F')(h:vbin op x y K F):vbin op x y K' F':=by
 unfold vbin at *;split at h
 ·rename_i k a k' b
  cases hb:Nat.beq (kn k) (kn k') with
  | false=>rw[hb]at h;exact hf h
  | true =>
   rw[hb]at h
   cases op<;>first
    | exact hf h
    | exact hk _ h
    | exact⟨hk _ h.h⟩
 ·cases op<;>first
   | exact hf h
   | exact hk _ h
 ·exact hf h
theorem vopF_mono {op:Op}{D:List Nat}{s:aVs}{h:Heap}{K K':KK}{F F':Prop}{C C':FuncId->aVs->Prop}
  (hk:∀ v l h,K v l h->K' v l h) (hf:F->F') (hc:∀ g a,C g a->C' g a) (hv:vopF F C op D s h K):vopF F' C' op D s h K':=by
 unfold vopF at *
 simp only[oY,pP]at *
 split at hv
 ·exact hk _ _ _ hv
 ·exact hk _ _ _ hv
 ·rename_i c a b
  cases hl:lit D c with
  | true =>
   rw[hl]at hv;simp only at hv ⊢
   split at hv
   ·exact hk _ _ _ hv
   ·exact hk _ _ _ hv
   ·exact hv.elim
  | false =>
   rw[hl]at hv;simp only at hv ⊢
   split at hv
   ·exact hv.imp (hk _ _ _) (hk _ _ _)
   ·exact hv.elim
 ·exact vbin_mono (λv=>hk v _ _) hf hv
 ·split at hv
  ·exact hk _ _ _ hv
  ·exact hf hv
 ·split at hv
  ·exact⟨hk _ _ _ hv.h⟩
  ·exact hf hv
 ·split at hv
  ·split at hv
   ·exact hk _ _ _ hv
   ·exact hv.elim
  ·exact hv.elim
 ·split at hv
  ·exact hc _ _ hv
  ·exact hf hv
 ·exact hf hv
theorem CallVC.mono {P:Program}{g:FuncId}{args s:aVs}{h:Heap}{K K':KK}{Q Q':QQ}(r:CallVC P g args s h K Q)
  (hk:∀ v l h,K v l h->K' v l h) (hq:∀ e s h,Q e s h->Q' e s h):CallVC P g args s h K' Q':=by
 obtain⟨R,h1,h2,h3,h4⟩:=r.spec
 exact⟨R,h1,λv h' r=>hk _ _ _ (h2 v h' r),λc h' r=>hq _ _ _ (h3 c h' r),h4⟩
theorem vop_mono {P:Program}{op:Op}{ty:TypeId}{D:List Nat}{s:aVs}{h:Heap}{K K':KK}{Q Q':QQ}
  (hk:∀ v l h,K v l h->K' v l h) (hq:∀ e s h,Q e s h->Q' e s h) (hv:vop P op ty D s h K Q):vop P op ty D s h K' Q' :=
 vopF_mono hk (λr=>r.mono hk hq) (λ_ _ r=>r.mono hk hq) hv
theorem tT {P:Program}{L:List Oper}{Q Q':QQ}(hq:∀ e s h,Q e s h->Q' e s h):∀(l:List Oper)(D:List Nat)(s:aVs)(h:Heap),vreg P L l D s h Q->vreg P L l D s h Q'
 | [],_,_,_,hv=>hq _ _ _ hv
 | ⟨dst,op,ty,pos,after,none⟩::rest,D,s,h,hv=>by
  simp only[tU,vstep,gQ]at hv ⊢
  exact vop_mono (λ_ _ _ hk=>tT hq rest _ _ _ hk) hq hv
 | ⟨dst,op,ty,pos,after,some (j,want)⟩::rest,D,s,h,hv=>by
  have run:∀ D s,vop P op ty D s h (λv l h'=>vreg P L rest (gU D dst l) (sput s dst v) h' Q) Q->vop P op ty D s h (λv l h'=>vreg P L rest (gU D dst l) (sput s dst v) h' Q') Q' :=
   λD s hv=>vop_mono (λ_ _ _ hk=>tT hq rest _ _ _ hk) hq hv
  have skip:∀ D s,vreg P L rest D s h Q->vreg P L rest D s h Q':=λD s hv=>tT hq rest _ _ _ hv
  simp only[tU,vstep,gQ,gA]at hv ⊢
  cases hd:nG L j with
  | none=>simp[hd]at hv
  | some g =>
   simp only[hd]at hv ⊢
   cases hm:mem D g with
   | true =>
    simp only[hm]at hv ⊢
    split at hv
    ·cases want<;>first|exact run _ _ hv|exact skip _ _ hv
    ·cases want<;>first|exact run _ _ hv|exact skip _ _ hv
    ·exact skip _ _ hv
   | false =>
    simp only[hm]at hv ⊢
    split at hv
    ·cases want
     ·exact hv.imp (skip _ _) (run _ _)
     ·exact hv.imp (run _ _) (skip _ _)
    ·exact skip _ _ hv
theorem sW {N N':aVs->Heap->Prop}{Q Q':QQ}(hn:∀ s h,N s h->N' s h)(hq:∀ e s h,Q e s h->Q' e s h)(e:Exit)(s:aVs)(h:Heap)(hv:zY N Q e s h):zY N' Q' e s h:=by
 cases e<;>first|exact hn _ _ hv|exact hq _ _ _ hv
theorem jL {P:Program}:∀(c:Code) {Q Q':QQ}(_:∀ e s h,Q e s h->Q' e s h)(s:aVs)(h:Heap),vcode P c Q s h->vcode P c Q' s h:=by
 intro c
 induction c with
 | skip=>intro Q Q' hq s h hv;exact hq _ _ _ hv
 | region id ops draw =>
  intro Q Q' hq s h hv;cases draw with
  | true=>exact⟨λw0 w ds hw hs=>wp_mono (hv.wp w0 w ds hw hs) λe a w' ⟨s',ha,hs',h'⟩=>⟨s',ha,hs',hq _ _ _ h'⟩⟩
  | false =>
   cases hc:vK ops.toList with
   | true =>
    have hv:RegVC P id ops s h Q:=by simpa only[vcode,vregion,hc] using hv
    have:RegVC P id ops s h Q':=⟨λw0 w ds hw hs=>wp_mono (hv.wp w0 w ds hw hs) λe a w' ⟨s',ha,hs',h'⟩=>⟨s',ha,hs',hq _ _ _ h'⟩⟩
    simpa only[vcode,vregion,hc] using this
   | false =>
    have hv:vreg P ops.toList ops.toList [] s h Q:=by simpa only[vcode,vregion,hc] using hv
    have:=tT hq _ _ _ _ hv
    simpa only[vcode,vregion,hc] using this
 | seq a b iha ihb=>intro Q Q' hq s h hv;exact iha (sW (λs h hv=>ihb hq s h hv) hq) s h hv
 | cond c a b iha ihb =>
  intro Q Q' hq s h hv
  simp only[aAi,vcond]at hv ⊢
  split at hv
  ·exact hv.imp (iha hq s h) (ihb hq s h)
  ·exact hv.elim
 | block id b ih =>
  intro Q Q' hq s h hv;refine ih ?_ s h hv;intro e s h hv;cases e with
  | exit id' =>
   simp only[outQ]at hv ⊢
   cases hb:Nat.beq id' id with
   | true=>rw[hb]at hv;exact hq _ _ _ hv
   | false=>rw[hb]at hv;exact hq _ _ _ hv
  | _=>exact hq _ _ _ hv
 | loop b ih =>
  intro Q Q' hq s h hv
  obtain⟨I,μ,h0,hr⟩:=hv.ex
  exact⟨I,μ,h0,λs h hI=>ih (sW (λ_ _ x=>x) hq) s h (hr s h hI)⟩
 | exit id=>intro Q Q' hq s h hv;exact hq _ _ _ hv
 | scope b ih =>
  intro Q Q' hq s h hv;refine ih ?_ s h hv;intro e s h hv;cases e with
  | goto l=>exact hv.elim
  | _=>exact hq _ _ _ hv
 | label l=>intro Q Q' hq s h hv;exact hq _ _ _ hv
 | ret=>intro Q Q' hq s h hv;exact hq _ _ _ hv
 | _=>intro Q Q' hq s h hv;exact hv.elim
theorem Br.join {P:Program}{t:Bool}{A B:Code}{X Y:Prop}{N:aVs->Heap->Prop}{Q:QQ}{s:aVs}{h:Heap}(asg lv:List Nat)(I:aVs->Heap->Prop)
  (hX:X=vcode P A (zY N Q) s h) (hY:Y=vcode P B (zY N Q) s h)
  (hab:Br t (vcode P A (zY (λs' h'=>mask asg 0 s'=mask asg 0 s/\oS s' lv λvs=>I vs h') Q) s h) (vcode P B (zY (λs' h'=>mask asg 0 s'=mask asg 0 s/\oS s' lv λvs=>I vs h') Q) s h))
  (hr:∀(vs:aVs) (junk:Nat->Value) (h':Heap),I vs h'->mN asg lv vs junk 0 s λs1=>N s1 h') :
  Br t X Y A B:=by
 subst hX hY;have key:∀ e s' h',zY (λs' h'=>mask asg 0 s'=mask asg 0 s/\oS s' lv λvs=>I vs h') Q e s' h'->zY N Q e s' h':=by
  refine sW (λs' h' ⟨hm,hI⟩=>?_) (λ_ _ _ x=>x)
  rw[tV]at hI
  have:=hr (lv.map (sget s')) (sget s') h' hI
  rwa [oG,kY asg lv s' s s' 0 zS hm]at this
 exact hab.imp (jL A key s h) (jL B key s h)
theorem StillVC.aDR {P:Program}{fn:Func}{s:aVs}{h:Heap}{R:Value->Heap->Prop}{t:Tmp}(hf:fn.results=#[.tmp t])(hr:rS s t λv=>R v h):RetVC P fn s h R where
 ex:=⟨sget s t,λw _=>by rw[results_tmp hf,← dS];simp,by rwa [sH]at hr⟩
theorem RetVC.two {P:Program}{fn:Func}{s:aVs}{h:Heap}{R:Value->Heap->Prop}{t u:Tmp}(hf:fn.results=#[.tmp t,.tmp u])(hr:rS s t λv=>rS s u λw=>R (.tuple ⟨[v,w]⟩) h):RetVC P fn s h R where
 ex:=⟨.tuple ⟨[sget s t,sget s u]⟩,λw _=>by rw[results_tmp2 hf,← dS,← dS];simp,by simpa only[sH] using hr⟩
theorem StillVC.aDS {P:Program}{fn:Func}{s:aVs}{h:Heap}{R:Value->Heap->Prop}(hf:fn.results=#[])(hr:R (.tuple #[]) h):RetVC P fn s h R where
 ex:=⟨_,λw _=>by rw[results_none hf],hr⟩
theorem StillVC.aDN {P:Program}{g:FuncId}{args:aVs}{s:aVs}{h:Heap}{K:KK}{Q:QQ}{Post:Value->Heap->Prop}
  (sp:bG P g args h Post) (hk:∀ v h',Post v h'->K v false h'):CallVC P g args s h K Q where
 spec:=⟨_,.inl sp,hk,λ_ _ h=>h.elim,λ_ h=>h.elim⟩
theorem CallVC.ext {P:Program}{g:FuncId}{args:aVs}{s:aVs}{h:Heap}{K:KK}{Q:QQ}{Post:Value->Heap->Prop}
  (sp:XSpec P g args h (Ret Post)) (hk:∀ v h',Post v h'->K v false h'):CallVC P g args s h K Q where
 spec:=⟨_,.inr sp,hk,λ_ _ h=>h.elim,λ_ h=>h.elim⟩
theorem StillVC.remE {pr:Bool}{P:Program}{t ty t':TypeId}{x y:Operand}{s:aVs}{h:Heap}{K:KK}{k:IntKind}{a b:Int}
  (hx:ev s x=.int k a) (hy:ev s y=.int k b) (ha:0<=a) (hb:0<b) (hk:K (.int k (a % b)) false h):StillVC pr P (.binOp .rem t x y t') ty s h K :=
 .pure' _ false (λw=>by
  have hb':b≠0:=by omega
  simp[execOp,hx,hy,eqGuard_rem,binOp_rem,Op.intDiv,hb',Int.tmod_eq_emod_of_nonneg ha]) hk
theorem StillVC.quoE {pr:Bool}{P:Program}{t ty t':TypeId}{x y:Operand}{s:aVs}{h:Heap}{K:KK}{k:IntKind}{a b:Int}
  (hx:ev s x=.int k a) (hy:ev s y=.int k b) (ha:0<=a) (hb:0<b) (hm:a<=k.max) (hk:K (.int k (a / b)) false h):StillVC pr P (.binOp .quo t x y t') ty s h K :=
 .pure' _ false (λw=>by
  have hb':b≠0:=by omega
  have h1:a / b<=a:=Int.ediv_le_self b ha;have h2:0<=a / b:=Int.ediv_nonneg ha zO
  have:k.wrap (a / b)=a / b:=by
   revert hm h1 h2
   generalize a / b=q
   cases k<;>simp only[IntKind.max,IntKind.wrap,IntKind.bits,IntKind.signed]<;>intro hm h1 h2<;>simp at*<;> omega
  simp[execOp,hx,hy,eqGuard_quo,binOp_quo,Op.intDiv,hb',Int.tdiv_eq_ediv_of_nonneg ha,this]) hk
structure Ext (h h':Heap):Prop where
 size:h.size<=h'.size
 old:∀ b,b<h.size->h'[b]?=h[b]?
theorem Ext.refl (h:Heap):Ext h h:=⟨aD6 _,λ_ _=>rfl⟩
theorem Ext.trans {a b c:Heap}(h:Ext a b)(k:Ext b c):Ext a c :=
 ⟨aEc h.size k.size,λi hi=>(k.old i (Nat.lt_of_lt_of_le hi h.size)).trans (h.old i hi)⟩
theorem cellAt_lt {h:Heap}{a:Addr}{v:Value}(hc:bI h a=some v):a.block<h.size:=by
 rcases Nat.lt_or_ge a.block h.size with h'|h'
 ·exact h'
 ·simp[bI,Array.getElem?_eq_none h']at hc
theorem iW {h h':Heap}{a:Addr}(e:h'[a.block]?=h[a.block]?):bI h' a=bI h a:=by simp[bI,e]
theorem Ext.cell {h h':Heap}(e:Ext h h') {a:Addr}{v:Value}(hc:bI h a=some v):bI h' a=some v:=by
 rw[iW (e.old _ (cellAt_lt hc))];exact hc
structure Item where
 fp:Nat->Prop
 sat:Heap->Prop
 loc:∀ h h':Heap,(∀ b,fp b->h'[b]?=h[b]?)->sat h->sat h'
def box (b:Nat)(cs:aVs)(t:TypeId):Item where
 fp x:=x=b
 sat h:=h[b]?=some (.cells cs.toArray t (0,0))
 loc _ _ e:=λk=>(e b rfl).trans k
def uE (h:Heap)(e:TypeId)(sz:Nat)(v:Value)(n:Nat)(xs:aVs):Prop :=
 xs.length=n*sz/\((v=.slice none 0 0/\n=0) ∨
  ∃ g cap cur,v=.slice (some ⟨g,0,none⟩) n cap/\h[g]?=some (.cells cur e (0,0))/\n<=cap/\cap<=maxLen/\cur.size=cap*sz/\cur.toList.take (n*sz)=xs)
def row (v:Value)(e:TypeId)(sz n:Nat)(xs:aVs):Item where
 fp x:=v.ownBlock=some x
 sat h:=uE h e sz v n xs
 loc h h' eq:=λ⟨l,r⟩=>⟨l,r.imp id λ⟨g,cap,cur,hv,hg,rest⟩=>⟨g,cap,cur,hv,by rw[eq g (by rw[hv];rfl)];exact hg,rest⟩⟩
structure OwnR (h0:Heap) (L:List Item) (h:Heap):Prop where
 ext:Ext h0 h
 sat:∀ x∈L,x.sat h
 lo:∀ x∈L,∀ b,x.fp b->h0.size<=b
 hi:∀ x∈L,∀ b,x.fp b->b<h.size
 dis:L.Pairwise λx y=>∀ b,x.fp b->¬ y.fp b
section
variable {h0 h h' : Heap} {L L' : List Item}
theorem OwnR.refl (h:Heap):OwnR h [] h:=⟨.refl h,by simp,by simp,by simp,.nil⟩
theorem OwnR.call (o:OwnR h0 L h)(o':OwnR h L' h'):OwnR h0 (L++L') h' where
 ext:=o.ext.trans o'.ext
 sat x hx:=by
  rcases aEH.1 hx with hx|hx
  ·exact x.loc h h' (λb hb=>o'.ext.old b (o.hi x hx b hb)) (o.sat x hx)
  ·exact o'.sat x hx
 lo x hx b hb:=by
  rcases aEH.1 hx with hx|hx
  ·exact o.lo x hx b hb
  ·exact aEc o.ext.size (o'.lo x hx b hb)
 hi x hx b hb:=by
  rcases aEH.1 hx with hx|hx
  ·exact Nat.lt_of_lt_of_le (o.hi x hx b hb) o'.ext.size
  ·exact o'.hi x hx b hb
 dis:=by
  refine List.pairwise_append.2 ⟨o.dis,o'.dis,λx hx y hy b hb hb'=>?_⟩;have h1:=o.hi x hx b hb;have h2:=o'.lo y hy b hb'
  omega
def pick (L:List Item):List Nat->List Item
 | []=>[]
 | k::ks=>match L[k]? with
  | some x=>x::pick L ks
  | none=>pick L ks
def mem0:List Nat->Nat->Bool
 | [],_=>false
 | x::l,n=>bif Nat.beq x n then true else mem0 l n
def dst:List Nat->Bool
 | []=>true
 | k::ks=>!mem0 ks k&&dst ks
theorem nD (l:List Nat)(n:Nat):mem0 l n=true↔n∈l:=by
 induction l with
 | nil=>simp[mem0]
 | cons x l ih =>
  simp only[mem0,aEd]
  cases hb:Nat.beq x n with
  | true=>have:=aEK hb;simp[this]
  | false=>have:=Nat.ne_of_beq_eq_false hb;simp[ih,Ne.symm this]
theorem vV {L:List Item}{ks:List Nat}{x:Item}(hx:x∈pick L ks):∃ k∈ks,L[k]?=some x:=by
 induction ks with
 | nil=>simp[pick]at hx
 | cons k ks ih =>
  simp only[pick]at hx
  split at hx
  ·rename_i y hy
   rcases aEd.1 hx with rfl|hx
   ·exact⟨k,by simp,hy⟩
   ·obtain⟨j,hj,hl⟩:=ih hx;exact⟨j,by simp[hj],hl⟩
  ·obtain⟨j,hj,hl⟩:=ih hx;exact⟨j,by simp[hj],hl⟩
theorem OwnR.dis' (o:OwnR h0 L h) {i j:Nat}{x y:Item}(hi:L[i]?=some x)(hj:L[j]?=some y)(hne:i≠j):∀ b,x.fp b->¬ y.fp b:=by
 obtain⟨hi',hx⟩:=aDZ.1 hi
 obtain⟨hj',hy⟩:=aDZ.1 hj
 rcases Nat.lt_or_ge i j with hlt|hge
 ·have:=aEE.1 o.dis i j hi' hj' hlt;rw[hx,hy]at this;exact this
 ·have:=aEE.1 o.dis j i hj' hi' zO;rw[hx,hy]at this;exact λb h1 h2=>this b h2 h1
theorem OwnR.sel (o:OwnR h0 L h)(ks:List Nat)(hk:dst ks=true):OwnR h0 (pick L ks) h where
 ext:=o.ext
 sat x hx:=by obtain⟨k,_,hl⟩:=vV hx;exact o.sat x (aDY hl)
 lo x hx:=by obtain⟨k,_,hl⟩:=vV hx;exact o.lo x (aDY hl)
 hi x hx:=by obtain⟨k,_,hl⟩:=vV hx;exact o.hi x (aDY hl)
 dis:=by
  induction ks with
  | nil=>exact .nil
  | cons k ks ih =>
   simp only[dst,aD0,aEn]at hk
   simp only[pick]
   split
   ·rename_i x hx
    refine List.pairwise_cons.2 ⟨λy hy=>?_,ih hk.2⟩
    obtain⟨j,hj,hl⟩:=vV hy
    refine o.dis' hx hl λe=>?_;subst e
    rw[(nD _ _).2 hj]at hk
    exact Bool.noConfusion hk.1
   ·exact ih hk.2
theorem OwnR.perm (o:OwnR h0 L h)(p:L.Perm L'):OwnR h0 L' h where
 ext:=o.ext
 sat x hx:=o.sat x (p.mem_iff.2 hx)
 lo x hx:=o.lo x (p.mem_iff.2 hx)
 hi x hx:=o.hi x (p.mem_iff.2 hx)
 dis:=(p.pairwise_iff (λh b h1 h2=>h b h2 h1)).1 o.dis
theorem OwnR.push {c:Array Value}{t:TypeId}(o:OwnR h0 L h):OwnR h0 (L++[box h.size c.toList t]) (h.push (.cells c t)):=by
 have e:Ext h (h.push (.cells c t)):=⟨by simp,λb hb=>by rw[Array.getElem?_push,if_neg zO]⟩;refine o.call ⟨e,?_,?_,?_,aEI _ _⟩
 ·intro x hx;simp only[aD5]at hx;subst hx
  simp[box]
 ·intro x hx b hb;simp only[aD5]at hx;subst hx;cases hb;exact aD6 _
 ·intro x hx b hb;simp only[aD5]at hx;subst hx;cases hb;simp
theorem OwnR.set (o:OwnR h0 L h) {k:Nat}{x y:Item}(hk:L[k]?=some x)(hs:h.size<=h'.size)(hold:∀ b,b<h.size->¬ x.fp b->h'[b]?=h[b]?)
  (hy:y.sat h') (hfp:∀ b,y.fp b->x.fp b∨h.size<=b) (hhi:∀ b,y.fp b->b<h'.size):OwnR h0 (L.set k y) h':=by
 obtain⟨hk',hx⟩:=aDZ.1 hk
 have other:∀(j:Nat) (z:Item),L[j]?=some z->j≠k->∀ b,z.fp b->¬ x.fp b:=by
  intro j z hz hne b hb hb'
  obtain⟨hj',hz'⟩:=aDZ.1 hz
  rcases Nat.lt_or_ge j k with hlt|hge
  ·have:=aEE.1 o.dis j k hj' hk' hlt;rw[hx,hz']at this;exact this b hb hb'
  ·have:=aEE.1 o.dis k j hk' hj' zO;rw[hx,hz']at this;exact this b hb' hb
 have memSet:∀ z∈L.set k y,z=y∨∃ j,j≠k/\L[j]?=some z:=by
  intro z hz
  obtain⟨j,hj⟩:=aEm.1 hz
  rw[List.getElem?_set]at hj
  split at hj
  ·left;simpa using hj.symm
  ·exact .inr ⟨j,by omega,hj⟩
 refine⟨⟨aEc o.ext.size hs,λb hb=>?_⟩,?_,?_,?_,?_⟩
 ·have hnx:¬ x.fp b:=λhf=>by have:=o.lo x (aDY hk) b hf;omega
  rw[hold b (Nat.lt_of_lt_of_le hb o.ext.size) hnx];exact o.ext.old b hb
 ·intro z hz
  rcases memSet z hz with rfl|⟨j,hne,hj⟩
  ·exact hy
  ·exact z.loc h h' (λb hb=>hold b (o.hi z (aDY hj) b hb) (other j z hj hne b hb)) (o.sat z (aDY hj))
 ·intro z hz b hb
  rcases memSet z hz with rfl|⟨j,hne,hj⟩
  ·rcases hfp b hb with h1|h1
   ·exact o.lo x (aDY hk) b h1
   ·exact aEc o.ext.size h1
  ·exact o.lo z (aDY hj) b hb
 ·intro z hz b hb
  rcases memSet z hz with rfl|⟨j,hne,hj⟩
  ·exact hhi b hb
  ·exact Nat.lt_of_lt_of_le (o.hi z (aDY hj) b hb) hs
 ·rw[aEE]
  intro i j hi hj hij;have hi':i<L.length:=by simpa using hi
  have hj':j<L.length:=by simpa using hj
  rw[List.getElem_set,List.getElem_set]
  split
  ·rename_i hki
   rw[if_neg zO]
   intro b hb hb';have hz:L[j]?=some L[j]:=by simp[hj']
   rcases hfp b hb with h1|h1
   ·exact other j _ hz zO b hb' h1
   ·have:=o.hi _ (aDY hz) b hb';omega
  ·split
   ·intro b hb hb'
    have hz:L[i]?=some L[i]:=by simp[hi']
    rcases hfp b hb' with h1|h1
    ·exact other i _ hz zO b hb h1
    ·have:=o.hi _ (aDY hz) b hb;omega
   ·exact aEE.1 o.dis i j hi' hj' hij
structure Base where
 h:Heap
 T:List Item
instance:Coe Heap Base:=⟨λh=>⟨h,[]⟩⟩
def Own (B:Base)(L:List Item)(h:Heap):Prop:=OwnR B.h (L++B.T) h
end
section
variable {B : Base} {h h' : Heap} {L L' : List Item}
theorem Own.ext (o:Own B L h):Ext B.h h:=OwnR.ext o
theorem Own.sat (o:Own B L h):∀ x∈L,x.sat h:=λx hx=>OwnR.sat o x (List.mem_append_left _ hx)
theorem Own.hi (o:Own B L h):∀ x∈L,∀ b,x.fp b->b<h.size:=λx hx=>OwnR.hi o x (List.mem_append_left _ hx)
theorem Own.refl (h:Heap):Own h [] h:=OwnR.refl h
theorem OwnR.own {h0:Heap}(o:OwnR h0 L h):Own h0 L h:=by unfold Own;simpa using o
theorem Own.toR {h0:Heap}(o:Own h0 L h):OwnR h0 L h:=by unfold Own at o;simpa using o
theorem Own.callR (o:Own B L h)(o':OwnR h L' h'):Own B (L++L') h':=by
 have:=OwnR.call o o'
 refine this.perm ?_
 rw[aEb,aEb]
 exact List.Perm.append_left L List.perm_append_comm
theorem Own.call (o:Own B L h)(o':Own h L' h'):Own B (L++L') h':=o.callR o'.toR
theorem Own.ext' (o:Own B L h)(o':Own h [] h'):Own B L h':=by
 have:=o.call o';rwa [aD7]at this
theorem qJ {L T:List Item}:∀(ks:List Nat),(∀ k∈ks,k<L.length)->pick (L++T) ks=pick L ks
 | [],_=>rfl
 | k::ks,h=>by
  simp only[pick]
  rw[List.getElem?_append_left (h k zS),qJ ks (λj hj=>h j (by simp[hj]))]
theorem xF {L:List Item}:∀(ks:List Nat),pick L ks=pick L (ks.filter λk=>decide (k<L.length))
 | []=>rfl
 | k::ks=>by
  simp only[pick,List.filter_cons]
  by_cases hk:k<L.length
  ·simp only[hk,decide_true,if_true,pick];rw[xF ks]
  ·rw[aEA zO]
   simp only[hk,decide_false]
   exact xF ks
theorem sR (L T:List Item):∀(n:Nat),n<=T.length->pick (L++T) (List.range' (L.length+(T.length - n)) n)=T.drop (T.length - n)
 | 0,_=>by simp[pick]
 | n+1,h=>by
  have e:T.length - n=T.length - (n+1)+1:=by omega
  have ih:=sR L T n zO
  rw[e,← Nat.add_assoc]at ih
  rw[List.range'_succ]
  simp only[pick]
  rw[List.getElem?_append_right zO,Nat.add_sub_cancel_left,aD8 zO]
  simp only[show T.length - (n+1)<T.length by omega,getElem?_pos]
  rw[ih]
theorem vB (p:Nat->Bool):∀(ks:List Nat),dst ks=true->dst (ks.filter p)=true
 | [],_=>rfl
 | k::ks,h=>by
  simp only[dst,aD0,aEn]at h
  rw[List.filter_cons]
  split
  ·simp only[dst,aD0,aEn]
   refine⟨?_,vB p ks h.2⟩
   cases hm:mem0 (ks.filter p) k with
   | false=>rfl
   | true =>
    have h1:=h.1
    rw[(nD _ _).2 (List.mem_filter.1 ((nD _ _).1 hm)).1]at h1
    exact Bool.noConfusion h1
  ·exact vB p ks h.2
theorem mQ {n m:Nat}:∀(ks:List Nat),dst ks=true->(∀ k∈ks,k<n)->dst (ks++List.range' n m)=true
 | [],_,_=>by
  rw[lnA]
  induction m generalizing n with
  | zero=>rfl
  | succ m ih =>
   rw[List.range'_succ]
   simp only[dst,aD0,aEn]
   refine⟨?_,ih zS⟩
   cases hm:mem0 (List.range' (n+1) m) n with
   | false=>rfl
   | true=>have:=(nD _ _).1 hm;simp only[List.mem_range'_1]at this;omega
 | k::ks,h,hlt=>by
  simp only[dst,aD0,aEn]at h
  simp only[lcA,dst,aD0,aEn]
  refine⟨?_,mQ ks h.2 (λj hj=>hlt j (by simp[hj]))⟩
  cases hm:mem0 (ks++List.range' n m) k with
  | false=>rfl
  | true =>
   rcases aEH.1 ((nD _ _).1 hm) with hk|hk
   ·have h1:=h.1;rw[(nD _ _).2 hk]at h1;exact Bool.noConfusion h1
   ·have:=hlt k zS
    simp only[List.mem_range'_1]at hk;omega
theorem nA (L:List Item):∀(ks js:List Nat),pick L (ks++js)=pick L ks++pick L js
 | [],js=>rfl
 | k::ks,js=>by
  simp only[lcA,pick]
  split
  ·rw[nA L ks js];rfl
  ·exact nA L ks js
theorem Own.sel (o:Own B L h)(ks:List Nat)(hk:dst ks=true):Own B (pick L ks) h:=by
 have hf:∀ k∈ks.filter (λk=>decide (k<L.length)),k<L.length:=λk hk=>by simpa using (List.mem_filter.1 hk).2
 have:=OwnR.sel o (ks.filter (λk=>decide (k<L.length))++List.range' L.length B.T.length) (mQ _ (vB _ ks hk) hf)
 rw[nA,qJ _ hf,← xF]at this
 have hr:=sR L B.T B.T.length (aD6 _)
 rw[Nat.sub_self,Nat.add_zero,List.drop_zero]at hr
 rw[hr]at this
 exact this
theorem Own.lend (o:Own B L h)(ks js:List Nat)(hk:dst (ks++js)=true):Own ⟨B.h,pick L js++B.T⟩ (pick L ks) h:=by
 have:=o.sel (ks++js) hk
 unfold Own at this ⊢
 rwa [nA,aEb]at this
theorem Own.back {J K:List Item}(o:Own ⟨B.h,J++B.T⟩ K h):Own B (K++J) h:=by
 unfold Own at o ⊢
 rwa [aEb]
theorem Own.push {c:Array Value}{t:TypeId}(o:Own B L h):Own B (L++[box h.size c.toList t]) (h.push (.cells c t)):=by
 have:=OwnR.push (c:=c) (t:=t) o
 refine this.perm ?_
 rw[aEb,aEb]
 exact List.Perm.append_left L List.perm_append_comm
theorem Own.set (o:Own B L h) {k:Nat}{x y:Item}(hk:L[k]?=some x)(hs:h.size<=h'.size)(hold:∀ b,b<h.size->¬ x.fp b->h'[b]?=h[b]?)
  (hy:y.sat h') (hfp:∀ b,y.fp b->x.fp b∨h.size<=b) (hhi:∀ b,y.fp b->b<h'.size):Own B (L.set k y) h':=by
 obtain⟨hk',_⟩:=aDZ.1 hk
 have:=OwnR.set (k:=k) (x:=x) (y:=y) o (by rw[List.getElem?_append_left hk'];exact hk) hs hold hy hfp hhi
 rwa [List.set_append_left _ _ hk']at this
end
section
variable {h0 : Base} {h h' : Heap} {L L' : List Item}
theorem Own.old (o:Own h0 L h) {a:Addr}{v:Value}(hc:bI h0.h a=some v):bI h a=some v:=o.ext.cell hc
theorem Own.cellB (o:Own h0 L h)(k:Nat) {b:Nat}{cs:aVs}{t:TypeId}(hk:L[k]?=some (box b cs t))(i:Nat):bI h ⟨b,i,none⟩=cs[i]?:=by
 have hb:h[b]?=some (.cells cs.toArray t (0,0)):=o.sat _ (aDY hk)
 simp[bI,hb]
end
def Arr (h:Heap)(v:Value)(xs:aVs):Prop :=
 ∃ a cap,v=.slice a xs.length cap/\xs.length<=cap/\(xs=[]∨∃ b o,a=some ⟨b,o,none⟩/\∀ i,i<xs.length->bI h ⟨b,o+i,none⟩=xs[i]?)
theorem Arr.ext {h h':Heap}{v:Value}{xs:aVs}(a:Arr h v xs)(e:Ext h h'):Arr h' v xs:=by
 obtain⟨ad,cap,hv,hl,r⟩:=a
 refine⟨ad,cap,hv,hl,r.imp id λ⟨b,o,ha,hc⟩=>⟨b,o,ha,λi hi=>?_⟩⟩
 have:xs[i]?=some xs[i]:=by simp[hi]
 rw[this];exact e.cell (by rw[hc i hi,this])
theorem Arr.nil (h:Heap):Arr h (.slice none 0 0) []:=⟨_,_,rfl,aD6 _,.inl rfl⟩
theorem uE.arr {h:Heap}{e:TypeId}{v:Value}{n:Nat}{xs:aVs}(r:uE h e 1 v n xs):Arr h v xs:=by
 obtain⟨hl,r⟩:=r
 rcases r with ⟨rfl,rfl⟩|⟨g,cap,cur,rfl,hg,hn,_,hs,ht⟩
 ·have:xs=[]:=List.eq_nil_of_length_eq_zero (by simpa using hl)
  subst this;exact Arr.nil h
 ·have hn':xs.length=n:=by simpa using hl
  refine⟨_,cap,by rw[hn'],by omega,.inr ⟨g,0,rfl,λi hi=>?_⟩⟩
  rw[← ht,aER,if_pos zO]
  simp[bI,hg]
theorem Own.rowArr {h0:Base}{h:Heap}{L:List Item}(o:Own h0 L h)(k:Nat) {v:Value}{e:TypeId}{n:Nat}{xs:aVs}(hk:L[k]?=some (row v e 1 n xs)):Arr h v xs :=
 uE.arr (o.sat _ (aDY hk))
theorem Own.boxArr {h0:Base}{h:Heap}{L:List Item}(o:Own h0 L h)(k:Nat) {b:Nat}{cs:aVs}{t:TypeId}(hk:L[k]?=some (box b cs t)) {n c:Nat}(hn:cs.length=n)(hc:n<=c):Arr h (.slice (some ⟨b,0,none⟩) n c) cs:=by
 subst hn
 exact⟨_,_,rfl,hc,.inr ⟨b,0,rfl,λi _=>by rw[aEg];exact o.cellB k hk i⟩⟩
def mM:TypeDesc->Bool
 | .struct _=>true
 | .array _ _=>true
 | _=>false
structure TyI (P:Program) (t:TypeId) (agg:Bool) (zero:aVs) (bytes:Nat):Prop where
 und:∃ d,P.underlying t=some d/\mM d=agg
 info:∃ i z,P.info? t=some i/\i.size=zero.length/\i.zero=some z/\z.cells=zero.toArray/\i.bytes=bytes
theorem TyI.mk' {P:Program}{t:TypeId}{agg:Bool}{zero:aVs}{bytes:Nat}{d:TypeDesc}{z:Value}(hd:P.underlying t=some d)(ha:mM d=agg)
  (hi:(P.info? t).map (λi=>(i.zero,i.size,i.bytes))=some (some z,zero.length,bytes)) (hz:z.cells=zero.toArray):TyI P t agg zero bytes:=by
 refine⟨⟨d,hd,ha⟩,?_⟩
 cases hh:P.info? t with
 | none=>simp[hh]at hi
 | some i=>simp[hh]at hi;exact⟨i,z,rfl,hi.2.1,hi.1,hz,hi.2.2⟩
def dN (P:Program)(t e:TypeId):Prop:=P.underlying t=some (.slice e)
theorem TyI.isAgg {P:Program}{t:TypeId}{agg:Bool}{zero:aVs}{bytes:Nat}(T:TyI P t agg zero bytes)(w:World):(isAgg t).run P w=.ok agg w:=by
 obtain⟨d,hd,ha⟩:=T.und
 simp only[Go.isAgg,Sem.run_bind,run_underlying hd,Result.andThen_ok]
 subst ha;cases d<;>simp[mM]
theorem TyI.sizeOf {P:Program}{t:TypeId}{agg:Bool}{zero:aVs}{bytes:Nat}(T:TyI P t agg zero bytes)(w:World):(sizeOf t).run P w=.ok zero.length w:=by
 obtain⟨i,z,hi,hs,_⟩:=T.info
 simp[Go.sizeOf,typeInfo,hi,hs]
theorem TyI.zeroValue {P:Program}{t:TypeId}{agg:Bool}{zero:aVs}{bytes:Nat}(T:TyI P t agg zero bytes)(w:World):∃ z,(zeroValue t).run P w=.ok z w/\z.cells=zero.toArray:=by
 obtain⟨i,z,hi,hs,hz,hc,_⟩:=T.info
 exact⟨z,by simp[Go.zeroValue,typeInfo,hi,hz],hc⟩
section
variable {P : Program} {ty : TypeId} {s : aVs} {h0 : Base} {h : Heap} {L : List Item} {K : KK} {Q : QQ}
def adr (v:Value)(i:Nat):Value :=
 match v with
 | .slice (some a) _ _=>.pointer (some ⟨a.block,a.off+i,none⟩)
 | _=>undef
theorem StillVC.idx {pr:Bool}{t e:TypeId}{by_:Nat}{x i:Operand}{xs:aVs}{k:IntKind}{m:Int}{agg:Bool}{z:Value}(hS:dN P t e)(hE:TyI P e agg [z] by_)(hA:Arr h (ev s x) xs)
  (hi:ev s i=.int k m) (h1:0<=m) (h2:m<xs.length) (hk:evK s x λv=>K (adr v m.toNat) false h):StillVC pr P (.indexAddr t x i) ty s h K:=by
 rw[oY]at hk
 obtain⟨a,cap,hv,_,r⟩:=hA
 rcases r with rfl|⟨b,o,rfl,hc⟩
 ·simp at h2;omega
 refine .pure' _ false (λw=>?_) hk;have he:P.elem t=e:=by unfold dN at hS;simp[Program.elem,hS]
 have hS':P.underlying t=some (.slice (P.elem t)):=by rw[he];exact hS
 simp[execOp,hi,hv,run_indexAt_slice w t _ _ _ _ _ hS',h1,h2,he,hE.sizeOf,adr,Addr.add_lit]
theorem StillVC.load1 {t:TypeId}{x:Operand}{zero:aVs}{by_:Nat}{a:Addr}{v:Value}(hT:TyI P t false zero by_)(hx:ev s x=.pointer (some a))(hc:bI h a=some v)(hk:K v false h):StillVC false P (.load t x) ty s h K :=
 ⟨v,false,[(a,v)],by simp,by simpa using hc,λw hw=>by
  have:w.cell? a=some v:=hw (a,v) zS
  simp[execOp,hx,Instr.loadAt,Instr.sureAddr,loadVar,hT.isAgg,run_load,this],hk⟩
theorem StillVC.loadA {t:TypeId}{x:Operand}{zero:aVs}{by_:Nat}{v u:Value}{xs:aVs}{i:Nat}(hA:Arr h v xs)(hT:TyI P t false zero by_)(hx:ev s x=adr v i)(hu:xs[i]?=some u)(hk:K u false h):StillVC false P (.load t x) ty s h K:=by
 obtain⟨a,cap,rfl,_,r⟩:=hA
 obtain⟨hi,_⟩:=aDZ.1 hu
 rcases r with rfl|⟨b,o,rfl,hc⟩
 ·simp at hi
 exact .load1 hT (by simpa[adr] using hx) (by rw[hc i hi];exact hu) hk
theorem StillVC.lenA {pr:Bool}{t e:TypeId}{x:Operand}{xs:aVs}(hA:Arr h (ev s x) xs)(hS:dN P t e)(hk:K (.int .i64 xs.length) false h):StillVC pr P (.call ⟨.builtin .len,⟨[x]⟩,⟨[t]⟩⟩) ty s h K:=by
 obtain⟨a,cap,hv,_⟩:=hA
 refine .pure' _ false (λw=>?_) hk
 simp[execOp,resolve,invoke,builtin,hv,Builtin.len_,run_underlying hS,goInt]
theorem StillVC.aDn {pr:Bool}{t:TypeId}{x:Operand}{l:aBs}(hx:ev s x=sv l)(hS:P.underlying t=some .string)(hk:K (.int .i64 l.length) false h):StillVC pr P (.call ⟨.builtin .len,⟨[x]⟩,⟨[t]⟩⟩) ty s h K:=by
 refine .pure' _ false (λw=>?_) hk;have hz:(⟨⟨l⟩⟩:ByteArray).size=l.length:=rfl
 simp[execOp,resolve,invoke,builtin,hx,Builtin.len_,run_underlying hS,goInt,hz]
theorem StillVC.max2 {pr:Bool}{tys:Array TypeId}{x y:Operand}{k k':IntKind}{a b:Int}(hx:ev s x=.int k a)(hy:ev s y=.int k' b)(hk:K (.int k (max a b)) false h):StillVC pr P (.call ⟨.builtin .max,⟨[x,y]⟩,tys⟩) ty s h K:=by
 refine .pure' _ false (λw=>?_) hk
 have:(if a<b then b else a)=max a b:=by split<;>omega
 simp[execOp,resolve,invoke,builtin,hx,hy,Builtin.max_,Builtin.max2,this]
theorem StillVC.convI {pr:Bool}{src dst:TypeId}{x:Operand}{k k':IntKind}{a:Int}{d:TypeDesc}(hx:ev s x=.int k a)(hs:P.underlying src=some d)(hd:P.underlying dst=some (.int k'))(hk:Ar k' a λv=>K v false h):StillVC pr P (.convert src dst x) ty s h K :=
 .pure' (.int k' (k'.wrap a)) false (λw=>by simp[execOp,hx,convert,run_underlying hs,run_underlying hd,Conv.intToInt]) hk.h
theorem StillVC.aDk {pr:Bool}{t:TypeId}{x i:Operand}{l:aBs}{k:IntKind}{m:Int}{c:UInt8}(hx:ev s x=sv l)(hi:ev s i=.int k m)(hS:P.underlying t=some .string)(h1:0<=m)(hc:l[m.toNat]?=some c)(hk:K (.int .u8 c.toNat) false h):StillVC pr P (.index t x i) ty s h K:=by
 refine .pure' _ false (λw=>?_) hk;have hc':(⟨⟨l⟩⟩:ByteArray)[m.toNat]?=some c:=by
  obtain⟨hl,he⟩:=aDZ.1 hc
  have:m.toNat<(⟨⟨l⟩⟩:ByteArray).size:=by simpa[ByteArray.size] using hl
  simp only[this,getElem?_pos,Option.some.injEq]
  exact he
 simp[execOp,hx,hi,Instr.index,asIntOf,run_underlying hS,h1,hc']
theorem StillVC.aDp {pr:Bool}{fn:Fn}{first cap:List Operand}(hk:zT s first λa=>zT s cap λb=>K (.func fn ⟨a⟩ ⟨b⟩) false h):StillVC pr P (.makeFunc fn ⟨first⟩ ⟨cap⟩) ty s h K :=
 .pure' (.func fn ⟨first.map (ev s)⟩ ⟨cap.map (ev s)⟩) false (λw=>by simp[execOp,Instr.makeFunc]) (by simpa only[pP] using hk)
theorem StillVC.aDb {pr:Bool}{t t':TypeId}{x y:Operand}{a b:aBs}(hx:ev s x=sv a)(hy:ev s y=sv b)(hl:a.length+b.length<=9223372036854775807)(hk:K (sv (a++b)) false h):StillVC pr P (.binOp .add t x y t') ty s h K:=by
 refine .pure' _ false (λw=>?_) hk;have happ:(⟨⟨a⟩⟩:ByteArray)++⟨⟨b⟩⟩=⟨⟨a++b⟩⟩:=by
  have:(⟨⟨a⟩⟩++⟨⟨b⟩⟩:ByteArray).data=(⟨a⟩:Array UInt8)++⟨b⟩:=by simp
  cases h:(⟨⟨a⟩⟩++⟨⟨b⟩⟩:ByteArray) with
  | mk d=>rw[h]at this;simp only at this;subst this;simp
 have hz:∀ l:aBs,(⟨⟨l⟩⟩:ByteArray).size=l.length:=λ_=>rfl;have hsz:¬ (9223372036854775807<(a.length:Int)+(b.length:Int)):=by omega
 simp[execOp,hx,hy,eqGuard_at_string,binOp,Op.stringOp,hz,hsz,happ]
def pM (L:List Item)(x:Item)(k:List Item->Prop):Prop :=
 match L with
 | []=>k [x]
 | y::L=>pM L x λL'=>k (y::L')
theorem nF (L:List Item)(x:Item)(k:List Item->Prop):pM L x k=k (L++[x]):=by
 induction L generalizing k with
 | nil=>rfl
 | cons y L ih=>simp[pM,ih]
def pK (L:List Item)(n:Nat)(x:Item)(k:List Item->Prop):Prop :=
 match L,n with
 | [],_=>k []
 | _::L,0=>k (x::L)
 | y::L,n+1=>pK L n x λL'=>k (y::L')
theorem tA (L:List Item)(n:Nat)(x:Item)(k:List Item->Prop):pK L n x k=k (L.set n x):=by
 induction L generalizing n k with
 | nil=>simp[pK]
 | cons y L ih=>cases n with
  | zero=>simp[pK]
  | succ n=>simp[pK,ih]
theorem StillVC.aDH {t:TypeId}{agg:Bool}{zero:aVs}{by_:Nat}(o:Own h0 L h)(hT:TyI P t agg zero by_)
  (hk:∀ b h',pM L (box b zero t) λL'=>Own h0 L' h'->K (.pointer (some ⟨b,0,none⟩)) false h'):RunVC P (.alloc t) ty s h K Q :=
 .of λw hw=>by
  subst hw
  obtain⟨z,hz,hc⟩:=hT.zeroValue w
  refine⟨.pointer (some ⟨w.heap.size,0,none⟩),false,{ w with heap:=w.heap.push (.cells z.cells t) },by simp[execOp,Instr.alloc,hz,newVar,newRow],⟨rfl,rfl,rfl,by simp⟩,?_⟩
  have:=hk w.heap.size (w.heap.push (.cells z.cells t))
  rw[nF]at this
  refine this ?_;have o':=o.push (c:=z.cells) (t:=t)
  rw[hc]at o' ⊢;exact o'
theorem RunVC.boxO {t:TypeId}{x:Operand}{v:Value}(o:Own h0 L h)(hx:ev s x=v)
  (hk:∀ b h',pM L (box b v.cells.toList t) λL'=>Own h0 L' h'->K (.pointer (some ⟨b,0,none⟩)) false h'):RunVC P (.box t x) ty s h K Q :=
 .of λw hw=>by
  subst hw
  refine⟨.pointer (some ⟨w.heap.size,0,none⟩),false,{ w with heap:=w.heap.push (.cells v.cells t) },by simp[execOp,Instr.box,hx,newVar,newRow],⟨rfl,rfl,rfl,by simp⟩,?_⟩
  have:=hk w.heap.size (w.heap.push (.cells v.cells t))
  rw[nF]at this
  exact this o.push
end
section
variable {P : Program} {ty : TypeId} {s : aVs} {h0 : Base} {h : Heap} {L : List Item} {K : KK} {Q : QQ}
theorem Own.boxBlk (o:Own h0 L h)(k:Nat) {b:Nat}{cs:aVs}{t:TypeId}(hk:L[k]?=some (box b cs t)) :
  h[b]?=some (.cells cs.toArray t (0,0)):=o.sat _ (aDY hk)
def wsets (w:World)(b off:Nat):aVs->World
 | []=>w
 | v::vs=>wsets (w.setCell ⟨b,off,none⟩ v) b (off+1) vs
theorem sJ {w:World}{b off:Nat}{cs:aVs}{t:TypeId}{lo hi:Nat}{v:Value}(hb:w.heap[b]?=some (.cells cs.toArray t (lo,hi))) :
  (w.setCell ⟨b,off,none⟩ v).heap[b]?=some (.cells (cs.set off v).toArray t (lo,hi)):=by
 simp[World.setCell,Array.getElem?_modify,hb]
def lset (cs:aVs)(off:Nat):aVs->aVs
 | []=>cs
 | v::vs=>lset (cs.set off v) (off+1) vs
theorem sZ (cs:aVs)(off:Nat)(vs:aVs):(lset cs off vs).length=cs.length:=by
 induction vs generalizing cs off with
 | nil=>rfl
 | cons v vs ih=>simp[lset,ih]
theorem sK {b off:Nat}(vs:aVs):∀(i:Nat)(w:World)(cs:aVs)(t:TypeId)(lo hi:Nat),
  w.heap[b]?=some (.cells cs.toArray t (lo,hi))->(lo=hi∨cs.length<=lo)->off+i+vs.length<=cs.length->(∀ v∈vs,v.oneCell'=true) ->
  (storeCells ⟨b,off,none⟩ vs i).run P w=.ok () (wsets w b (off+i) vs):=by
 induction vs with
 | nil=>intro i w cs t lo hi _ _ _ _;simp[storeCells,wsets]
 | cons v vs ih =>
  intro i w cs t lo hi hb hfr hl h1
  simp only[aD1]at hl
  have hv:=h1 v zS;have hcell:w.cell? ⟨b,off+i,none⟩=some cs[off+i]:=by
   simp only[World.cell?,hb];simp
  have hfz:w.frozen? ⟨b,off+i,none⟩=false:=by
   simp only[World.frozen?,hb];simp;omega
  have hb':=sJ (off:=off+i) (v:=v) hb
  simp only[storeCells,Sem.run_bind,Addr.add_lit,run_store P w _ v _ hv,hcell,hfz,Result.andThen_ok,aD9,if_false]
  have:=ih (i+1) (w.setCell ⟨b,off+i,none⟩ v) (cs.set (off+i) v) t lo hi hb' (by simpa using hfr) (by simp;omega) (λu hu=>h1 u (by simp[hu]))
  exact this
theorem sets_blk (vs:aVs):∀(w:World)(b off:Nat)(cs:aVs)(t:TypeId)(lo hi:Nat),w.heap[b]?=some (.cells cs.toArray t (lo,hi)) ->
  (wsets w b off vs).heap[b]?=some (.cells (lset cs off vs).toArray t (lo,hi)):=by
 induction vs with
 | nil=>intro w b off cs t lo hi hb;exact hb
 | cons v vs ih=>intro w b off cs t lo hi hb;exact ih _ _ _ _ _ _ _ (sJ hb)
theorem iT (vs:aVs):∀(w:World)(b off:Nat),(wsets w b off vs).heap.size=w.heap.size/\(∀ x,x≠b->(wsets w b off vs).heap[x]?=w.heap[x]?)/\Same w (wsets w b off vs):=by
 induction vs with
 | nil=>intro w b off;exact⟨rfl,λ_ _=>rfl,.refl w⟩
 | cons v vs ih =>
  intro w b off
  obtain⟨h1,h2,h3⟩:=ih (w.setCell ⟨b,off,none⟩ v) b (off+1)
  refine⟨by rw[wsets,h1];simp,λx hx=>?_,Same.trans (b:=w.setCell ⟨b,off,none⟩ v) ⟨rfl,rfl,rfl,by simp⟩ h3⟩
  rw[wsets,h2 x hx]
  simp only[World.setCell,Array.getElem?_modify]
  rw[if_neg (by simpa using λe=>hx e.symm)]
def rJ (v:Value)(k:aVs->Prop):Prop :=
 match v with
 | .agg ⟨cs⟩=>k cs
 | v=>k [v]
theorem oK (v:Value)(k:aVs->Prop):rJ v k=k v.cells.toList:=by
 cases v<;>rfl
def aCQ (cs:aVs)(off:Nat)(vs:aVs)(k:aVs->Prop):Prop :=
 match vs with
 | []=>k cs
 | v::vs=>aCQ (cs.set off v) (off+1) vs k
theorem xL (cs:aVs)(off:Nat)(vs:aVs)(k:aVs->Prop):aCQ cs off vs k=k (lset cs off vs):=by
 induction vs generalizing cs off with
 | nil=>rfl
 | cons v vs ih=>exact ih _ _
theorem StillVC.aDF {t:TypeId}{a x:Operand}{zero:aVs}{by_:Nat}{agg:Bool}{b off:Nat}{cs:aVs}{t':TypeId}(o:Own h0 L h)(k:Nat)(hk:L[k]?=some (box b cs t'))(hT:TyI P t agg zero by_)
  (ha:ev s a=.pointer (some ⟨b,off,none⟩)) (hl:off+zero.length<=cs.length)
  (hK:evK s x λv=>rJ v λvs=>(vs.length=zero.length/\vs.all (λu=>u.oneCell')=true)/\∀ h',aCQ cs off vs λcs'=>pK L k (box b cs' t') λL'=>Own h0 L' h'->K undef false h'):RunVC P (.store t a x) ty s h K Q :=
 .of_skip λw hw=>by
  subst hw;have hb:=o.boxBlk k hk;have hfr:(0:Nat)=0∨cs.length<=0:=.inl rfl
  rw[oY,oK]at hK
  generalize hx:ev s x=v at hK
  obtain⟨⟨hsz',h1'⟩,hK⟩:=hK
  have hsz:v.cells.size=zero.length:=by simpa using hsz'
  have h1:∀ u∈v.cells.toList,u.oneCell'=true:=aD4.1 h1';have hrun:=sK (P:=P) (b:=b) (off:=off) v.cells.toList 0 w cs t' 0 0 hb hfr (by simp[hsz];omega) h1
  refine⟨wsets w b off v.cells.toList,?_,(iT _ w b off).2.2,?_⟩
  ·simp[execOp,ha,hx,Instr.storeAt,Instr.sureAddr,storeVar,hT.sizeOf,hsz,hrun]
  ·have:=hK (wsets w b off v.cells.toList).heap
   rw[xL,tA]at this
   refine this (o.set hk (Nat.le_of_eq (iT _ w b off).1.symm) (λx _ hx=>(iT _ w b off).2.1 x hx) ?_ (λx hx=>.inl hx) (λx hx=>?_))
   ·exact sets_blk _ _ _ _ _ _ _ _ hb
   ·rw[(iT _ w b off).1];exact o.hi _ (aDY hk) x hx
theorem StillVC.aDu {t:TypeId}{x:Operand}{zero:aVs}{by_:Nat}{b off:Nat}{cs:aVs}{t':TypeId}{v:Value}(o:Own h0 L h)(k:Nat)(hk:L[k]?=some (box b cs t'))(hT:TyI P t false zero by_)
  (hx:ev s x=.pointer (some ⟨b,off,none⟩)) (hv:cs[off]?=some v) (hK:K v false h):StillVC false P (.load t x) ty s h K :=
 .load1 hT hx (by rw[o.cellB k hk];exact hv) hK
theorem jG {w:World}{a:Addr}(vs:aVs):∀(i:Nat)(acc:Array Value),(∀ j,j<vs.length->w.cell? (a.add (i+j))=vs[j]?) ->
  (loadCellsFrom a i vs.length acc).run P w=.ok (acc++vs.toArray) w:=by
 induction vs with
 | nil=>intro i acc _;simp[loadCellsFrom]
 | cons v vs ih =>
  intro i acc hc;have h0:w.cell? (a.add i)=some v:=by simpa using hc 0 zS
  have ht:=ih (i+1) (acc.push v) (λj hj=>by have:=hc (j+1) (by simpa using hj);simpa[Nat.add_assoc,Nat.add_comm 1 j] using this)
  simp only[aD1,loadCellsFrom,Sem.run_bind,run_load,h0,Result.andThen_ok,ht]
  simp
theorem StillVC.loadN {t:TypeId}{x:Operand}{zero:aVs}{by_:Nat}{a:Addr}{vs:aVs}(hT:TyI P t true zero by_)(hx:ev s x=.pointer (some a))(hl:vs.length=zero.length)
  (hc:∀ j,j<vs.length->bI h (a.add j)=vs[j]?) (hK:K (.agg ⟨vs⟩) false h):StillVC false P (.load t x) ty s h K :=
 ⟨.agg ⟨vs⟩,false,(List.range vs.length).map (λj=>(a.add j,vs.getD j undef)),by simp,by
  intro r hr
  obtain⟨j,hj,rfl⟩:=aEL.1 hr
  have hj':j<vs.length:=by simpa using hj
  simp only
  rw[hc j hj'];simp[hj'],λw hw=>by
  have:=jG (P:=P) (w:=w) (a:=a) vs 0 #[] (λj hj=>by
   rw[aEg]
   have:=hw (a.add j,vs.getD j undef) (aEL.2 ⟨j,by simpa using hj,rfl⟩)
   simp only at this
   rw[this];simp[hj])
  simp[execOp,hx,Instr.loadAt,Instr.sureAddr,loadVar,hT.isAgg,hT.sizeOf,← hl,loadCells,this],hK⟩
theorem StillVC.aDr {t:TypeId}{x:Operand}{zero:aVs}{by_:Nat}{b off:Nat}{cs:aVs}{t':TypeId}{vs:aVs}(o:Own h0 L h)(k:Nat)(hk:L[k]?=some (box b cs t'))(hT:TyI P t true zero by_)
  (hx:ev s x=.pointer (some ⟨b,off,none⟩)) (hv':(cs.drop off).take zero.length=vs) (hl:vs.length=zero.length) (hK:K (.agg ⟨vs⟩) false h):StillVC false P (.load t x) ty s h K :=
 have hv:(cs.drop off).take vs.length=vs:=by rw[hl];exact hv'
 .loadN hT hx hl (λj hj=>by
  rw[Addr.add_lit,o.cellB k hk]
  conv=>rhs;rw[← hv]
  rw[aER,if_pos hj,aEM]) hK
theorem RunVC.make {t e:TypeId}{l c:Operand}{z:Value}{by_:Nat}{n:Int}{k1 k2:IntKind}(o:Own h0 L h)(hS:dN P t e)(hE:TyI P e false [z] by_)(hl:ev s l=.int k1 n)(hc:ev s c=.int k2 n)
  (h1:0<=n) (h2:n<=9223372036854775807) (h3:by_*n<=281474976710656)
  (hK:∀ b h',pM L (box b (List.replicate n.toNat z) e) λL'=>Own h0 L' h'->K (.slice (some ⟨b,0,none⟩) n.toNat n.toNat) false h'):RunVC P (.makeSlice t l c) ty s h K Q :=
 .of λw hw=>by
  subst hw
  obtain⟨i,z',hi,hs,hz,hzc,hb⟩:=hE.info
  have hs1:i.size=1:=by simpa using hs
  have hzc1:z'.cells=#[z]:=hzc;have hr:=run_make (P:=P) w t e i z' hS hi hz k1 k2 n n h1 (Int.le_refl _) (by rw[hb];exact h3) h2;have hm:madeCells z'.cells (n.toNat*i.size)=(List.replicate n.toNat z).toArray:=by
   apply Array.toList_inj.1
   rw[hs1,Nat.mul_one,hzc1,toList_madeCells_one]
  rw[hm]at hr
  refine⟨.slice (some ⟨w.heap.size,0,none⟩) n.toNat n.toNat,false,{ w with heap:=w.heap.push (.cells (List.replicate n.toNat z).toArray e) },by simp[execOp,hl,hc,hr],⟨rfl,rfl,rfl,by simp⟩,?_⟩
  have:=hK w.heap.size (w.heap.push (.cells (List.replicate n.toNat z).toArray e))
  rw[nF]at this
  exact this (by have:=o.push (c:=(List.replicate n.toNat z).toArray) (t:=e);simpa using this)
theorem RunVC.make0 {t e:TypeId}{l c:Operand}{agg:Bool}{zero:aVs}{by_:Nat}{n:Int}{k1 k2:IntKind}(o:Own h0 L h)(hS:dN P t e)(hE:TyI P e agg zero by_)(hl:ev s l=.int k1 0)(hc:ev s c=.int k2 n)
  (h1:0<=n) (h2:n<=9223372036854775807) (h3:by_*n<=281474976710656)
  (hK:∀ v h',pM L (row v e zero.length 0 []) λL'=>Own h0 L' h'->K v false h'):RunVC P (.makeSlice t l c) ty s h K Q :=
 .of λw hw=>by
  subst hw
  obtain⟨i,z',hi,hs,hz,hzc,hb⟩:=hE.info
  have hr:=run_make (P:=P) w t e i z' hS hi hz k1 k2 0 n (Int.le_refl _) h1 (by rw[hb];exact h3) h2
  refine⟨.slice (some ⟨w.heap.size,0,none⟩) 0 n.toNat,false,{ w with heap:=w.heap.push (.cells (madeCells z'.cells (n.toNat*i.size)) e) },by simp[execOp,hl,hc,hr],⟨rfl,rfl,rfl,by simp⟩,?_⟩
  have:=hK (.slice (some ⟨w.heap.size,0,none⟩) 0 n.toNat) (w.heap.push (.cells (madeCells z'.cells (n.toNat*i.size)) e))
  rw[nF]at this
  refine this (o.callR ⟨⟨by simp,λb hb=>by rw[Array.getElem?_push,if_neg zO]⟩,?_,?_,?_,aEI _ _⟩)
  ·intro x hx;simp only[aD5]at hx;subst hx
   refine⟨by simp,.inr ⟨w.heap.size,n.toNat,madeCells z'.cells (n.toNat*i.size),rfl,by simp,Nat.zero_le _,by simp only[maxLen];omega,by rw[size_madeCells,hs],by simp⟩⟩
  ·intro x hx b hb;simp only[aD5]at hx;subst hx;simp[row,Value.ownBlock]at hb;omega
  ·intro x hx b hb;simp only[aD5]at hx;subst hx;simp[row,Value.ownBlock]at hb;simp;omega
theorem RunVC.litA {t e:TypeId}{n:Nat}{parts:Array (Nat×Operand)}{z:Value}{by_:Nat}{vs:aVs}(o:Own h0 L h)(hS:dN P t e)(hE:TyI P e false [z] by_)
  (hp:parts.toList.map (λp=>(p.1,ev s p.2))=vs.zipIdx.map (λp=>(p.2,p.1))) (hn:vs.length=n) (h1:vs.all (λu=>u.oneCell')=true) (hsm:n<=16777216)
  (hK:∀ b h',pM L (box b vs e) λL'=>Own h0 L' h'->K (.slice (some ⟨b,0,none⟩) n n) false h'):RunVC P (.buildSlice t n parts) ty s h K Q :=
 .of λw hw=>by
  subst hw
  obtain⟨i,z',hi,hs,hz,hzc,hb⟩:=hE.info
  have hs1:i.size=1:=by simpa using hs
  have hzc1:z'.cells=#[z]:=hzc;have fillK:∀(us:aVs) (k:Nat) (cells:Array Value),us.all (λu=>u.oneCell')=true->k+us.length<=cells.size ->
    ∃ cells',Instr.fill (λi=>some (i*1,1)) cells ((us.zipIdx k).map (λp=>(p.2,p.1)))=some cells'/\cells'.size=cells.size/\(∀ j,j<k->cells'[j]?=cells[j]?)/\(∀ j,j<us.length->cells'[k+j]?=us[j]?)/\(∀ j,k+us.length<=j->cells'[j]?=cells[j]?):=by
   intro us
   induction us with
   | nil=>intro k cells _ _;exact⟨cells,by simp[Instr.fill],rfl,λ_ _=>rfl,by simp,λ_ _=>rfl⟩
   | cons u us ih =>
    intro k cells h1 hl
    simp only[aEO,aD0]at h1
    simp only[aD1]at hl
    have hu:u.cells=#[u]:=by cases u<;>simp[Value.oneCell']at h1<;>rfl
    obtain⟨c',hc',hsz,hlo,hmid,hhi⟩:=ih (k+1) (cells.setIfInBounds k u) h1.2 (by simp;omega)
    refine⟨c',?_,by rw[hsz];simp,λj hj=>by rw[hlo j zO];simp[Array.getElem?_setIfInBounds];omega,λj hj=>?_,λj hj=>?_⟩
    ·simp only[List.zipIdx_cons,aEx,Instr.fill,hu]
     have:¬ (cells.size<k*1+1):=by omega
     simp
     have e1:(cells.setIfInBounds k u)=(cells.setIfInBounds (k+0) u):=rfl
     simpa[e1,show k+1<=cells.size by omega] using hc'
    ·cases j with
     | zero=>rw[Nat.add_zero,hlo k zO];simp[Array.getElem?_setIfInBounds];omega
     | succ j =>
      have:=hmid j (by simpa using hj)
      rw[show k+(j+1)=k+1+j from by omega,this];simp
    ·simp only[aD1]at hj
     rw[hhi j zO];simp[Array.getElem?_setIfInBounds];omega
  have hzero:(parts.map λx=>match x with|(i,x)=>(i,ev s x)).toList=vs.zipIdx.map (λp=>(p.2,p.1)):=by
   rw[← hp];simp
  obtain⟨c',hc',hsz,_,hmid,_⟩:=fillK vs 0 ((Array.range (n*1)).map (λj=>(if n*1=0 then(#[]:Array Value) else z'.cells)[j % (if n*1=0 then(#[]:Array Value) else z'.cells).size]!)) h1 (by simp[hn])
  have hc:c'=vs.toArray:=by
   apply Array.ext_getElem?
   intro j;by_cases hj:j<vs.length
   ·have:=hmid j hj;rw[aEg]at this;rw[this];simp
   ·have e1:c'.size=n:=by rw[hsz];simp
    rw[Array.getElem?_eq_none zO]
    simp;omega
  subst hc
  refine⟨.slice (some ⟨w.heap.size,0,none⟩) n n,false,{ w with heap:=w.heap.push (.cells vs.toArray e) },?_,⟨rfl,rfl,rfl,by simp⟩,?_⟩
  ·have hle:¬ (16777216<n):=by omega
   by_cases h0:n=0
   ·subst h0
    simp only[Nat.zero_mul,if_true]at hc'
    simp only[Nat.mul_one]at hc'
    simp[execOp,Instr.buildSlice,run_underlying hS,sizeOf,typeInfo,hi,hs1,newRow]
    simp at hc'
    rw[hp,hc'];simp
   ·simp only[Nat.mul_one,h0,if_false]at hc'
    simp[execOp,Instr.buildSlice,run_underlying hS,sizeOf,typeInfo,zeroValue,hz,hi,hs1,newRow,hle,h0]
    rw[hp,hc'];simp
  ·have:=hK w.heap.size (w.heap.push (.cells vs.toArray e))
   rw[nF]at this
   exact this (by have:=o.push (c:=vs.toArray) (t:=e);simpa using this)
theorem nH (parts:List (Nat×Operand))(s:aVs):∀ k,parts.map (·.1)=List.range' k parts.length->parts.map (λp=>(p.1,ev s p.2))=(((parts.map (·.2)).map (ev s)).zipIdx k).map (λp=>(p.2,p.1)):=by
 induction parts with
 | nil=>intro k _;rfl
 | cons p parts ih =>
  intro k h
  simp only[aEx,aD1,List.range'_succ,List.cons.injEq]at h
  simp only[aEx,List.zipIdx_cons,List.cons.injEq]
  exact⟨by rw[h.1],ih (k+1) h.2⟩
theorem StillVC.aDG {t e:TypeId}{n:Nat}{parts:List (Nat×Operand)}{z:Value}{by_:Nat}(o:Own h0 L h)(hS:dN P t e)(hE:TyI P e false [z] by_)
  (hp:parts.map (·.1)=List.range' 0 parts.length) (hn:parts.length=n) (hsm:n<=16777216)
  (hK:zT s (parts.map (·.2)) λvs=>vs.all (λu=>u.oneCell')=true/\∀ b h',pM L (box b vs e) λL'=>Own h0 L' h'->K (.slice (some ⟨b,0,none⟩) n n) false h'):RunVC P (.buildSlice t n ⟨parts⟩) ty s h K Q:=by
 rw[pP]at hK
 exact .litA (vs:=(parts.map (·.2)).map (ev s)) o hS hE (nH parts s 0 hp) (by simpa using hn) hK.1 hsm hK.2
theorem qG {w:World}{e:TypeId}{sz:Nat}{v:Value}{n:Nat}{xs:aVs}(r:uE w.heap e sz v n xs):w.ownsRow 0 e sz v n xs :=
 ⟨r.1,r.2.imp id λ⟨g,cap,cur,a,b,c⟩=>⟨g,cap,cur,a,Nat.zero_le _,b,c⟩⟩
theorem aB2 {w:World}{e:TypeId}{sz:Nat}{v:Value}{n:Nat}{xs:aVs}(r:w.ownsRow 0 e sz v n xs):uE w.heap e sz v n xs :=
 ⟨r.1,r.2.imp id λ⟨g,cap,cur,a,_,b,c⟩=>⟨g,cap,cur,a,b,c⟩⟩
def aY (sz:Nat)(h:Heap)(v:Value)(n:Nat)(xs:aVs):Prop :=
 xs.length=n*sz/\∃ a cap,v=.slice a n cap/\n<=cap/\(n=0∨∃ b o,a=some ⟨b,o,none⟩/\∀ i,i<xs.length->bI h ⟨b,o+i,none⟩=xs[i]?)
theorem Arr.toN {h:Heap}{v:Value}{xs:aVs}(a:Arr h v xs):aY 1 h v xs.length xs:=by
 obtain⟨ad,cap,hv,hl,r⟩:=a
 exact⟨by simp,ad,cap,hv,hl,r.imp (λe=>by simp[e]) id⟩
theorem aY.to1 {h:Heap}{v:Value}{n:Nat}{xs:aVs}(a:aY 1 h v n xs):Arr h v xs:=by
 obtain⟨hl,ad,cap,hv,hc,r⟩:=a
 have:n=xs.length:=by omega
 subst this
 exact⟨ad,cap,hv,hc,r.imp (λe=>List.eq_nil_of_length_eq_zero e) id⟩
theorem aY.ext {sz:Nat}{h h':Heap}{v:Value}{n:Nat}{xs:aVs}(a:aY sz h v n xs)(e:Ext h h'):aY sz h' v n xs:=by
 obtain⟨hl,ad,cap,hv,hc,r⟩:=a
 refine⟨hl,ad,cap,hv,hc,r.imp id λ⟨b,o,ha,hc⟩=>⟨b,o,ha,λi hi=>?_⟩⟩
 have:xs[i]?=some xs[i]:=by simp[hi]
 rw[this];exact e.cell (by rw[hc i hi,this])
theorem aY.nil (sz:Nat)(h:Heap):aY sz h (.slice none 0 0) 0 []:=⟨by simp,_,_,rfl,aD6 _,.inl rfl⟩
theorem uE.arrN {h:Heap}{e:TypeId}{sz:Nat}{v:Value}{n:Nat}{xs:aVs}(r:uE h e sz v n xs):aY sz h v n xs:=by
 obtain⟨hl,r⟩:=r
 rcases r with ⟨rfl,rfl⟩|⟨g,cap,cur,rfl,hg,hn,_,hs,ht⟩
 ·exact⟨hl,_,_,rfl,aD6 _,.inl rfl⟩
 ·refine⟨hl,_,cap,rfl,hn,.inr ⟨g,0,rfl,λi hi=>?_⟩⟩
  rw[← ht,aER,if_pos zO]
  simp[bI,hg]
theorem Own.rowArrN {h0:Base}{h:Heap}{L:List Item}(o:Own h0 L h)(k:Nat) {v:Value}{e:TypeId}{sz n:Nat}{xs:aVs}(hk:L[k]?=some (row v e sz n xs)):aY sz h v n xs :=
 uE.arrN (o.sat _ (aDY hk))
theorem Own.boxRow {h0:Base}{h:Heap}{L:List Item}(o:Own h0 L h)(k:Nat) {b:Nat}{cs:aVs}{t:TypeId}(hk:L[k]?=some (box b cs t))(sz n cap:Nat)(hc:cs.length=cap*sz)(hn:n<=cap)(hm:cap<=maxLen) :
  Own h0 (L.set k (row (.slice (some ⟨b,0,none⟩) n cap) t sz n (cs.take (n*sz)))) h:=by
 have hb:h[b]?=some (.cells cs.toArray t (0,0)):=o.boxBlk k hk;refine o.set hk (aD6 _) (λ_ _ _=>rfl) ⟨?_,.inr ⟨b,cap,cs.toArray,rfl,hb,hn,hm,by simpa using hc,by simp⟩⟩ (λx hx=>.inl ?_) (λx hx=>?_)
 ·rw[aEC,hc];exact Nat.min_eq_left (Nat.mul_le_mul_right _ hn)
 ·simp[row,Value.ownBlock]at hx;exact hx.symm
 ·simp[row,Value.ownBlock]at hx;subst hx;exact(Array.getElem?_eq_some_iff.1 hb).1
theorem Own.nilRow {h0:Base}{h:Heap}{L:List Item}(o:Own h0 L h)(e:TypeId)(sz:Nat):Own h0 (L++[row (.slice none 0 0) e sz 0 []]) h:=by
 refine o.callR ⟨.refl h,?_,?_,?_,aEI _ _⟩
 ·intro x hx;simp only[aD5]at hx;subst hx;exact⟨by simp,.inl ⟨rfl,rfl⟩⟩
 ·intro x hx b hb;simp only[aD5]at hx;subst hx;simp[row,Value.ownBlock]at hb
 ·intro x hx b hb;simp only[aD5]at hx;subst hx;simp[row,Value.ownBlock]at hb
theorem StillVC.aDI {t e:TypeId}{x y:Operand}{agg:Bool}{zero:aVs}{by_:Nat}{n m:Nat}{xs ys:aVs}(o:Own h0 L h)(k:Nat)(hk:L[k]?=some (row (ev s x) e zero.length n xs))
  (hS:dN P t e) (hE:TyI P e agg zero by_) (hz:0<zero.length) (hA:aY zero.length h (ev s y) m ys) (h1:∀ u∈ys,u.oneCell'=true)
  (h63:n+m<=maxLen) (hb:(n+m)*by_<=140737488355328)
  (hK:∀ v' h',pK L k (row v' e zero.length (n+m) (xs++ys)) λL'=>Own h0 L' h'->K v' false h'):RunVC P (.call ⟨.builtin .append,⟨[x,y]⟩,⟨[t,t]⟩⟩) ty s h K Q :=
 .of λw hw=>by
  subst hw
  obtain⟨i,z',hi,hs,hz',hzc,hby⟩:=hE.info
  have hrow:uE w.heap e zero.length (ev s x) n xs:=o.sat _ (aDY hk);have hlt:∀ b,(row (ev s x) e zero.length n xs).fp b->b<w.heap.size:=o.hi _ (aDY hk)
  obtain⟨hyl,a,c,hv,_,hc⟩:=hA
  have fin:∀(v':Value) (w':World),w'.ownsRow 0 e zero.length v' (n+m) (xs++ys)->w.grownBy w' (ev s x).ownBlock->(∀ b,v'.ownBlock=some b->(ev s x).ownBlock=some b∨w.heap.size<=b)->K v' false w'.heap:=by
   intro v' w' hown hg hfp
   have:=hK v' w'.heap
   rw[tA]at this
   refine this (o.set hk hg.size (λb hb hnb=>hg.block b hb (λe=>hnb e.symm)) (aB2 hown) hfp (λb hb=>(hown.lt b hb).2))
  rcases Nat.eq_zero_or_pos m with rfl|hm
  ·have hy:ys=[]:=List.eq_nil_of_length_eq_zero (by simpa using hyl)
   subst hy
   refine⟨ev s x,false,w,?_,.refl w,?_⟩
   ·obtain⟨hxl,r⟩:=hrow
    have hz0:i.size≠0:=by omega
    rcases r with ⟨hx,rfl⟩|⟨g,cap,cur,hx,hg,hnc,hcm,hcs,ht⟩
    ·cases a with
     | none=>simp[execOp,resolve,invoke,builtin,hx,hv,Builtin.append_,run_underlying hS,sizeOf,typeInfo,hi,Builtin.lenOf,Builtin.firstCells]
     | some a=>simp[execOp,resolve,invoke,builtin,hx,hv,Builtin.append_,run_underlying hS,sizeOf,typeInfo,hi,Builtin.lenOf,Builtin.firstCells,loadCells,loadCellsFrom]
    ·cases a with
     | none=>simp[execOp,resolve,invoke,builtin,hx,hv,Builtin.append_,run_underlying hS,sizeOf,typeInfo,hi,Builtin.lenOf,Builtin.firstCells,hnc,storeCells]
     | some a=>simp[execOp,resolve,invoke,builtin,hx,hv,Builtin.append_,run_underlying hS,sizeOf,typeInfo,hi,Builtin.lenOf,Builtin.firstCells,loadCells,loadCellsFrom,hnc,storeCells]
   ·have:=fin (ev s x) w (by simpa using qG hrow) ⟨rfl,rfl,rfl,aD6 _,λ_ _ _=>rfl⟩ (λb hb=>.inl hb)
    exact this
  ·rcases hc with rfl|⟨b,off,rfl,hc⟩
   ·omega
   ·obtain⟨v',w',hr,hown,hg,hnil⟩:=run_append_own (P:=P) w 0 t ty e i z' zero.length by_ hS hi hz' hs hby (by rw[hzc];simp) hz (ev s x) n xs (qG hrow) ⟨b,off,none⟩ m c ys hyl
     (λj u hu=>by
      rw[Addr.add_lit]
      obtain⟨hj,_⟩:=aDZ.1 hu
      exact(hc j hj).trans hu) h1 h63 hb (Nat.zero_le _)
    refine⟨v',false,w',?_,⟨hg.os,hg.tape,hg.output,hg.size⟩,fin v' w' hown hg ?_⟩
    ·simp[execOp,resolve,invoke,builtin,hv,hr]
    ·intro b' hb'
     have hnews:∀ j u,ys[j]?=some u->w.cell? ((⟨b,off,none⟩:Addr).add j)=some u:=λj u hu=>by
      rw[Addr.add_lit]
      obtain⟨hj,_⟩:=aDZ.1 hu
      exact(hc j hj).trans hu
     rw[← hs]at hyl
     rw[← hby]at hb
     have h63i:((n+m:Nat):Int)<=9223372036854775807:=by simp only[maxLen]at h63;omega
     rcases hrow.2 with ⟨hx,hn0⟩|⟨g,cap,cur,hx,hgg,hnc,hcm,hcs,ht⟩
     ·subst hn0
      have hr2:=run_append_nil (P:=P) w t ty e i z' hS hi hz' ⟨b,off,none⟩ m c ys hyl hnews hm (by simpa using h63i) (by have:=hb;simp only[aEg]at this;omega)
      rw[hx,hr2]at hr
      injection hr with e1 e2
      subst e1
      simp[Value.ownBlock]at hb'
      right;omega
     ·by_cases hroom:n+m<=cap
      ·have hr2:=run_append_room (P:=P) w t ty e i hS hi g n cap cur hgg ⟨b,off,none⟩ m c ys hyl hnews h1 hroom (by rw[hyl,hcs,← hs,← Nat.add_mul];exact Nat.mul_le_mul_right _ hroom)
       rw[hx,hr2]at hr
       injection hr with e1 e2
       subst e1
       left;rw[hx];exact hb'
      ·have holds:∀ j u,xs[j]?=some u->w.cell? ((⟨g,0,none⟩:Addr).add j)=some u:=World.ownsRow.cells (qG hrow) (by rw[hx];rfl)
       have hr2:=run_append_grow (P:=P) w t ty e i z' hS hi hz' ⟨g,0,none⟩ n cap xs (by rw[hrow.1,hs]) holds ⟨b,off,none⟩ m c ys hyl hnews zO h63i (growslice_fits zO hb)
       rw[hx,hr2]at hr
       injection hr with e1 e2
       subst e1
       simp[Value.ownBlock]at hb'
       right;omega
theorem StillVC.idxB {pr:Bool}{t e:TypeId}{by_:Nat}{x i:Operand}{agg:Bool}{z:Value}{k':IntKind}{m:Int}{b n c:Nat}{cs:aVs}{t':TypeId}(_o:Own h0 L h)(k:Nat)(_hk:L[k]?=some (box b cs t'))(hS:dN P t e)(hE:TyI P e agg [z] by_)
  (hx:ev s x=.slice (some ⟨b,0,none⟩) n c) (hi:ev s i=.int k' m) (h1:0<=m) (h2:m<n) (hk:K (.pointer (some ⟨b,m.toNat,none⟩)) false h):StillVC pr P (.indexAddr t x i) ty s h K:=by
 refine .pure' _ false (λw=>?_) hk;have he:P.elem t=e:=by unfold dN at hS;simp[Program.elem,hS]
 have hS':P.underlying t=some (.slice (P.elem t)):=by rw[he];exact hS
 simp[execOp,hi,hx,run_indexAt_slice w t _ _ _ _ _ hS',h1,h2,he,hE.sizeOf,Addr.add_lit]
end
end Go.Proofs.YtohlogbnpfofpaaGreatDoor
