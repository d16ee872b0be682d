/- Part 2 of the proof of matches_lifted: VcDraw, VcMem3, VcMem4, Types, VcIface, VcDefer, VcLex, VcDraw2. -/
import Derived.Laws.StructEq
import Derived.Laws.BytesArg
import Derived.Lib.AppendStr
import Derived.Test.YtohlogbnpfofpaaGreatDoorRows
import Derived.WideLaws
import Derived.Recover
import Derived.Test.YtohlogbnpfofpaaGreatDoorPX01
set_option linter.all false
set_option maxHeartbeats 100000000
set_option maxRecDepth 100000
namespace Go.Proofs.YtohlogbnpfofpaaGreatDoor
open Go
section
variable {P : Program} {ops : Array Oper} {Q : Exit -> Act -> World -> Prop}
def wpE (P:Program)(ops:Array Oper)(Q:Exit->Act->World->Prop)(fl:Nat->Bool):Nat->Array Bool->Act->World->Prop
 | 0,listed,a,w=>Region.ready .any ops listed=[]/\Q .normal a w
 | n+1,listed,a,w =>
  (Region.ready .any ops listed=[]->Q .normal a w) /\
  ∀ i∈Region.ready .any ops listed,wpOp P ops Q i (λa' w'=>(fl i=true->Ext w.heap w'.heap)/\wpE P ops Q fl n (listed.setIfInBounds i true) a' w') a w
theorem aCv {fl:Nat->Bool}:∀(n:Nat)(listed:Array Bool)(a:Act)(w:World),wpE P ops Q fl n listed a w->wpAny P .any ops Q n listed a w
 | 0,_,_,_,h=>h
 | n+1,_,_,_,h=>⟨h.1,λi hi=>wpOp_mono (λa w h=>aCv n _ a w h.2) (h.2 i hi)⟩
def iX (P:Program)(ops:Array Oper)(o:Oper)(v:Value)(reads:List (Addr×Value))(a:Act):Prop :=
 (Region.wanted o (yielded ops a.tmps)=true/\∀ w:World,(∀ r∈reads,w.cell? r.1=some r.2)->(execOp a.eval o).run P w=.ok (.value v) w) ∨
 (Region.wanted o (yielded ops a.tmps)=false/\v=undef)
theorem iX.wpOp {i:Nat}{o:Oper}{v:Value}{reads:List (Addr×Value)}{a:Act}(hi:ops[i]?=some o)(hy:iX P ops o v reads a)
  {K:Act->World->Prop} {w:World} (hr:∀ r∈reads,w.cell? r.1=some r.2) (h:K (a.put o.dst v) w):wpOp P ops Q i K a w:=by
 unfold Go.wpOp
 simp only[hi]
 rcases hy with ⟨hw,hv⟩|⟨hw,rfl⟩
 ·simp only[hw,if_true,Oper.wp,hv w hr,Oper.upon];exact .inl h
 ·simp only[hw,aD9,if_false];exact h
theorem iX.of_same {o:Oper}{v:Value}{reads:List (Addr×Value)}{a a':Act}(hy:iX P ops o v reads a)(he:execOp a'.eval o=execOp a.eval o)
  (hw:Region.wanted o (yielded ops a'.tmps)=Region.wanted o (yielded ops a.tmps)):iX P ops o v reads a':=by
 unfold iX at *
 rw[he,hw]
 exact hy
theorem aBM {j:Nat}{oi oj:Oper}{v:Value}{reads:List (Addr×Value)}(hj:ops[j]?=some oj)(hap:oi.apart ops oj=true)
  (hsi:∀ cs b,oi.op≠.select cs b) (hsj:∀ cs b,oj.op≠.select cs b)
  (hQ:∀ c a w,Q (.panic c) (a.put oi.dst v) w->Q (.panic c) a w) {K:Act->World->Prop} {a:Act} {w:World}
  (hy:iX P ops oi v reads a) (h:wpOp P ops Q j K (a.put oi.dst v) w) :
  wpOp P ops Q j (λa' w'=>iX P ops oi v reads a'/\K (a'.put oi.dst v) w') a w:=by
 obtain⟨h1,h2,h3⟩:=Oper.apart_spec hap
 have keep:∀(a:Act),iX P ops oi v reads a->∀ u,iX P ops oi v reads (a.put oj.dst u):=λa hy u =>
  hy.of_same (execOp_put oi hsi a oj.dst u h3) (wanted_put oi a oj.dst u h3)
 have keepD:∀ d,iX P ops oi v reads { a with defers:=d::a.defers }:=λd=>hy.of_same rfl rfl;unfold wpOp at *
 simp only[hj]at *
 rw[wanted_put oj a oi.dst v h1]at h
 split
 ·rename_i hw
  simp only[hw,if_true]at h
  rcases h with h|⟨hasks,hlets⟩
  case inr=>exact .inr ⟨by unfold Oper.asks at *;rw[execOp_put oj hsj a oi.dst v h1]at hasks;exact hasks,hlets⟩
  refine .inl ?_;unfold Oper.wp at *
  rw[execOp_put oj hsj a oi.dst v h1]at h
  generalize (execOp a.eval oj).run P w=r at *
  cases r with
  | ok n w' =>
   cases n<;>simp only[Oper.upon]at h ⊢
   case value u=>exact⟨keep a hy u,by rw[← Act.put_comm a v u h2];exact h⟩
   case skip=>exact⟨keep a hy _,by rw[← Act.put_comm a v undef h2];exact h⟩
   case defer d =>
    refine⟨keep _ (keepD d) _,?_⟩
    rw[← Act.put_comm _ v undef h2,← Act.put_defers]
    exact h
   case enter f args =>
    refine Calls.mono h λe w'' he=>?_;cases e with
    | returned u=>exact⟨keep a hy u,by rw[← Act.put_comm a v u h2];exact he⟩
    | panicked c=>exact hQ _ _ _ he
    | outgrown=>exact he
   case row row args=>exact Rows.mono h λu w'' he=>⟨keep a hy u,by rw[← Act.put_comm a v u h2];exact he⟩
  | halt x w' =>
   cases x<;>simp only[Oper.upon]at h ⊢
   case panic u=>exact hQ _ _ _ h
 ·rename_i hw
  simp only[hw]at h
  exact⟨keep a hy _,by rw[← Act.put_comm a v undef h2];exact h⟩
def edges (ops:Array Oper)(j:Nat):List Nat :=
 match ops[j]? with
 | some o=>(o.after.toList.filter (Region.binds .any ·)).map (·.on)
 | none=>[]
def aC7 (acc:List Nat)(x:Nat):List Nat:=if acc.contains x then acc else x::acc
def clo (ops:Array Oper):Nat->List Nat->List Nat
 | 0,S=>S
 | n+1,S=>clo ops n (S.foldl (λacc j=>(edges ops j).foldl aC7 acc) S)
def Closed (ops:Array Oper)(listed:Array Bool):Prop:=∀ j,listed.getD j false=true->∀ e∈edges ops j,listed.getD e false=true
theorem addNew_all {p:Nat->Prop}(l acc:List Nat)(ha:∀ x∈acc,p x)(hl:∀ x∈l,p x):∀ x∈l.foldl aC7 acc,p x:=by
 induction l generalizing acc with
 | nil=>exact ha
 | cons y l ih =>
  refine ih _ ?_ (λx hx=>hl x (by simp[hx]));intro x hx;unfold aC7 at hx;split at hx
  ·exact ha x hx
  ·rcases aEd.1 hx with rfl|hx
   ·exact hl _ zS
   ·exact ha x hx
theorem rI {listed:Array Bool}(hc:Closed ops listed):∀(n:Nat)(S:List Nat),(∀ x∈S,listed.getD x false=true)->∀ x∈clo ops n S,listed.getD x false=true
 | 0,_,h=>h
 | n+1,S,h=>by
  refine rI hc n _ ?_;have key:∀(l acc:List Nat),(∀ x∈l,listed.getD x false=true)->(∀ x∈acc,listed.getD x false=true)->∀ x∈l.foldl (λacc j=>(edges ops j).foldl aC7 acc) acc,listed.getD x false=true:=by
   intro l
   induction l with
   | nil=>intro acc _ ha;exact ha
   | cons j l ih=>intro acc hl ha;exact ih _ (λx hx=>hl x (by simp[hx])) (addNew_all _ _ ha (hc j (hl j zS)))
  exact key S S h h
theorem mem_edges {j e:Nat}(h:e∈edges ops j):∃ o,ops[j]?=some o/\∃ x∈o.after,Region.binds .any x=true/\x.on=e:=by
 unfold edges at h;split at h
 ·rename_i o ho
  obtain⟨x,hx,rfl⟩:=aEL.1 h
  obtain⟨h1,h2⟩:=List.mem_filter.1 hx
  exact⟨o,ho,x,Array.mem_toList_iff.1 h1,h2,rfl⟩
 ·simp at h
theorem pI {listed:Array Bool}{j:Nat}(hj:j∈Region.ready .any ops listed):∀ e∈edges ops j,listed.getD e false=true:=by
 intro e he
 obtain⟨o,ho,x,hx,hb,rfl⟩:=mem_edges he
 obtain⟨_,o',ho',hall⟩:=mem_ready.1 hj
 rw[ho]at ho';injection ho' with ho';subst ho'
 exact hall x hx hb
theorem Closed.set {listed:Array Bool}{j:Nat}(hc:Closed ops listed)(hj:j∈Region.ready .any ops listed):Closed ops (listed.setIfInBounds j true):=by
 intro k hk e he;by_cases hkj:k=j
 ·subst hkj;exact getD_set_true (pI hj e he)
 ·rw[getD_set_ne false (Ne.symm hkj)]at hk
  exact getD_set_true (hc k hk e he)
theorem aBN {fl:Nat->Bool}{i:Nat}{oi:Oper}{v:Value}{reads:List (Addr×Value)}(hi:ops[i]?=some oi)(hsel:∀(j:Nat)(o:Oper) cs b,ops[j]?=some o->o.op≠.select cs b)
  (hQ:∀ c a w,Q (.panic c) (a.put oi.dst v) w->Q (.panic c) a w)
  (hfl:reads=[]∨∀ j,j≠i->fl j=false->i∈clo ops ops.size (edges ops j)) :
  ∀(n:Nat) (listed:Array Bool) (a:Act) (w:World),Closed ops listed ->
   (∀ j oj,ops[j]?=some oj->j≠i->listed.getD j true=false->(∀ e∈oj.after,Region.binds .any e=true->e.on≠i)->oi.apart ops oj=true) ->
   i∈Region.ready .any ops listed->iX P ops oi v reads a->(∀ r∈reads,w.cell? r.1=some r.2) ->
   wpE P ops Q fl n (listed.setIfInBounds i true) (a.put oi.dst v) w->wpE P ops Q fl (n+1) listed a w:=by
 intro n;have first:∀(n:Nat) (listed:Array Bool) (a:Act) (w:World),iX P ops oi v reads a->(∀ r∈reads,w.cell? r.1=some r.2)->wpE P ops Q fl n (listed.setIfInBounds i true) (a.put oi.dst v) w ->
   wpOp P ops Q i (λa' w'=>(fl i=true->Ext w.heap w'.heap)/\wpE P ops Q fl n (listed.setIfInBounds i true) a' w') a w:=λn listed a w hy hr H =>
  hy.wpOp hi hr ⟨λ_=>.refl _,H⟩
 induction n with
 | zero =>
  intro listed a w _ _ hr hy hrd H
  refine⟨λh=>(by rw[h]at hr;cases hr),λj hj=>?_⟩
  by_cases hji:j=i
  ·subst hji;exact first 0 listed a w hy hrd H
  ·have:=ready_mono hj hji
   rw[H.1]at this
   cases this
 | succ n ih =>
  intro listed a w hcl hfree hr hy hrd H
  refine⟨λh=>(by rw[h]at hr;cases hr),λj hj=>?_⟩
  by_cases hji:j=i
  ·subst hji;exact first (n+1) listed a w hy hrd H
  ·have h1:=H.2 j (ready_mono hj hji)
   obtain⟨hjun,oj,hoj,hall⟩:=mem_ready.1 hj
   have hiun:listed.getD i false=false:=by
    have h0:=(mem_ready.1 hr).1
    rcases Nat.lt_or_ge i listed.size with h'|h'
    ·simp[h']at h0 ⊢;exact h0
    ·simp[Array.getElem?_eq_none h']
   have hnot:∀ e∈oj.after,Region.binds .any e=true->e.on≠i:=λe he hb heq=>by
    have h1:=hall e he hb
    rw[heq,hiun]at h1;cases h1
   have hflj:reads=[]∨fl j=true:=by
    rcases hfl with h|h
    ·exact .inl h
    ·right
     cases hf:fl j with
     | true=>rfl
     | false =>
      have:=rI hcl _ _ (pI hj) i (h j hji hf)
      rw[hiun]at this;cases this
   have h2:=aBM hoj (hfree j oj hoj hji hjun hnot) (λcs b=>hsel i oi cs b hi) (λcs b=>hsel j oj cs b hoj) hQ hy h1;have hfree':∀ k ok,ops[k]?=some ok->k≠i->(listed.setIfInBounds j true).getD k true=false ->
     (∀ e∈ok.after,Region.binds .any e=true->e.on≠i)->oi.apart ops ok=true:=λk ok hk hki hun hno=>by
    refine hfree k ok hk hki ?_ hno;by_cases hjk:j=k
    ·subst hjk;exact hjun
    ·rw[getD_set_ne true hjk]at hun;exact hun
   refine wpOp_mono (λa' w' h3=>⟨h3.2.1,ih (listed.setIfInBounds j true) a' w' (hcl.set hj) hfree' (ready_mono hr (Ne.symm hji)) h3.1 ?_ ?_⟩) h2
   ·rcases hflj with rfl|hflj
    ·simp
    ·intro r hr'
     exact(h3.2.1 hflj).cell (hrd r hr')
   ·rw[Array.setIfInBounds_comm _ _ hji]
    exact h3.2.2
end
def sV:List Oper->Nat->Option Oper
 | [],_=>none
 | o::_,0=>some o
 | _::l,n+1=>sV l n
theorem qZ (l:List Oper)(n:Nat):l[n]?=sV l n:=by
 induction l generalizing n with
 | nil=>simp[sV]
 | cons o l ih=>cases n with
  | zero=>simp[sV]
  | succ n=>simpa[sV] using ih n
def vdop (P:Program)(st0 stR tails:List Nat)(i:Nat)(op:Op)(ty:TypeId)(D:List Nat)(s:aVs)(h:Heap)(K:KK)(Q:QQ):Prop :=
 bif mem st0 i then vopS true P op ty D s h K
 else bif mem stR i then vopS false P op ty D s h K
 else bif mem tails i then vop P op ty D s h K Q
 else vop P op ty D s h (λv l h'=>Ext h h'/\K v l h') Q
def vostep (P:Program)(L:List Oper)(st0 stR tails:List Nat)(i:Nat)(ih:List Nat->aVs->Heap->QQ->Prop)(D:List Nat)(s:aVs)(h:Heap)(Q:QQ):Prop :=
  match sV L i with
  | none=>False
  | some ⟨dst,op,ty,_,_,none⟩ =>
   vdop P st0 stR tails i op ty D s h (λv l h'=>eI s dst v λs'=>ih (gU D dst l) s' h' Q) Q
  | some ⟨dst,op,ty,_,_,some (j,want)⟩ =>
   match nG L j with
   | none=>False
   | some g =>
    match mem D g with
    | true =>
     (match sget s g with
     | .bool true =>
      (match want with
      | true=>vdop P st0 stR tails i op ty D s h (λv l h'=>eI s dst v λs'=>ih (gU D dst l) s' h' Q) Q
      | false=>eI s dst undef λs'=>ih (gU D dst false) s' h Q)
     | .bool false =>
      (match want with
      | true=>eI s dst undef λs'=>ih (gU D dst false) s' h Q
      | false=>vdop P st0 stR tails i op ty D s h (λv l h'=>eI s dst v λs'=>ih (gU D dst l) s' h' Q) Q)
     | _=>eI s dst undef λs'=>ih (gU D dst false) s' h Q)
    | false =>
     (match sget s g with
     | .bool t =>
      Br t
       (oP s g (.bool true) λs =>
        match want with
        | true=>vdop P st0 stR tails i op ty (g::D) s h (λv l h'=>eI s dst v λs'=>ih (gU (g::D) dst l) s' h' Q) Q
        | false=>eI s dst undef λs'=>ih (gU (g::D) dst false) s' h Q)
       (oP s g (.bool false) λs =>
        match want with
        | true=>eI s dst undef λs'=>ih (gU (g::D) dst false) s' h Q
        | false=>vdop P st0 stR tails i op ty (g::D) s h (λv l h'=>eI s dst v λs'=>ih (gU (g::D) dst l) s' h' Q) Q)
     | _=>eI s dst undef λs'=>ih (gU D dst false) s' h Q)
def vord (P:Program)(L:List Oper)(st0 stR tails:List Nat)(l:List Nat):List Nat->aVs->Heap->QQ->Prop :=
 List.rec (motive:=λ_=>List Nat->aVs->Heap->QQ->Prop) (λ_ s h Q=>Q .normal s h) (λi _ ih=>vostep P L st0 stR tails i ih) l
theorem vord_cons (P:Program)(L:List Oper)(st0 stR tails:List Nat)(i:Nat)(rest D:List Nat)(s:aVs)(h:Heap)(Q:QQ):vord P L st0 stR tails (i::rest) D s h Q=vostep P L st0 stR tails i (vord P L st0 stR tails rest) D s h Q:=rfl
def rT (ops:Array Oper)(st0 stR:List Nat):List Nat->Array Bool->Bool
 | [],listed=>(Region.ready .any ops listed).isEmpty
 | i::rest,listed =>
  ((bif mem st0 i||mem stR i then(Region.ready .any ops listed).contains i&&Region.free .any ops listed i else(Region.ready .any ops listed) == [i]) &&
   rT ops st0 stR rest (listed.setIfInBounds i true))
def jV (ops:Array Oper)(stR tails:List Nat):Bool :=
 tails.all λj=>stR.all λi=>i == j||(clo ops ops.size (edges ops j)).contains i
def tL (ops:Array Oper)(st0 stR tails ord:List Nat):Bool :=
 Region.noSelect ops&&jV ops stR tails&&rT ops st0 stR ord (Array.replicate ops.size false)
section
variable {P : Program} {ops : Array Oper} {Q : QQ} {w0 : World} {ds : List Deferred} {st0 stR tails : List Nat}
theorem mem_iff (l:List Nat)(n:Nat):mem l n=true↔n∈l:=by
 induction l with
 | nil=>simp[mem]
 | cons x l ih =>
  simp only[mem,aEd]
  cases hb:Nat.beq x n with
  | true=>have:=aEK hb;simp[this]
  | false=>have:=Nat.ne_of_beq_eq_false hb;simp[ih,Ne.symm this]
theorem wB (hp:∀ c s s' h,Q (.panic c) s h->Q (.panic c) s' h)(d:Option Tmp)(v:Value):∀ c a w,lift w0 ds Q (.panic c) (Act.put a d v) w->lift w0 ds Q (.panic c) a w:=by
 rintro c a w ⟨s,ha,hs,hq⟩
 refine⟨a.tmps.toList,?_,hs,hp c _ _ _ hq⟩
 have hd:(a.put d v).defers=ds:=by rw[ha];rfl
 have hd':a.defers=ds:=by cases d<;>exact hd
 cases a;simp only at hd';subst hd';simp[act]
theorem aBS {listed:Array Bool}{i n:Nat}{o:Oper}{s:aVs}{w:World}(hp:∀ c s s' h,Q (.panic c) s h->Q (.panic c) s' h)(hsel:Region.noSelect ops=true)
  (hi:ops[i]?=some o) (hw:Region.wanted o (yielded ops (act s ds).tmps)=false) (hcl:Closed ops listed)
  (hok:(bif mem st0 i||mem stR i then(Region.ready .any ops listed).contains i&&Region.free .any ops listed i else(Region.ready .any ops listed) == [i])=true)
  (ih:wpE P ops (lift w0 ds Q) (λj=>!mem tails j) n (listed.setIfInBounds i true) ((act s ds).put o.dst undef) w) :
  wpE P ops (lift w0 ds Q) (λj=>!mem tails j) (n+1) listed (act s ds) w:=by
 cases hc:(mem st0 i||mem stR i) with
 | true =>
  rw[hc]at hok
  simp only[cond_true,aD0]at hok
  exact aBN hi (Region.noSelect_spec hsel) (wB hp _ _) (.inl rfl) n listed _ w hcl (Region.free_spec hi hok.2) (by simpa using hok.1) (.inr ⟨hw,rfl⟩) zS ih
 | false =>
  rw[hc]at hok
  simp only[cond_false,beq_iff_eq]at hok
  refine⟨λh=>(by rw[h]at hok;cases hok),λj hj=>?_⟩
  rw[hok]at hj
  simp only[aD5]at hj;subst hj
  unfold wpOp
  simp only[hi,hw,aD9,if_false]
  exact⟨λ_=>.refl _,ih⟩
theorem step_run {listed:Array Bool}{i n:Nat}{dst:Option Tmp}{op:Op}{ty:TypeId}{pos:String}{after:Array Edge}{guard:Option (Nat×Bool)}{D:List Nat}{s:aVs}{w:World}{K:KK}
  (hp:∀ c s s' h,Q (.panic c) s h->Q (.panic c) s' h) (hsel:Region.noSelect ops=true) (htails:jV ops stR tails=true)
  (hi:ops[i]?=some ⟨dst,op,ty,pos,after,guard⟩) (hw:Region.wanted ⟨dst,op,ty,pos,after,guard⟩ (yielded ops (act s ds).tmps)=true) (hcl:Closed ops listed) (hs:Same w0 w)
  (hok:(bif mem st0 i||mem stR i then(Region.ready .any ops listed).contains i&&Region.free .any ops listed i else(Region.ready .any ops listed) == [i])=true)
  (hv:vdop P st0 stR tails i op ty D s w.heap K Q)
  (ih:∀ v l w',Same w0 w'->K v l w'.heap->wpE P ops (lift w0 ds Q) (λj=>!mem tails j) n (listed.setIfInBounds i true) ((act s ds).put dst v) w') :
  wpE P ops (lift w0 ds Q) (λj=>!mem tails j) (n+1) listed (act s ds) w:=by
 have still:∀ pr:Bool,(mem st0 i||mem stR i)=true->(pr=true∨mem stR i=true)->vopS pr P op ty D s w.heap K->wpE P ops (lift w0 ds Q) (λj=>!mem tails j) (n+1) listed (act s ds) w:=by
  intro pr hc hpr hv
  rw[hc]at hok
  simp only[cond_true,aD0]at hok
  obtain⟨v,l,reads,hre,hr,hrun,hk⟩:=(oM hv).ex
  refine aBN (oi:=⟨dst,op,ty,pos,after,guard⟩) (v:=v) (reads:=reads) hi (Region.noSelect_spec hsel) (wB hp _ _) ?_ n listed _ w hcl (Region.free_spec hi hok.2) (by simpa using hok.1) (.inl ⟨hw,λw hw'=>?_⟩) (λr hm=>hr r hm) (ih v l w hs hk)
  ·rcases hpr with rfl|hm
   ·exact .inl (hre rfl)
   ·right
    intro j hne hf;have hjt:j∈tails:=by rw[← mem_iff];simpa using hf
    have:=aD4.1 (aD4.1 htails j hjt) i ((mem_iff _ _).1 hm)
    simp only[aEB,beq_iff_eq]at this
    rcases this with h|h
    ·exact absurd h.symm hne
    ·simpa using h
  ·rw[fV,eU];exact hrun w hw'
 unfold vdop at hv;cases h0:mem st0 i with
 | true=>rw[h0]at hv;exact still true (by simp[h0]) (.inl rfl) hv
 | false =>
  rw[h0]at hv
  simp only[cond_false]at hv
  cases hR:mem stR i with
  | true=>rw[hR]at hv;exact still false (by simp[hR]) (.inr hR) hv
  | false =>
   rw[hR]at hv
   simp only[cond_false]at hv
   rw[h0,hR]at hok
   simp only[Bool.or_false,cond_false,beq_iff_eq]at hok
   have fin:∀ K':KK,(∀ v l h',K' v l h'->(mem tails i=false->Ext w.heap h')/\K v l h')->vop P op ty D s w.heap K' Q->wpE P ops (lift w0 ds Q) (λj=>!mem tails j) (n+1) listed (act s ds) w:=by
    intro K' hK' hv'
    refine⟨λh=>(by rw[h]at hok;cases hok),λj hj=>?_⟩
    rw[hok]at hj
    simp only[aD5]at hj;subst hj
    unfold wpOp
    simp only[hi,hw,if_true]
    exact .inl ((nZ hv').run w rfl ds dst pos after guard _ _
     (λv l w' hw' hk=>⟨λhf=>(hK' v l _ hk).1 (by simpa using hf),ih v l w' (hs.trans hw') (hK' v l _ hk).2⟩)
     (λc w' hw' hq=>⟨s,rfl,hs.trans hw',hq⟩))
   cases ht:mem tails i with
   | true=>rw[ht]at hv;exact fin K (λv l h' hk=>⟨λh=>(by rw[ht]at h;cases h),hk⟩) hv
   | false=>rw[ht]at hv;exact fin _ (λv l h' hk=>⟨λ_=>hk.1,hk.2⟩) hv
theorem uM (hp:∀ c s s' h,Q (.panic c) s h->Q (.panic c) s' h)(hsel:Region.noSelect ops=true)(htails:jV ops stR tails=true) :
  ∀(ord:List Nat) (D:List Nat) (s:aVs) (w:World) (listed:Array Bool),Same w0 w->Closed ops listed->rT ops st0 stR ord listed=true->vord P ops.toList st0 stR tails ord D s w.heap Q ->
   wpE P ops (lift w0 ds Q) (λj=>!mem tails j) ord.length listed (act s ds) w
 | [],D,s,w,listed,hs,_,hok,hv=>⟨by simpa[rT] using hok,s,rfl,hs,hv⟩
 | i::rest,D,s,w,listed,hs,hcl,hok,hv=>by
  simp only[rT,aD0]at hok
  obtain⟨hok,hrest⟩:=hok
  have hready:i∈Region.ready .any ops listed:=by
   cases hc:(mem st0 i||mem stR i) with
   | true=>rw[hc]at hok;simp only[cond_true,aD0]at hok;simpa using hok.1
   | false=>rw[hc]at hok;simp only[cond_false,beq_iff_eq]at hok;rw[hok];simp
  have hcl':=hcl.set hready;have goOn:∀ D s (w:World),Same w0 w->vord P ops.toList st0 stR tails rest D s w.heap Q->wpE P ops (lift w0 ds Q) (λj=>!mem tails j) rest.length (listed.setIfInBounds i true) (act s ds) w :=
   λD s w hs hv=>uM hp hsel htails rest D s w _ hs hcl' hrest hv
  simp only[vord_cons,vostep]at hv
  cases ho:sV ops.toList i with
  | none=>simp[ho]at hv
  | some o =>
   have hi:ops[i]?=some o:=by rw[← ho,← qZ];simp
   obtain⟨dst,op,ty,pos,after,guard⟩:=o
   have run:∀ D D' s,Region.wanted ⟨dst,op,ty,pos,after,guard⟩ (yielded ops (act s ds).tmps)=true ->
     vdop P st0 stR tails i op ty D s w.heap (λv l h'=>eI s dst v λs'=>vord P ops.toList st0 stR tails rest (gU D' dst l) s' h' Q) Q ->
     wpE P ops (lift w0 ds Q) (λj=>!mem tails j) (rest.length+1) listed (act s ds) w:=λD D' s hw hv =>
    step_run hp hsel htails hi hw hcl hs hok hv λv l w' hs' hk=>by rw[iD];rw[gQ]at hk;exact goOn _ _ _ hs' hk
   have skip:∀ D s,Region.wanted ⟨dst,op,ty,pos,after,guard⟩ (yielded ops (act s ds).tmps)=false ->
     (eI s dst undef λs'=>vord P ops.toList st0 stR tails rest D s' w.heap Q) ->
     wpE P ops (lift w0 ds Q) (λj=>!mem tails j) (rest.length+1) listed (act s ds) w:=λD s hw hk =>
    aBS hp hsel hi hw hcl hok (by rw[iD];rw[gQ]at hk;exact goOn _ _ _ hs hk)
   cases guard with
   | none=>simp only[ho]at hv;exact run _ _ _ (by simp[Region.wanted]) hv
   | some gw =>
    obtain⟨j,want⟩:=gw
    simp only[ho]at hv
    cases hd:nG ops.toList j with
    | none=>simp[hd]at hv
    | some g =>
     simp only[hd]at hv
     cases hm:mem D g with
     | true =>
      simp only[hm]at hv
      split at hv
      ·rename_i hg
       have hy:=dZ (ds:=ds) hd hg;cases want with
       | true=>exact run _ _ _ (by simp[Region.wanted,hy]) hv
       | false=>exact skip _ _ (by simp[Region.wanted,hy]) hv
      ·rename_i hg
       have hy:=dZ (ds:=ds) hd hg;cases want with
       | false=>exact run _ _ _ (by simp[Region.wanted,hy]) hv
       | true=>exact skip _ _ (by simp[Region.wanted,hy]) hv
      ·rename_i h1 h2
       have hy:=eY (ds:=ds) (s:=s) hd (λt e=>match t,e with|true,e=>h1 e|false,e=>h2 e);exact skip _ _ (by simp[Region.wanted,hy]) hv
     | false =>
      simp only[hm]at hv
      split at hv
      ·rename_i t hg
       have hy:=dZ (ds:=ds) hd hg;cases t with
       | true =>
        have hv:=hv.y rfl
        rw[gA,hG s g _ hg]at hv
        cases want with
        | true=>exact run _ _ _ (by simp[Region.wanted,hy]) hv
        | false=>exact skip _ _ (by simp[Region.wanted,hy]) hv
       | false =>
        have hv:=hv.n rfl
        rw[gA,hG s g _ hg]at hv
        cases want with
        | false=>exact run _ _ _ (by simp[Region.wanted,hy]) hv
        | true=>exact skip _ _ (by simp[Region.wanted,hy]) hv
      ·rename_i h1
       have hy:=eY (ds:=ds) (s:=s) hd (λt e=>h1 t e);exact skip _ _ (by simp[Region.wanted,hy]) hv
theorem StillVC.aDM {id:Nat}{s:aVs}{h:Heap}(st0 stR tails ord:List Nat)(hm:P.follows .mixedOrders=true)(hok:tL ops st0 stR tails ord=true)(hlen:ord.length=ops.size)
  (hp:∀ c s s' h,Q (.panic c) s h->Q (.panic c) s' h) (hv:vord P ops.toList st0 stR tails ord [] s h Q):DrawVC P id ops s h Q where
 wp w0 w ds hw hs:=by
  subst hw
  simp only[tL,aD0]at hok
  refine wp_region_any hm (aCv (fl:=λj=>!mem tails j) _ _ _ _ ?_);have hcl:Closed ops (Array.replicate ops.size false):=by
   intro j hj
   exfalso
   by_cases hlt:j<ops.size<;>simp[hlt]at hj
  have:=uM (P:=P) (w0:=w0) (ds:=ds) hp hok.1.1 hok.1.2 ord [] s { w with drawn:=w.drawn+1 } _ (hs.trans ⟨rfl,rfl,rfl,by simp⟩) hcl hok.2 hv
  rw[hlen]at this
  exact this
end
abbrev strs (ss:List aBs):aVs:=ss.map λl=>Value.string ⟨⟨l⟩⟩
abbrev bytes (bs:aBs):aVs:=bs.map λb=>Value.int .u8 b.toNat
theorem getx {α:Type}{l:List α}{i:Nat}(h:i<l.length):∃ x,l[i]?=some x:=⟨l[i],by simp[h]⟩
section
variable {P : Program} {ty : TypeId} {s : aVs} {h0 : Base} {h : Heap} {L : List Item} {K : KK} {Q : QQ} {pr : Bool}
theorem StillVC.aDv {t e:TypeId}{x:Operand}{xs:aVs}{n:Nat}(hA:Arr h (ev s x) xs)(hn:xs.length=n)(hS:dN P t e)(hk:K (.int .i64 n) false h):StillVC pr P (.call ⟨.builtin .len,⟨[x]⟩,⟨[t]⟩⟩) ty s h K :=
 .lenA hA hS (by rw[hn];exact hk)
theorem StillVC.aDw {t e:TypeId}{x:Operand}{sz n:Nat}{xs:aVs}(hA:aY sz h (ev s x) n xs)(hS:dN P t e)(hk:K (.int .i64 n) false h):StillVC pr P (.call ⟨.builtin .len,⟨[x]⟩,⟨[t]⟩⟩) ty s h K:=by
 obtain⟨_,a,cap,hv,_,_⟩:=hA
 refine .pure' _ false (λw=>?_) hk
 simp[execOp,resolve,invoke,builtin,hv,Builtin.len_,run_underlying hS,goInt]
theorem StillVC.aDz {t e:TypeId}{x:Operand}{a:Option Addr}{n c:Nat}(hx:ev s x=.slice a n c)(hS:dN P t e)(hk:K (.int .i64 n) false h):StillVC pr P (.call ⟨.builtin .len,⟨[x]⟩,⟨[t]⟩⟩) ty s h K:=by
 refine .pure' _ false (λw=>?_) hk
 simp[execOp,resolve,invoke,builtin,hx,Builtin.len_,run_underlying hS,goInt]
theorem StillVC.aDq {α:Type}{t:TypeId}{x:Operand}{zero:aVs}{by_:Nat}{v:Value}{f:α->Value}{ys:List α}{y:α}{i:Nat}(hA:Arr h v (ys.map f))(hT:TyI P t false zero by_)(hx:ev s x=adr v i)(hy:ys[i]?=some y)(hk:K (f y) false h):StillVC false P (.load t x) ty s h K :=
 .loadA hA hT hx (by simp[hy]) hk
theorem aB1 {t e:TypeId}{a:Option Addr}{n c:Nat}(hS:dN P t e)(w:World):(Op.equal t (.slice a n c) (.slice none 0 0)).run P w=.ok a.isNone w:=by
 show(Op.equalIn (9999+1) t (.slice a n c) (.slice none 0 0)).run P w=_
 generalize 9999=d
 cases a<;>simp[Op.equalIn,run_underlying hS]
theorem StillVC.eqNil {t t' e:TypeId}{x y:Operand}{a:Option Addr}{n c:Nat}(hS:dN P t e)(hx:ev s x=.slice a n c)(hy:ev s y=.slice none 0 0)(hk:K (.bool a.isNone) false h):StillVC pr P (.binOp .eql t x y t') ty s h K :=
 .pure' _ false (λw=>by simp[execOp,hx,hy,eqGuard_at_slice,binOp,aB1 hS]) hk
theorem StillVC.neNil {t t' e:TypeId}{x y:Operand}{a:Option Addr}{n c:Nat}(hS:dN P t e)(hx:ev s x=.slice a n c)(hy:ev s y=.slice none 0 0)(hk:K (.bool (!a.isNone)) false h):StillVC pr P (.binOp .neq t x y t') ty s h K :=
 .pure' _ false (λw=>by simp[execOp,hx,hy,eqGuard_at_slice,binOp,aB1 hS]) hk
def scEq:Value->Value->Option Bool
 | .int k a,.int k' b=>bif Nat.beq (kn k) (kn k') then some (decide (a=b)) else none
 | .string ⟨⟨a⟩⟩,.string ⟨⟨b⟩⟩=>some (decide (a=b))
 | .bool a,.bool b=>some (decide (a=b))
 | _,_=>none
def rK (xs ys:aVs):List Nat->Option Bool
 | []=>some true
 | o::os =>
  match xs[o]?,ys[o]? with
  | some a,some b=>(match scEq a b,rK xs ys os with
   | some p,some q=>some (p&&q)
   | _,_=>none)
  | _,_=>none
def pU:Option TypeDesc->Nat
 | some .bool=>1
 | some (.int _)=>2
 | some .string=>3
 | _=>0
def kE:Value->Nat
 | .bool _=>1
 | .int _ _=>2
 | .string _=>3
 | _=>0
def xE (P:Program)(t:TypeId)(os:List (Nat×Nat)):Bool :=
 (match P.underlying t with
 | some (.struct fields)=>fields.toList.map (λf=>(f.offset,pU (P.underlying f.type))) == os&&fields.toList.all (λf=>f.name != "_"&&!mM ((P.underlying f.type).getD .bool) )
 | _=>false)&&!P.stoodInHeld t&&!P.eqGuardType P.depth t&&os.all (λo=>o.2 != 0)
theorem nR {d:Nat}{t:TypeId}{a b:Value}{r:Bool}(w:World)(hk:pU (P.underlying t)=kE a)(h0:kE a≠0)(he:scEq a b=some r):(Op.equalIn (d+1) t a b).run P w=.ok r w:=by
 unfold scEq at he;split at he
 ·rename_i k x k' y
  cases hu:P.underlying t with
  | none=>rw[hu]at hk;exact absurd hk.symm h0
  | some u =>
   rw[hu]at hk
   cases hb:Nat.beq (kn k) (kn k') with
   | false=>rw[hb]at he;cases he
   | true =>
    rw[hb]at he;simp only[cond_true,Option.some.injEq]at he;subst he
    have:=kn_inj hb;subst this
    cases u<;>simp[pU,kE]at hk
    rw[run_equalIn_int w d t k _ x y hu,wI]
 ·rename_i x y
  simp only[Option.some.injEq]at he;subst he
  cases hu:P.underlying t with
  | none=>rw[hu]at hk;exact absurd hk.symm h0
  | some u =>
   rw[hu]at hk
   cases u<;>simp[pU,kE]at hk
   rw[run_equalIn_string w d t _ _ hu,aBP,aBP,wI]
 ·rename_i x y
  simp only[Option.some.injEq]at he;subst he
  cases hu:P.underlying t with
  | none=>rw[hu]at hk;exact absurd hk.symm h0
  | some u =>
   rw[hu]at hk
   cases u<;>simp[pU,kE]at hk
   rw[run_equalIn_bool w d t x y hu,wI]
 ·cases he
theorem aCB {d:Nat}{xs ys:aVs}(w:World):∀(fs:List Field)(os:List (Nat×Nat))(r:Bool),fs.map (λf=>(f.offset,pU (P.underlying f.type)))=os->(∀ f∈fs,f.name ≠ "_"/\∃ u,P.underlying f.type=some u/\mM u=false) ->
  (∀ o∈os,o.2≠0)->(∀ o∈os,∀ a,xs[o.1]?=some a->kE a=o.2)->rK xs ys (os.map (·.1))=some r->(Op.eqFields (d+1) ⟨xs⟩ ⟨ys⟩ fs).run P w=.ok r w:=by
 intro fs
 induction fs with
 | nil=>intro os r h _ _ _ he;subst h;simp[rK]at he;subst he;simp[Op.eqFields]
 | cons f fs ih =>
  intro os r h hf ho hx he;subst h
  simp only[aEx,rK]at he
  split at he
  ·rename_i a b ha hb
   split at he
   ·rename_i p q hp hq
    simp only[Option.some.injEq]at he;subst he
    obtain⟨hn,u,hu,hagg⟩:=hf f zS
    have hka:=hx (f.offset,pU (P.underlying f.type)) zS a ha;have h0:=ho (f.offset,pU (P.underlying f.type)) zS;have hr:=nR (P:=P) (d:=d) (t:=f.type) (a:=a) (b:=b) w hka.symm (by rw[hka];exact h0) hp;have hIs:(isAgg f.type).run P w=.ok false w:=by
     simp only[isAgg,Sem.run_bind,run_underlying hu,Result.andThen_ok]
     revert hagg;cases u<;>simp[mM]
    have ih':=ih _ q rfl (λg hg=>hf g (by simp[hg])) (λo hm=>ho o (by simp only[aEx,aEd];exact .inr hm)) (λo hm=>hx o (by simp only[aEx,aEd];exact .inr hm)) hq;have ea:(part f.type (⟨xs⟩:Array Value) f.offset).run P w=.ok a w:=by simp[part,hIs,ha]
    have eb:(part f.type (⟨ys⟩:Array Value) f.offset).run P w=.ok b w:=by simp[part,hIs,hb]
    simp only[Op.eqFields,Sem.run_bind,Sem.run_ite]
    rw[if_pos hn,ea]
    simp only[Result.andThen_ok]
    rw[eb]
    simp only[Result.andThen_ok]
    rw[hr]
    simp only[Result.andThen_ok]
    cases p
    ·simp
    ·simpa using ih'
   ·cases he
  ·cases he
theorem run_eqS {t:TypeId}{xs ys:aVs}{os:List (Nat×Nat)}{r:Bool}(hp:xE P t os=true)
  (hk:os.all (λo=>match xs[o.1]? with|some a=>kE a == o.2|none=>true)=true) (he:rK xs ys (os.map (·.1))=some r) (w:World) :
  P.eqGuardType P.depth t=false/\(Op.equalIn 10000 t (.agg ⟨xs⟩) (.agg ⟨ys⟩)).run P w=.ok r w:=by
 simp only[xE,aD0]at hp
 obtain⟨⟨⟨hp,h1⟩,h2⟩,h3⟩:=hp
 refine⟨by simpa using h2,?_⟩
 split at hp
 ·rename_i fields hf
  simp only[aD0,beq_iff_eq]at hp
  have hfo:P.fieldsOf t=fields:=by simp[Program.fieldsOf,hf]
  have hst:P.stoodInHeld t=false:=by simpa using h1
  have e0:=run_equalIn_struct (P:=P) w 9999 t ⟨xs⟩ ⟨ys⟩ (by rw[hfo];exact hf) hst
  rw[e0,hfo]
  refine aCB (d:=9998) w fields.toList os r hp.1 (λf hm=>?_) (λo hm=>?_) (λo hm a ha=>?_) he
  ·have:=aD4.1 hp.2 f hm
   simp only[aD0,bne_iff_ne,ne_eq,aEn]at this
   refine⟨this.1,?_⟩
   have hz:=aD4.1 h3 (f.offset,pU (P.underlying f.type)) (by rw[← hp.1];exact aEL.2 ⟨f,hm,rfl⟩);cases hu:P.underlying f.type with
   | none=>rw[hu]at hz;simp[pU]at hz
   | some u=>refine⟨u,rfl,?_⟩;have h5:=this.2;rw[hu]at h5;exact h5
  ·have:=aD4.1 h3 o hm;simpa using this
  ·have:=aD4.1 hk o hm;rw[ha]at this;simpa using this
 ·simp at hp
theorem StillVC.eqS {t t':TypeId}{x y:Operand}{xs ys:aVs}{os:List (Nat×Nat)}{r:Bool}(hp:xE P t os=true)(hx:ev s x=.agg ⟨xs⟩)(hy:ev s y=.agg ⟨ys⟩)
  (hk:os.all (λo=>match xs[o.1]? with|some a=>kE a == o.2|none=>true)=true) (he:rK xs ys (os.map (·.1))=some r) (hK:K (.bool r) false h):StillVC pr P (.binOp .eql t x y t') ty s h K :=
 .pure' _ false (λw=>by
  obtain⟨hg,hr⟩:=run_eqS (P:=P) hp hk he w
  simp only[execOp,hx,hy,Sem.run_bind,run_eqGuard_agg w .eql t x y _ _ hg,Result.andThen_ok,run_eql_struct,hr,Sem.run_pure]) hK
theorem StillVC.neS {t t':TypeId}{x y:Operand}{xs ys:aVs}{os:List (Nat×Nat)}{r:Bool}(hp:xE P t os=true)(hx:ev s x=.agg ⟨xs⟩)(hy:ev s y=.agg ⟨ys⟩)
  (hk:os.all (λo=>match xs[o.1]? with|some a=>kE a == o.2|none=>true)=true) (he:rK xs ys (os.map (·.1))=some r) (hK:K (.bool (!r)) false h):StillVC pr P (.binOp .neq t x y t') ty s h K :=
 .pure' _ false (λw=>by
  obtain⟨hg,hr⟩:=run_eqS (P:=P) hp hk he w
  simp only[execOp,hx,hy,Sem.run_bind,run_eqGuard_agg w .neq t x y _ _ hg,Result.andThen_ok,run_neq_struct,hr,Sem.run_pure]) hK
theorem StillVC.aDx {t:TypeId}{x:Operand}{lo hi:Option Operand}{cs:aBs}{i j:Int}(hS:P.underlying t=some .string)(hx:ev s x=sv cs)
  (hl:match lo with|none=>i=0|some l=>∃ k,ev s l=.int k i) (hm:match hi with|none=>j=cs.length|some m=>∃ k,ev s m=.int k j) (h0:0<=i) (h1:i<=j) (h2:j<=cs.length)
  (hk:K (sv ((cs.take j.toNat).drop i.toNat)) false h):StillVC pr P (.slice t x lo hi none) ty s h K:=by
 refine .pure' _ false (λw=>?_) hk;have hz:(⟨⟨cs⟩⟩:ByteArray).size=cs.length:=rfl;have hex:∀ p q:Nat,(⟨⟨cs⟩⟩:ByteArray).extract p q=⟨⟨(cs.take q).drop p⟩⟩:=by
  intro p q
  have:((⟨⟨cs⟩⟩:ByteArray).extract p q).data=(⟨cs⟩:Array UInt8).extract p q:=by simp
  cases hh:(⟨⟨cs⟩⟩:ByteArray).extract p q with
  | mk d =>
   rw[hh]at this
   simp only at this
   rw[this]
   simp[List.extract_eq_take_drop,List.drop_take]
 have bound:∀(k:IntKind) (n:Int) (y:Nat) (c:BoundsCode),0<=n->n<=y->(Instr.sliceBound (.int k n) y c).run P w=.ok n.toNat w:=λk n y c a b=>run_sliceBound w k n y c a b;have hjn:((j.toNat:Nat):Int)=j:=Int.toNat_of_nonneg zO;cases lo with
 | none =>
  simp only at hl;subst hl;cases hi with
  | none=>simp only at hm;subst hm;simp[execOp,hx,Instr.sliceAt,Instr.slice,run_underlying hS,Instr.sliceBounds]
  | some m=>obtain⟨k,hm⟩:=hm;simp[execOp,hx,hm,Instr.sliceAt,Instr.slice,run_underlying hS,Instr.sliceBounds,hz,hex,bound _ _ _ _ (by omega:0<=j) h2]
 | some l =>
  obtain⟨k,hl⟩:=hl
  cases hi with
  | none=>simp only at hm;subst hm;simp[execOp,hx,hl,Instr.sliceAt,Instr.slice,run_underlying hS,Instr.sliceBounds,hz,hex,bound _ _ _ _ h0 h1]
  | some m=>obtain⟨k',hm⟩:=hm;simp[execOp,hx,hl,hm,Instr.sliceAt,Instr.slice,run_underlying hS,Instr.sliceBounds,hz,hex,bound _ _ _ _ (by omega:0<=j) h2,bound _ _ _ _ h0 (show i<=(j.toNat:Nat) by omega)]
def ro (v:Value)(xs:aVs):Item where
 fp x:=v.ownBlock=some x
 sat h:=Arr h v xs
 loc h h' e:=λ⟨a,cap,hv,hl,r⟩=>⟨a,cap,hv,hl,r.imp id λ⟨b,o,ha,hc⟩=>⟨b,o,ha,λi hi=>by
  rw[iW (e b (by rw[hv,ha];rfl))];exact hc i hi⟩⟩
theorem Own.roArr (o:Own h0 L h)(k:Nat) {v:Value}{xs:aVs}(hk:L[k]?=some (ro v xs)):Arr h v xs:=o.sat _ (aDY hk)
theorem Own.nilRo (o:Own h0 L h):Own h0 (L++[ro (.slice none 0 0) []]) h:=by
 refine o.callR ⟨.refl h,?_,?_,?_,aEI _ _⟩
 ·intro x hx;simp only[aD5]at hx;subst hx;exact Arr.nil h
 ·intro x hx b hb;simp only[aD5]at hx;subst hx;simp[ro,Value.ownBlock]at hb
 ·intro x hx b hb;simp only[aD5]at hx;subst hx;simp[ro,Value.ownBlock]at hb
theorem RunVC.strBytes {src dst e:TypeId}{x:Operand}{l:aBs}(o:Own h0 L h)(hs:P.underlying src=some .string)(hd:dN P dst e)(he:P.underlying e=some (.int .u8))(hx:ev s x=sv l)
  (hK:∀ v h',pM L (ro v (bytes l)) λL'=>Own h0 L' h'->K v false h'):RunVC P (.convert src dst x) ty s h K Q :=
 .of λw hw=>by
  subst hw;generalize hc:(Question.appendCap l.length 0 e).cut (w.tape w.drawn (.appendCap l.length 0 e))=c;have hcl:l.length<=c:=by rw[← hc];simp[Question.cut]
  let cells:Array Value:=(bytes l).toArray++Array.replicate (c - l.length) (.int .u8 0)
  have hcs:cells.size=c:=by simp[cells];omega
  let w1:World:={ w with heap:=w.heap.push (.cells cells e),drawn:=w.drawn+1 }
  have hheap:(w1.freeze { block:=w.heap.size,off:=cells.size } 1).heap=w.heap.push (.cells cells e (cells.size,cells.size+1)):=by
   simp only[World.freeze,w1]
   apply Array.ext_getElem?
   intro i
   simp only[Nat.one_ne_zero,if_false,Array.getElem?_modify,Array.getElem?_push]
   by_cases hi:w.heap.size=i
   ·subst hi;simp
   ·simp[hi,Ne.symm hi]
  refine⟨.slice (some ⟨w.heap.size,0,none⟩) l.length c,false,w1.freeze { block:=w.heap.size,off:=cells.size } 1,?_,⟨rfl,rfl,rfl,by rw[hheap];simp⟩,?_⟩
  ·have hz:(⟨⟨l⟩⟩:ByteArray).size=l.length:=rfl
   have hsh:w1.shape? w.heap.size=some (e,cells.size):=by simp[World.shape?,w1]
   have hmap:((⟨⟨l⟩⟩:ByteArray).data.map λb=>Value.int .u8 b.toNat)=(bytes l).toArray:=by simp
   simp only[execOp,convert,hx,Sem.run_bind,run_underlying hs,run_underlying hd,run_underlying he,Result.andThen_ok,Conv.stringToBytes,run_choose,Question.forced,hz,aD9,if_false,hc,hmap,newRow,run_newObj,markStringish,Sem.run_pure]
   have e1:({ w with drawn:=w.drawn+1,heap:=w.heap.push (.cells cells e) }:World)=w1:=rfl
   simp only[cells]at hsh e1 ⊢
   simp[e1,hsh]
  ·have:=hK (.slice (some ⟨w.heap.size,0,none⟩) l.length c) (w1.freeze { block:=w.heap.size,off:=cells.size } 1).heap
   rw[nF]at this
   refine this (o.callR ⟨?_,?_,?_,?_,aEI _ _⟩)
   ·rw[hheap];exact⟨by simp,λb hb=>by rw[Array.getElem?_push,if_neg zO]⟩
   ·intro x hx;simp only[aD5]at hx;subst hx
    refine⟨_,c,by simp,by simpa using hcl,.inr ⟨w.heap.size,0,rfl,λi hi=>?_⟩⟩
    rw[aEg,hheap]
    simp only[List.length_map]at hi
    simp[bI,cells,Array.getElem?_append,hi]
   ·intro x hx b hb;simp only[aD5]at hx;subst hx;simp[ro,Value.ownBlock]at hb;omega
   ·intro x hx b hb;simp only[aD5]at hx;subst hx;rw[hheap];simp[ro,Value.ownBlock]at hb;simp;omega
theorem wZ {fn:Func}{a t:TypeId}{u:Tmp}(hf:fn.results=#[.cell a t,.tmp u]) {zero:aVs}{by_:Nat}{b:Nat}{vs:aVs}{t':TypeId}(o:Own h0 L h)(k:Nat)(hk:L[k]?=some (box b vs t'))
  (hT:TyI P t true zero by_) (hl:vs.length=zero.length) (ha:sget s a=.pointer (some ⟨b,0,none⟩)) (w:World) (hw:w.heap=h) :
  (results fn s.toArray).run P w=.ok (.tuple ⟨[.agg ⟨vs⟩,sget s u]⟩) w:=by
 have hc:=jG (P:=P) (w:=w) (a:=⟨b,0,none⟩) vs 0 #[] (λj hj=>by
  rw[aEg,Addr.add_lit,aEg,hH,hw];exact o.cellB k hk j)
 have e1:s.toArray.getD a undef=.pointer (some ⟨b,0,none⟩):=by rw[← ha,← dS];simp
 have e2:s.toArray.getD u undef=sget s u:=by rw[← dS];simp
 simp only[Array.getD_eq_getD_getElem?,aEl]at e1 e2
 simp[results,hf,e1,e2,asAddr,loadVar,hT.isAgg,hT.sizeOf,← hl,loadCells,hc]
theorem RetVC.cell2 {fn:Func}{a t:TypeId}{u:Tmp}{R:Value->Heap->Prop}(hf:fn.results=#[.cell a t,.tmp u]) {zero:aVs}{by_:Nat}{b:Nat}{vs:aVs}{t':TypeId}(o:Own h0 L h)(k:Nat)(hk:L[k]?=some (box b vs t'))
  (hT:TyI P t true zero by_) (hl:vs.length=zero.length) (ha:sget s a=.pointer (some ⟨b,0,none⟩)) (hr:rS s u λv=>R (.tuple ⟨[.agg ⟨vs⟩,v]⟩) h):RetVC P fn s h R where
 ex:=⟨_,λw hw=>wZ hf o k hk hT hl ha w hw,by simpa only[sH] using hr⟩
def aA7 (places:List (Nat×Nat))(cells:aVs):List (Nat×Value)->Option aVs
 | []=>some cells
 | (i,v)::rest =>
  match places[i]? with
  | none=>none
  | some (off,size)=>bif Nat.beq v.cells.size size&&Nat.ble (off+size) cells.length then aA7 places (lset cells off v.cells.toList) rest else none
structure StructT (P:Program) (t:TypeId) (places:List (Nat×Nat)) (aggs:List Bool) (zero:aVs):Prop where
 ex:∃ fields:Array Field,P.underlying t=some (.struct fields)/\fields.size=places.length/\places.length=aggs.length /\
  ∀(i:Nat) (f:Field),fields[i]?=some f->∃(p:Nat×Nat) (b:Bool) (d:TypeDesc) (inf:TypeInfo),places[i]?=some p/\aggs[i]?=some b/\f.offset=p.1/\P.info? f.type=some inf/\inf.size=p.2/\P.underlying f.type=some d/\mM d=b
 zero:∃(i:TypeInfo) (z:Value),P.info? t=some i/\i.zero=some z/\z.cells=zero.toArray
def structB (P:Program)(t:TypeId)(places:List (Nat×Nat))(aggs:List Bool):Bool :=
 match P.underlying t with
 | some (.struct fields)=>fields.toList.map (λf=>(f.offset,(P.info? f.type).map (·.size),(P.underlying f.type).map mM)) == (places.zip aggs).map (λx=>(x.1.1,some x.1.2,some x.2))&&places.length == aggs.length
 | _=>false
theorem StructT.mk' {t:TypeId}{places:List (Nat×Nat)}{aggs:List Bool}{zero:aVs}{agg:Bool}{by_:Nat}(hb:structB P t places aggs=true)(hT:TyI P t agg zero by_):StructT P t places aggs zero:=by
 refine⟨?_,by obtain⟨i,z,hi,_,hz,hc,_⟩:=hT.info;exact⟨i,z,hi,hz,hc⟩⟩
 unfold structB at hb;split at hb
 ·rename_i fields hf
  simp only[aD0,beq_iff_eq]at hb
  obtain⟨hb,hl⟩:=hb
  have hlen:fields.size=places.length:=by
   have:=congrArg List.length hb
   simp only[List.length_map,Array.length_toList,List.length_zip]at this
   omega
  refine⟨fields,hf,hlen,hl,λi f hi=>?_⟩
  have hi':i<fields.size:=(Array.getElem?_eq_some_iff.1 hi).1;have h1:i<places.length:=by omega
  have h2:i<aggs.length:=by omega
  have:=congrArg (λl=>l[i]?) hb
  simp only[aEv,Array.getElem?_toList,hi,oMS]at this
  have e1:places[i]?=some places[i]:=by simp[h1]
  have e2:aggs[i]?=some aggs[i]:=by simp[h2]
  have ez:(places.zip aggs)[i]?=some (places[i],aggs[i]):=List.getElem?_zip_eq_some.2 ⟨e1,e2⟩
  rw[show(Option.map (λx=>(x.1.1,some x.1.2,some x.2)) (places.zip aggs)[i]?:Option _)=some (places[i].1,some places[i].2,some aggs[i]) by rw[ez];rfl]at this
  injection this with this
  injection this with o1 o2
  injection o2 with o2 o3
  obtain⟨inf,hinf,hsz⟩:=aEo.1 o2
  obtain⟨d,hd,ha⟩:=aEo.1 o3
  exact⟨places[i],aggs[i],d,inf,e1,e2,o1,hinf,hsz,hd,ha⟩
 ·cases hb
theorem aA6 (vs:aVs)(off:Nat)(cs:aVs):∀ k,(vs.zipIdx k).foldl (fun(cs:Array Value)(x:Value×Nat)=>cs.setIfInBounds (off+x.2) x.1) cs.toArray=(lset cs (off+k) vs).toArray:=by
 induction vs generalizing cs with
 | nil=>intro k;rfl
 | cons v vs ih=>intro k;simp only[List.zipIdx_cons,List.foldl_cons,lset];rw[show cs.toArray.setIfInBounds (off+k) v=(cs.set (off+k) v).toArray by simp];exact ih _ (k+1)
theorem fill_eq (place:Nat->Option (Nat×Nat))(places:List (Nat×Nat))(hp:∀ i,place i=places[i]?):∀(parts:List (Nat×Value))(cells:aVs)(r:aVs),aA7 places cells parts=some r->Instr.fill place cells.toArray parts=some r.toArray:=by
 intro parts
 induction parts with
 | nil=>intro cells r h;simp[aA7]at h;subst h;rfl
 | cons q parts ih =>
  obtain⟨i,v⟩:=q
  intro cells r h
  simp only[aA7]at h
  simp only[Instr.fill,hp]
  cases hi:places[i]? with
  | none=>simp[hi]at h
  | some p =>
   obtain⟨off,size⟩:=p
   simp only[hi]at h
   cases hb:(Nat.beq v.cells.size size&&Nat.ble (off+size) cells.length) with
   | false=>rw[hb]at h;cases h
   | true =>
    rw[hb]at h
    simp only[cond_true]at h
    simp only[aD0]at hb
    have h1:=aEK hb.1;have h2:=Nat.le_of_ble_eq_true hb.2
    have:=ih _ _ h
    simp only[List.size_toArray]
    rw[if_neg (by simp[h1];omega)]
    rw[← this]
    congr 1
    have:=aA6 v.cells.toList off cells 0
    rw[Nat.add_zero]at this
    rw[← this,← Array.foldl_toList]
    simp
theorem yJ {α β:Type}(F:α->Sem β):∀(fs:List α)(ps:List β),(∀(i:Nat)(f:α),fs[i]?=some f->∃ p,ps[i]?=some p/\∀ w,(F f).run P w=.ok p w)->fs.length=ps.length ->
  ∀ w,(fs.mapM F).run P w=.ok ps w
 | [],[],_,_,w=>by simp
 | [],_::_,_,hl,_=>by simp at hl
 | _::_,[],_,hl,_=>by simp at hl
 | f::fs,p::ps,hp,hl,w=>by
  obtain⟨p',e1,e2⟩:=hp 0 f zS
  simp only[lgZ,Option.some.injEq]at e1;subst e1
  have:=yJ F fs ps (λi g hg=>by have:=hp (i+1) g (by simpa using hg);simpa using this) (by simpa using hl) w
  simp only[List.mapM_cons,Sem.run_bind,e2,Result.andThen_ok,this,Sem.run_pure]
theorem StillVC.build {t:TypeId}{parts:List (Nat×Operand)}{places:List (Nat×Nat)}{aggs:List Bool}{zero vs:aVs}(hT:StructT P t places aggs zero)
  (hf:aA7 places zero (parts.map λp=>(p.1,ev s p.2))=some vs) (hk:K (.agg ⟨vs⟩) false h):StillVC pr P (.build t ⟨parts⟩) ty s h K:=by
 obtain⟨fields,hu,hsz,hl,hfs⟩:=hT.ex
 obtain⟨inf,z,hi,hz,hc⟩:=hT.zero
 refine .pure' _ false (λw=>?_) hk;have hm:=yJ (P:=P) (λf:Field=>do pure (f.offset,← sizeOf f.type)) fields.toList places (λi f hf=>by
  obtain⟨p,b,d,inf,a1,_,a3,a4,a5,_⟩:=hfs i f (by simpa using hf)
  exact⟨p,a1,λw=>by simp[sizeOf,typeInfo,a4,a5,a3]⟩) (by simpa using hsz) w
 have hfill:=fill_eq (λi=>places[i]?) places (λi=>rfl) _ _ _ hf;have hmA:(fields.mapM (λf:Field=>do pure (f.offset,← sizeOf f.type))).run P w=.ok places.toArray w:=by
  rw[Array.mapM_eq_mapM_toList,Sem.run_map,hm];rfl
 simp only[execOp,Instr.build,Sem.run_bind,run_underlying hu,Result.andThen_ok,zeroValue,typeInfo,run_program,hi,hz,Sem.run_pure,hc,hmA]
 simp[hfill]
theorem StillVC.fieldV {t:TypeId}{x:Operand}{f:Nat}{places:List (Nat×Nat)}{aggs:List Bool}{zero vs:aVs}{off sz:Nat}{v:Value}(hT:StructT P t places aggs zero)(hx:ev s x=.agg ⟨vs⟩)
  (hp:places[f]?=some (off,sz)) (ha:aggs[f]?=some false) (hv:vs[off]?=some v) (hk:K v false h):StillVC pr P (.field t x f) ty s h K:=by
 obtain⟨fields,hu,hsz,hl,hfs⟩:=hT.ex
 refine .pure' _ false (λw=>?_) hk;have hlt:f<fields.size:=by rw[hsz];exact(aDZ.1 hp).1
 obtain⟨p,b,d,inf,a1,a2,a3,a4,a5,a6,a7⟩:=hfs f fields[f] (by simp[hlt])
 rw[hp]at a1;injection a1 with a1;subst a1
 rw[ha]at a2;injection a2 with a2;subst a2
 have hagg:(isAgg fields[f].type).run P w=.ok false w:=by
  simp only[isAgg,Sem.run_bind,run_underlying a6,Result.andThen_ok]
  revert a7;cases d<;>simp[mM]
 simp[execOp,hx,Instr.field,run_underlying hu,hlt,part,hagg,asAgg,a3,hv]
theorem StillVC.fA {t:TypeId}{x:Operand}{f:Nat}{places:List (Nat×Nat)}{aggs:List Bool}{zero:aVs}{off sz b o:Nat}(hT:StructT P t places aggs zero)(hx:ev s x=.pointer (some ⟨b,o,none⟩))
  (hp:places[f]?=some (off,sz)) (hz:Nat.beq sz 0=false) (hk:K (.pointer (some ⟨b,o+off,none⟩)) false h):StillVC pr P (.fieldAddr t x f) ty s h K:=by
 obtain⟨fields,hu,hsz,hl,hfs⟩:=hT.ex
 refine .pure' _ false (λw=>?_) hk;have hlt:f<fields.size:=by rw[hsz];exact(aDZ.1 hp).1
 obtain⟨p,b,d,inf,a1,a2,a3,a4,a5,a6,a7⟩:=hfs f fields[f] (by simp[hlt])
 rw[hp]at a1;injection a1 with a1;subst a1
 have hsz0:sz≠0:=Nat.ne_of_beq_eq_false hz
 simp[execOp,hx,Instr.fieldAt,run_underlying hu,hlt,Instr.sureAddr,fieldPlace,sizeOf,typeInfo,a4,a5,hsz0,a3,Addr.add_lit]
def tY (cs:aVs)(off:Nat)(vs:aVs)(k:aVs->Prop):Prop :=
 match vs with
 | []=>k cs
 | v::vs=>oP cs off v λcs=>tY cs (off+1) vs k
theorem aAS (cs:aVs)(off:Nat)(vs:aVs)(k:aVs->Prop):tY cs off vs k=k (lset cs off vs):=by
 induction vs generalizing cs off with
 | nil=>rfl
 | cons v vs ih=>simp only[tY,gA,ih,lset]
theorem RunVC.storeL {t:TypeId}{a x:Operand}{zero:aVs}{by_:Nat}{agg:Bool}{b off:Nat}{cs:aVs}{t':TypeId}(o:Own h0 L h)(k:Nat)(hk:L[k]?=some (box b cs t'))(hT:TyI P t agg zero by_)
  (ha:ev s a=.pointer (some ⟨b,off,none⟩)) (hl:off+zero.length<=cs.length)
  (hK:evK s x λv=>rJ v λvs=>(vs.length=zero.length/\vs.all (λu=>u.oneCell')=true)/\∀ h',tY cs off vs λcs'=>pK L k (box b cs' t') λL'=>Own h0 L' h'->K undef false h'):RunVC P (.store t a x) ty s h K Q :=
 StillVC.aDF o k hk hT ha hl (by simpa only[aAS,xL] using hK)
def aCY (s:aVs)(places:List (Nat×Nat))(cells:aVs)(parts:List (Nat×Operand))(k:aVs->Prop):Prop :=
 match parts with
 | []=>k cells
 | (i,x)::rest=>evK s x λv=>match places[i]? with
  | none=>False
  | some (off,size)=>rJ v λvs=>(Nat.beq vs.length size&&Nat.ble (off+size) cells.length)=true/\tY cells off vs λcells'=>aCY s places cells' rest k
theorem aCb (places:List (Nat×Nat)):∀(parts:List (Nat×Operand))(cells:aVs)(k:aVs->Prop),aCY s places cells parts k->∃ vs,aA7 places cells (parts.map λp=>(p.1,ev s p.2))=some vs/\k vs
 | [],cells,k,h=>⟨cells,rfl,h⟩
 | (i,x)::rest,cells,k,h=>by
  simp only[aCY,oY]at h
  simp only[aEx,aA7]
  cases hp:places[i]? with
  | none=>rw[hp]at h;exact h.elim
  | some p =>
   obtain⟨off,size⟩:=p
   rw[hp]at h
   simp only[oK,aAS]at h
   simp only[Array.length_toList]at h
   simp only[h.1,cond_true]
   exact aCb places rest _ k h.2
theorem StillVC.aDd {t:TypeId}{parts:List (Nat×Operand)}{places:List (Nat×Nat)}{aggs:List Bool}{zero:aVs}(hT:StructT P t places aggs zero)
  (hk:aCY s places zero parts λvs=>K (.agg ⟨vs⟩) false h):StillVC pr P (.build t ⟨parts⟩) ty s h K:=by
 obtain⟨vs,hf,hk⟩:=aCb places parts zero _ hk
 exact .build hT hf hk
end
theorem Br.ttE {b:Bool}{A B:Prop}{c d:Code}(hb:b=true)(h:A):Br b A B c d:=⟨λ_=>h,λe=>by rw[hb]at e;cases e⟩
theorem Br.ffE {b:Bool}{A B:Prop}{c d:Code}(hb:b=false)(h:B):Br b A B c d:=⟨λe=>(by rw[hb]at e;cases e),λ_=>h⟩
def U8I (P:Program)(e:TypeId):Prop:=(P.info? e).map (λi=>(i.zero,i.size,i.bytes))=some (some (.int .u8 0),1,1)
section
variable {P : Program} {ty : TypeId} {s : aVs} {h0 : Base} {h : Heap} {L : List Item} {K : KK} {Q : QQ} {pr : Bool}
theorem StillVC.bit {op:BinOp}{t t':TypeId}{x y:Operand}{k:IntKind}{a b:Int}(hop:(match op with|.and=>true|.or=>true|.xor=>true|.andNot=>true|_=>false)=true)(hx:ev s x=.int k a)(hy:ev s y=.int k b)
  (hk:K (.int k (bits op k a b)) false h):StillVC pr P (.binOp op t x y t') ty s h K :=
 .pure' _ false (λw=>by
  cases op<;>simp at hop<;>simp[execOp,hx,hy,eqGuard,binOp_and,binOp_or,binOp_xor,binOp_andNot,intBits_and,intBits_or,intBits_xor,intBits_andNot]) hk
theorem zP (l:aBs):(l.map λb=>(b.toNat:Int)).map (λn=>UInt8.ofNat n.toNat)=l:=by
 induction l with
 | nil=>rfl
 | cons b l ih=>simp only[aEx,ih];congr 1;simp
theorem StillVC.aDC {src dst e:TypeId}{x:Operand}{l:aBs}(hA:Arr h (ev s x) (bytes l))(hs:dN P src e)(he:P.underlying e=some (.int .u8))(hd:P.underlying dst=some .string)(hk:K (sv l) false h) :
  StillVC false P (.convert src dst x) ty s h K:=by
 obtain⟨a,cap,hv,hcl,r⟩:=hA
 rcases r with hn|⟨b,o,rfl,hc⟩
 ·have hl:l=[]:=by simpa using hn
  subst hl
  refine⟨sv [],false,[],by simp,by simp,λw _=>?_,hk⟩
  cases a with
  | none=>simp[execOp,hv,run_convert_bytes_nil w src e hs he _ _ dst hd];rfl
  | some a =>
   simp only[execOp,hv,List.map_nil,aD2,Sem.run_bind]
   rw[run_convert_bytes_string w src dst e _ 0 cap hs he hd,run_bytesToString w _ 0 cap [] (by simp[loadCells,loadCellsFrom])]
   rfl
 ·refine⟨sv l,false,(List.range l.length).map (λj=>(⟨b,o+j,none⟩,(bytes l).getD j undef)),by simp,?_,λw hw=>?_,hk⟩
  ·intro q hq
   obtain⟨j,hj,rfl⟩:=aEL.1 hq
   have hj':j<l.length:=by simpa using hj
   simp only
   rw[hc j (by simpa using hj')];simp[hj']
  ·have hr:=run_convert_bytes_arg w src e hs he b o l.length cap (l.map λb=>(b.toNat:Int)) zS (λi hi=>by
    have:=hw (⟨b,o+i,none⟩,(bytes l).getD i undef) (aEL.2 ⟨i,by simpa using hi,rfl⟩)
    simp only at this
    rw[this]
    simp[hi]) dst hd
   have e2:strOfNums (l.map λb=>(b.toNat:Int))=⟨⟨l⟩⟩:=by
    simp only[strOfNums]
    rw[zP]
   simp only[List.length_map]at hv
   simp[execOp,hv,hr,e2]
theorem RunVC.appendS {t u e:TypeId}{x y:Operand}{n:Nat}{xs:aVs}{l:aBs}(o:Own h0 L h)(k:Nat)(hk:L[k]?=some (row (ev s x) e 1 n xs))
  (hS:dN P t e) (hU:P.underlying u=some .string) (hE:U8I P e) (hy:ev s y=sv l) (h63:n+l.length<=maxLen) (hb:n+l.length<=140737488355328)
  (hK:∀ v' h',pK L k (row v' e 1 (n+l.length) (xs++bytes l)) λL'=>Own h0 L' h'->K v' false h'):RunVC P (.call ⟨.builtin .append,⟨[x,y]⟩,⟨[t,u]⟩⟩) ty s h K Q :=
 .of λw hw=>by
  subst hw
  obtain⟨i,hi,hi2⟩:=aEo.1 hE
  simp only[Prod.mk.injEq]at hi2
  obtain⟨hz,hs1,hby⟩:=hi2
  have hrow:uE w.heap e 1 (ev s x) n xs:=o.sat _ (aDY hk);have hsz:(⟨⟨l⟩⟩:ByteArray).size=l.length:=rfl
  obtain⟨v',w',hr,hown,hg,hnil⟩:=Lib.run_append_own_string (P:=P) w 0 t u ty e i hS hU hi hz hs1 hby (ev s x) n xs (qG hrow) ⟨⟨l⟩⟩ (by rw[hsz];exact h63) (by rw[hsz];exact hb) (Nat.zero_le _)
  rw[hsz]at hown
  have hcells:Lib.strCells ⟨⟨l⟩⟩=bytes l:=by simp[Lib.strCells]
  rw[hcells]at hown
  have hfp:∀ b,v'.ownBlock=some b->(ev s x).ownBlock=some b∨w.heap.size<=b:=by
   intro b' hb'
   rcases hrow.2 with ⟨hx,hn0⟩|⟨g,cap,cur,hx,hgg,hnc,hcm,hcs,ht⟩
   ·subst hn0
    by_cases hl:l.length=0
    ·have:=hnil.2 ⟨hx,by rw[hsz];exact hl⟩
     rw[this]at hb';simp[Value.ownBlock]at hb'
    ·have hr2:=run_append_nil_string (P:=P) w t u ty e i _ hS hU hi hz ⟨⟨l⟩⟩ (by rw[hsz];omega) (by rw[hsz];simp only[maxLen]at h63;omega) (by rw[hsz,hby];omega)
     rw[hx,hr2]at hr
     injection hr with e1 e2
     subst e1
     simp[Value.ownBlock]at hb'
     right;omega
   ·by_cases hroom:n+l.length<=cap
    ·have hr2:=Lib.run_append_room_string (P:=P) w t u ty e i hS hU hi hs1 g n cap cur hgg ⟨⟨l⟩⟩ (by rw[hsz];exact hroom) (by rw[hsz,hcs];omega)
     rw[hx,hr2]at hr
     injection hr with e1 e2
     subst e1
     left;rw[hx];exact hb'
    ·have holds:∀ j u,xs[j]?=some u->w.cell? ((⟨g,0,none⟩:Addr).add j)=some u:=World.ownsRow.cells (qG hrow) (by rw[hx];rfl)
     have hr2:=Lib.run_append_grow_string (P:=P) w t u ty e i _ hS hU hi hz ⟨g,0,none⟩ n cap xs (by rw[hs1];exact hrow.1) holds ⟨⟨l⟩⟩ (by rw[hsz];omega) (by rw[hsz];simp only[maxLen]at h63;omega) (by rw[hsz,hby];exact growslice_fits zO zO)
     rw[hx,hr2]at hr
     injection hr with e1 e2
     subst e1
     simp[Value.ownBlock]at hb'
     right;omega
  refine⟨v',false,w',by simp[execOp,resolve,invoke,builtin,hy,hr],⟨hg.os,hg.tape,hg.output,hg.size⟩,?_⟩
  have:=hK v' w'.heap
  rw[tA]at this
  exact this (o.set hk hg.size (λb hb hnb=>hg.block b hb (λe=>hnb e.symm)) (aB2 hown) hfp (λb hb=>(hown.lt b hb).2))
theorem StillVC.aDe {t e:TypeId}{by_:Nat}{x i:Operand}{n:Nat}{xs zero:aVs}{k:IntKind}{m:Int}{agg:Bool}(hS:dN P t e)(hE:TyI P e agg zero by_)(hA:aY zero.length h (ev s x) n xs)
  (hi:ev s i=.int k m) (h1:0<=m) (h2:m<n) (hk:evK s x λv=>K (adr v (m.toNat*zero.length)) false h):StillVC pr P (.indexAddr t x i) ty s h K:=by
 rw[oY]at hk
 obtain⟨_,a,cap,hv,_,r⟩:=hA
 rcases r with rfl|⟨b,o,rfl,hc⟩
 ·omega
 refine .pure' _ false (λw=>?_) hk;have he:P.elem t=e:=by unfold dN at hS;simp[Program.elem,hS]
 have hS':P.underlying t=some (.slice (P.elem t)):=by rw[he];exact hS
 simp[execOp,hi,hv,run_indexAt_slice w t _ _ _ _ _ hS',h1,h2,he,hE.sizeOf,adr,Addr.add_lit]
theorem StillVC.loadAN {t:TypeId}{x:Operand}{zero:aVs}{by_ sz n off:Nat}{v:Value}{xs vs:aVs}(hA:aY sz h v n xs)(hT:TyI P t true zero by_)(hx:ev s x=adr v off)
  (hv:(xs.drop off).take zero.length=vs) (hl:vs.length=zero.length) (hz:0<zero.length) (hk:K (.agg ⟨vs⟩) false h):StillVC false P (.load t x) ty s h K:=by
 obtain⟨hxl,a,cap,rfl,_,r⟩:=hA
 have hlen:off+zero.length<=xs.length:=by
  have:=congrArg List.length hv
  rw[hl]at this;simp only[aEC,List.length_drop]at this;omega
 rcases r with rfl|⟨b,o,rfl,hc⟩
 ·rw[Nat.zero_mul]at hxl;omega
 ·refine .loadN (a:=⟨b,o+off,none⟩) hT (by simpa[adr] using hx) hl (λj hj=>?_) hk
  rw[Addr.add_lit,Nat.add_assoc,hc (off+j) zO]
  conv=>rhs;rw[← hv]
  rw[aER,if_pos zO,aEM]
theorem StillVC.loadA1 {t:TypeId}{x:Operand}{zero:aVs}{by_ sz n i:Nat}{v u:Value}{xs:aVs}(hA:aY sz h v n xs)(hT:TyI P t false zero by_)(hx:ev s x=adr v i)(hu:xs[i]?=some u)(hk:K u false h) :
  StillVC false P (.load t x) ty s h K:=by
 obtain⟨hxl,a,cap,rfl,_,r⟩:=hA
 obtain⟨hi,_⟩:=aDZ.1 hu
 rcases r with rfl|⟨b,o,rfl,hc⟩
 ·rw[Nat.zero_mul]at hxl;omega
 ·exact .load1 hT (by simpa[adr] using hx) (by rw[hc i hi];exact hu) hk
theorem StillVC.aDf {t:TypeId}{x:Operand}{f:Nat}{places:List (Nat×Nat)}{aggs:List Bool}{zero xs:aVs}{off sz sz' n i:Nat}{v:Value}(hA:aY sz' h v n xs)(hn:0<n)(hT:StructT P t places aggs zero)(hx:ev s x=adr v i)
  (hp:places[f]?=some (off,sz)) (hz:Nat.beq sz 0=false) (hk:K (adr v (i+off)) false h):StillVC pr P (.fieldAddr t x f) ty s h K:=by
 obtain⟨hxl,a,cap,rfl,_,r⟩:=hA
 rcases r with rfl|⟨b,o,rfl,hc⟩
 ·omega
 ·refine .fA hT (by simpa[adr] using hx) hp hz ?_
  rw[Nat.add_assoc];exact hk
theorem tJ {α:Type}{f:α->aVs}{sz:Nat}(hf:∀ y,(f y).length=sz)(ys:List α):(ys.flatMap f).length=ys.length*sz:=by
 induction ys with
 | nil=>simp
 | cons y ys ih=>simp only[aEf,aDX,hf,ih,aD1,Nat.add_mul,Nat.one_mul];omega
theorem xT {α:Type}{f:α->aVs}{sz:Nat}(hf:∀ y,(f y).length=sz):∀(ys:List α)(i:Nat),(ys.flatMap f).drop (i*sz)=(ys.drop i).flatMap f
 | [],i=>by simp
 | y::ys,0=>by simp
 | y::ys,i+1=>by
  have:(i+1)*sz=sz+i*sz:=by rw[Nat.add_mul,Nat.one_mul,Nat.add_comm]
  rw[this,aEf,← aEP]
  have e:(f y++ys.flatMap f).drop sz=ys.flatMap f:=by
   rw[List.drop_left' (hf y)]
  rw[e,xT hf ys i]
  rfl
theorem flat_get {α:Type}{f:α->aVs}{sz i:Nat}{ys:List α}{y:α}(hf:∀ y,(f y).length=sz)(hy:ys[i]?=some y):((ys.flatMap f).drop (i*sz)).take sz=f y:=by
 obtain⟨hi,he⟩:=aDZ.1 hy
 rw[xT hf,aD8 hi,he,aEf,List.take_left' (hf y)]
theorem aB8 {α:Type}{f:α->aVs}{sz i off:Nat}{ys:List α}{y:α}{u:Value}(hf:∀ y,(f y).length=sz)(hy:ys[i]?=some y)(hu:(f y)[off]?=some u):(ys.flatMap f)[i*sz+off]?=some u:=by
 have:=flat_get hf hy
 obtain⟨ho,_⟩:=aDZ.1 hu
 rw[hf]at ho
 rw[← this,aER,if_pos ho,aEM]at hu
 exact hu
theorem StillVC.loadF {α:Type}{t:TypeId}{x:Operand}{zero:aVs}{by_ n i:Nat}{v:Value}{f:α->aVs}{ys:List α}{y:α}(hA:aY zero.length h v n (ys.flatMap f))(hT:TyI P t true zero by_)(hf:∀ y,(f y).length=zero.length)(hz:0<zero.length)
  (hx:ev s x=adr v (i*zero.length)) (hy:ys[i]?=some y) (hk:K (.agg ⟨f y⟩) false h):StillVC false P (.load t x) ty s h K :=
 .loadAN hA hT hx (flat_get hf hy) (hf y) hz hk
theorem StillVC.aDl {α:Type}{t:TypeId}{x:Operand}{zero:aVs}{by_ n i off sz:Nat}{v u:Value}{f:α->aVs}{ys:List α}{y:α}(hA:aY sz h v n (ys.flatMap f))(hT:TyI P t false zero by_)(hf:∀ y,(f y).length=sz)
  (hx:ev s x=adr v (i*sz+off)) (hy:ys[i]?=some y) (hu:(f y)[off]?=some u) (hk:K u false h):StillVC false P (.load t x) ty s h K :=
 .loadA1 hA hT hx (aB8 hf hy hu) hk
def lappV (a b:aVs)(k:aVs->Prop):Prop :=
 match a with
 | []=>k b
 | x::a=>lappV a b λr=>k (x::r)
theorem lappV_eq (a b:aVs)(k:aVs->Prop):lappV a b k=k (a++b):=by
 induction a generalizing k with
 | nil=>rfl
 | cons x a ih=>simp[lappV,ih]
def wG (s:aVs)(sz:Nat)(parts:List (Nat×Operand))(k:aVs->Prop):Prop :=
 match parts with
 | []=>k []
 | (_,x)::rest=>evK s x λv=>rJ v λvs=>(Nat.beq vs.length sz&&vs.all λu=>u.oneCell')=true/\wG s sz rest λr=>lappV vs r k
theorem aBh {s:aVs}{sz:Nat}:∀(parts:List (Nat×Operand))(k:aVs->Prop),wG s sz parts k->(∀ p∈parts,(ev s p.2).cells.toList.length=sz)/\k (parts.flatMap λp=>(ev s p.2).cells.toList)
 | [],k,h=>⟨by simp,by simpa[wG] using h⟩
 | (i,x)::rest,k,h=>by
  simp only[wG,oY,oK]at h
  obtain⟨h1,h2⟩:=h
  obtain⟨h3,h4⟩:=aBh rest _ h2
  rw[lappV_eq]at h4
  simp only[aD0]at h1
  refine⟨λp hp=>?_,by simpa using h4⟩
  rcases aEd.1 hp with rfl|hp
  ·exact aEK h1.1
  ·exact h3 p hp
theorem zZ (vs:aVs):∀(cs:aVs)(off:Nat),off+vs.length<=cs.length->lset cs off vs=cs.take off++vs++cs.drop (off+vs.length):=by
 induction vs with
 | nil=>intro cs off h;simp[lset]
 | cons v vs ih =>
  intro cs off h
  simp only[aD1]at h ⊢
  rw[lset,ih _ _ (by simp;omega)]
  have h1:(cs.set off v).take (off+1)=cs.take off++[v]:=by
   rw[aEr,List.take_set,List.getElem?_set_self zO]
   rw[List.set_eq_of_length_le (by simp;omega)]
   rfl
  have h2:(cs.set off v).drop (off+1+vs.length)=cs.drop (off+(vs.length+1)):=by
   rw[List.drop_set_of_lt zO]
   congr 1;omega
  rw[h1,h2];simp
theorem aCa (sz:Nat):∀(us:aVs)(k:Nat)(cs:aVs),(∀ u∈us,u.cells.toList.length=sz)->(k+us.length)*sz<=cs.length ->
  Instr.fill (λi=>some (i*sz,sz)) cs.toArray ((us.zipIdx k).map λp=>(p.2,p.1))=some (cs.take (k*sz)++us.flatMap (λu=>u.cells.toList)++cs.drop ((k+us.length)*sz)).toArray:=by
 intro us
 induction us with
 | nil=>intro k cs _ _;simp[Instr.fill]
 | cons u us ih =>
  intro k cs h1 hl;have hu:=h1 u zS;have hsz:u.cells.size=sz:=by simpa using hu
  have e1:(k+(u::us).length)*sz=k*sz+sz+us.length*sz:=by simp[Nat.add_mul];omega
  rw[e1]at hl
  simp only[List.zipIdx_cons,aEx,Instr.fill,hsz,List.size_toArray]
  rw[if_neg (by simp;omega)]
  have hf:=aA6 u.cells.toList (k*sz) cs 0
  rw[Nat.add_zero]at hf
  have e2:(u.cells.zipIdx.foldl (λcs (x:Value×Nat)=>match x with|(c,j)=>cs.setIfInBounds (k*sz+j) c) cs.toArray)=(lset cs (k*sz) u.cells.toList).toArray:=by
   rw[← hf,← Array.foldl_toList]
   simp
  rw[e2]
  have hl2:(lset cs (k*sz) u.cells.toList).length=cs.length:=sZ _ _ _
  rw[ih (k+1) _ (λv hv=>h1 v (by simp[hv])) (by rw[hl2,Nat.add_mul,Nat.add_mul,Nat.one_mul];omega)]
  rw[zZ _ _ _ (by rw[hu];omega),hu,e1]
  congr 2
  have e3:(k+1)*sz=k*sz+sz:=by rw[Nat.add_mul,Nat.one_mul]
  have e4:(k+1+us.length)*sz=k*sz+sz+us.length*sz:=by simp[Nat.add_mul]
  rw[e3,e4]
  have t1:(cs.take (k*sz)++u.cells.toList++cs.drop (k*sz+sz)).take (k*sz+sz)=cs.take (k*sz)++u.cells.toList:=by
   rw[List.take_left' (by simp only[aDX,aEC,hu];omega)]
  have t2:(cs.take (k*sz)++u.cells.toList++cs.drop (k*sz+sz)).drop (k*sz+sz+us.length*sz)=cs.drop (k*sz+sz+us.length*sz):=by
   rw[← aEP,List.drop_left' (by simp only[aDX,aEC,hu];omega),aEP]
  rw[t1,t2]
  simp
theorem StillVC.aDt {t e:TypeId}{n:Nat}{parts:List (Nat×Operand)}{zero:aVs}{agg:Bool}{by_:Nat}(o:Own h0 L h)(hS:dN P t e)(hE:TyI P e agg zero by_)
  (hp:parts.map (·.1)=List.range' 0 parts.length) (hn:parts.length=n) (hsm:n*zero.length<=16777216)
  (hK:wG s zero.length parts λvs=>∀ b h',pM L (box b vs e) λL'=>Own h0 L' h'->K (.slice (some ⟨b,0,none⟩) n n) false h'):RunVC P (.buildSlice t n ⟨parts⟩) ty s h K Q :=
 .of λw hw=>by
  subst hw
  obtain⟨i,z',hi,hs,hz,hzc,hb⟩:=hE.info
  obtain⟨hall,hK⟩:=aBh _ _ hK
  have hzr:=nH parts s 0 hp;have hflat:parts.flatMap (λp=>(ev s p.2).cells.toList)=((parts.map (·.2)).map (ev s)).flatMap λu=>u.cells.toList:=by simp[List.flatMap_map]
  rw[hflat]at hK
  have hus:∀ u∈(parts.map (·.2)).map (ev s),u.cells.toList.length=zero.length:=by
   intro u hu
   simp only[List.map_map,aEL,Function.comp_apply]at hu
   obtain⟨p,hp,rfl⟩:=hu
   exact hall p hp
  have hul:((parts.map (·.2)).map (ev s)).length=n:=by simpa using hn
  generalize (parts.map (·.2)).map (ev s)=us at *
  have hparts:((⟨parts⟩:Array (Nat×Operand)).map λx=>match x with|(i,x)=>(i,ev s x)).toList=us.zipIdx.map (λp=>(p.2,p.1)):=by
   rw[← hzr];simp
  have hflen:(us.flatMap λu=>u.cells.toList).length=n*zero.length:=by
   rw[← hul]
   clear hK hzr hparts hul hflat
   induction us with
   | nil=>simp
   | cons u us ih =>
    simp only[aEf,aDX,hus u zS,ih (λv hv=>hus v (by simp[hv])),aD1,Nat.add_mul,Nat.one_mul]
    omega
  have hle:¬ (16777216<n*zero.length):=by omega
  have hfill:∀ cs:aVs,cs.length=n*zero.length->Instr.fill (λi=>some (i*zero.length,zero.length)) cs.toArray (us.zipIdx.map λp=>(p.2,p.1))=some (us.flatMap λu=>u.cells.toList).toArray:=by
   intro cs hcs
   have:=aCa zero.length us 0 cs hus (by rw[hcs,aEg,hul];exact aD6 _)
   rw[this]
   congr 2
   rw[Nat.zero_mul,aES,lnA,aEg,hul,aEt zO,aD7]
  refine⟨.slice (some ⟨w.heap.size,0,none⟩) n n,false,{ w with heap:=w.heap.push (.cells (us.flatMap λu=>u.cells.toList).toArray e) },?_,⟨rfl,rfl,rfl,by simp⟩,?_⟩
  ·have hf:∀ z0:Array Value,Instr.fill (λi=>some (i*zero.length,zero.length)) ((Array.range (n*zero.length)).map (λj=>z0[j % z0.size]!)) (us.zipIdx.map λp=>(p.2,p.1))=some (us.flatMap λu=>u.cells.toList).toArray:=λz0=>by
    have:=hfill ((Array.range (n*zero.length)).map (λj=>z0[j % z0.size]!)).toList zS
    simpa only[Array.toArray_toList] using this
   have key:(Instr.buildSlice t n ((⟨parts⟩:Array (Nat×Operand)).map λx=>match x with|(i,x)=>(i,ev s x))).run P w=.ok (.slice (some ⟨w.heap.size,0,none⟩) n n) { w with heap:=w.heap.push (.cells (us.flatMap λu=>u.cells.toList).toArray e) }:=by
    unfold Instr.buildSlice
    simp only[Sem.run_bind,run_underlying hS,Result.andThen_ok,sizeOf,typeInfo,run_program,hi,Sem.run_pure,hs,hparts]
    rw[if_neg hle]
    by_cases h0:n*zero.length=0
    ·simp only[h0,if_true,Sem.run_pure,Result.andThen_ok,Sem.run_bind]
     have:=hf #[]
     rw[h0]at this
     rw[this]
     simp[newRow]
    ·simp only[if_neg h0,Sem.run_bind,zeroValue,typeInfo,run_program,hi,hz,Sem.run_pure,Result.andThen_ok]
     rw[hf]
     simp[newRow]
   simp only[List.map_toArray]at key
   simp[execOp,key]
  ·have:=hK w.heap.size (w.heap.push (.cells (us.flatMap λu=>u.cells.toList).toArray e))
   rw[nF]at this
   exact this (by have:=o.push (c:=(us.flatMap λu=>u.cells.toList).toArray) (t:=e);simpa using this)
theorem Own.boxArrN (o:Own h0 L h)(k:Nat) {b:Nat}{cs:aVs}{t:TypeId}(hk:L[k]?=some (box b cs t)) {sz n c:Nat}(hn:cs.length=n*sz)(hc:n<=c):aY sz h (.slice (some ⟨b,0,none⟩) n c) n cs :=
 ⟨hn,_,_,rfl,hc,.inr ⟨b,0,rfl,λi _=>by rw[aEg];exact o.cellB k hk i⟩⟩
end
end Go.Proofs.YtohlogbnpfofpaaGreatDoor
namespace Go.Proofs.YtohlogbnpfofpaaGreatDoor
open Go StillVC
set_option maxRecDepth 100000
theorem mixed:Tryz.prog.follows .mixedOrders=true:=by kernel_rfl
theorem aK:TyI Tryz.prog 3 false [.int .i64 0] 8:=.mk' (z:=.int .i64 0) Tryz.underlying3 rfl (by kernel_rfl) rfl
theorem int3:Tryz.prog.underlying 3=some (.int .i64):=Tryz.underlying3
theorem yF:TyI Tryz.prog 4 false [.bool false] 1:=.mk' (z:=.bool false) Tryz.underlying4 rfl (by kernel_rfl) rfl
theorem ty5:TyI Tryz.prog 5 false [.int .u8 0] 1:=.mk' (z:=.int .u8 0) Tryz.underlying5 rfl (by kernel_rfl) rfl
theorem int5:Tryz.prog.underlying 5=some (.int .u8):=Tryz.underlying5
theorem aC:TyI Tryz.prog 9 false [sv []] 16:=.mk' (z:=sv []) Tryz.underlying9 rfl (by kernel_rfl) rfl
theorem cE:Tryz.prog.underlying 9=some .string:=Tryz.underlying9
theorem ty21:TyI Tryz.prog 21 false [.int .i32 0] 4:=.mk' (z:=.int .i32 0) Tryz.underlying21 rfl (by kernel_rfl) rfl
theorem nQ:TyI Tryz.prog 22 false [.slice none 0 0] 24:=.mk' (z:=.slice none 0 0) Tryz.underlying22 rfl (by kernel_rfl) rfl
theorem mW:dN Tryz.prog 22 44:=Tryz.underlying22
theorem uD:TyI Tryz.prog 24 true [.slice none 0 0] 24:=.mk' (z:=.agg ⟨[.slice none 0 0]⟩) Tryz.underlying24 rfl (by kernel_rfl) rfl
theorem jM:TyI Tryz.prog 27 false [.int .i64 0] 8:=.mk' (z:=.int .i64 0) Tryz.underlying27 rfl (by kernel_rfl) rfl
theorem kU:TyI Tryz.prog 34 false [.slice none 0 0] 24:=.mk' (z:=.slice none 0 0) Tryz.underlying34 rfl (by kernel_rfl) rfl
theorem iQ:dN Tryz.prog 34 132:=Tryz.underlying34
theorem cS:TyI Tryz.prog 35 false [.slice none 0 0] 24:=.mk' (z:=.slice none 0 0) Tryz.underlying35 rfl (by kernel_rfl) rfl
theorem aB:dN Tryz.prog 35 9:=Tryz.underlying35
theorem mC:TyI Tryz.prog 36 false [.slice none 0 0] 24:=.mk' (z:=.slice none 0 0) Tryz.underlying36 rfl (by kernel_rfl) rfl
theorem mE:dN Tryz.prog 36 136:=Tryz.underlying36
theorem lZ:TyI Tryz.prog 37 false [.slice none 0 0] 24:=.mk' (z:=.slice none 0 0) Tryz.underlying37 rfl (by kernel_rfl) rfl
theorem kV:dN Tryz.prog 37 95:=Tryz.underlying37
theorem lK:TyI Tryz.prog 38 false [.slice none 0 0] 24:=.mk' (z:=.slice none 0 0) Tryz.underlying38 rfl (by kernel_rfl) rfl
theorem jW:dN Tryz.prog 38 98:=Tryz.underlying38
theorem kI:TyI Tryz.prog 39 false [.slice none 0 0] 24:=.mk' (z:=.slice none 0 0) Tryz.underlying39 rfl (by kernel_rfl) rfl
theorem gL:dN Tryz.prog 39 142:=Tryz.underlying39
theorem cR:TyI Tryz.prog 40 false [.slice none 0 0] 24:=.mk' (z:=.slice none 0 0) Tryz.underlying40 rfl (by kernel_rfl) rfl
theorem cH:dN Tryz.prog 40 42:=Tryz.underlying40
theorem aQ:TyI Tryz.prog 42 true [.int .i64 0,sv [],.slice none 0 0,.slice none 0 0,.slice none 0 0,sv [],sv [],.int .i64 0,.int .i64 0] 144:=.mk' (z:=.agg ⟨[.int .i64 0,sv [],.slice none 0 0,.slice none 0 0,.slice none 0 0,sv [],sv [],.int .i64 0,.int .i64 0]⟩) Tryz.underlying42 rfl (by kernel_rfl) rfl
theorem bU:TyI Tryz.prog 44 true [.int .i64 0,sv [],.int .i64 0,sv [],sv [],.slice none 0 0,.slice none 0 0,.int .i64 0,.int .i64 0,.int .i64 0,.slice none 0 0,sv [],sv [],.slice none 0 0,.slice none 0 0,.slice none 0 0,.int .i64 0,sv [],.slice none 0 0,.slice none 0 0,.slice none 0 0,sv [],sv [],.int .i64 0,.int .i64 0] 408:=.mk' (z:=.agg ⟨[.int .i64 0,sv [],.int .i64 0,sv [],sv [],.slice none 0 0,.slice none 0 0,.int .i64 0,.int .i64 0,.int .i64 0,.slice none 0 0,sv [],sv [],.slice none 0 0,.slice none 0 0,.slice none 0 0,.int .i64 0,sv [],.slice none 0 0,.slice none 0 0,.slice none 0 0,sv [],sv [],.int .i64 0,.int .i64 0]⟩) Tryz.underlying44 rfl (by kernel_rfl) rfl
theorem ty51:TyI Tryz.prog 51 false [.pointer none] 8:=.mk' (z:=.pointer none) Tryz.underlying51 rfl (by kernel_rfl) rfl
theorem nI:TyI Tryz.prog 52 false [.slice none 0 0] 24:=.mk' (z:=.slice none 0 0) Tryz.underlying52 rfl (by kernel_rfl) rfl
theorem iH:dN Tryz.prog 52 5:=Tryz.underlying52
theorem ty54:TyI Tryz.prog 54 true [.pointer none,.slice none 0 0] 32:=.mk' (z:=.agg ⟨[.pointer none,.slice none 0 0]⟩) Tryz.underlying54 rfl (by kernel_rfl) rfl
theorem ty56:TyI Tryz.prog 56 true [.pointer none,.slice none 0 0,.int .i64 0] 40:=.mk' (z:=.agg ⟨[.pointer none,.slice none 0 0,.int .i64 0]⟩) Tryz.underlying56 rfl (by kernel_rfl) rfl
theorem ty58:TyI Tryz.prog 58 true [.pointer none,.slice none 0 0,.int .i64 0] 40:=.mk' (z:=.agg ⟨[.pointer none,.slice none 0 0,.int .i64 0]⟩) Tryz.underlying58 rfl (by kernel_rfl) rfl
theorem fS:TyI Tryz.prog 64 false [.slice none 0 0] 24:=.mk' (z:=.slice none 0 0) Tryz.underlying64 rfl (by kernel_rfl) rfl
theorem gW:dN Tryz.prog 64 112:=Tryz.underlying64
theorem ty68:TyI Tryz.prog 68 true [.int .i64 0,.int .i64 0] 16:=.mk' (z:=.agg ⟨[.int .i64 0,.int .i64 0]⟩) Tryz.underlying68 rfl (by kernel_rfl) rfl
theorem mJ:TyI Tryz.prog 70 false [.pointer none] 8:=.mk' (z:=.pointer none) Tryz.underlying70 rfl (by kernel_rfl) rfl
theorem ty72:TyI Tryz.prog 72 true [.slice none 0 0,.int .i64 0] 32:=.mk' (z:=.agg ⟨[.slice none 0 0,.int .i64 0]⟩) Tryz.underlying72 rfl (by kernel_rfl) rfl
theorem ty79:TyI Tryz.prog 79 false [.nilFunc] 8:=.mk' (z:=.nilFunc) Tryz.underlying79 rfl (by kernel_rfl) rfl
theorem ty80:TyI Tryz.prog 80 true [.nilFunc,.nilFunc,.nilFunc,.nilFunc,.nilFunc,.nilFunc,.nilFunc,.nilFunc,.nilFunc,.nilFunc,.nilFunc] 88:=.mk' (z:=.agg ⟨[.nilFunc,.nilFunc,.nilFunc,.nilFunc,.nilFunc,.nilFunc,.nilFunc,.nilFunc,.nilFunc,.nilFunc,.nilFunc]⟩) Tryz.underlying80 rfl (by kernel_rfl) rfl
theorem cG:TyI Tryz.prog 93 true [.int .i64 0,.int .i64 0,sv []] 32:=.mk' (z:=.agg ⟨[.int .i64 0,.int .i64 0,sv []]⟩) Tryz.underlying93 rfl (by kernel_rfl) rfl
theorem oN:TyI Tryz.prog 95 true [sv [],.int .i64 0,.int .i64 0,sv []] 48:=.mk' (z:=.agg ⟨[sv [],.int .i64 0,.int .i64 0,sv []]⟩) Tryz.underlying95 rfl (by kernel_rfl) rfl
theorem kT:TyI Tryz.prog 98 true [sv [],sv []] 32:=.mk' (z:=.agg ⟨[sv [],sv []]⟩) Tryz.underlying98 rfl (by kernel_rfl) rfl
theorem ty102:TyI Tryz.prog 102 true [.int .i64 0,.int .i64 0] 16:=.mk' (z:=.agg ⟨[.int .i64 0,.int .i64 0]⟩) Tryz.underlying102 rfl (by kernel_rfl) rfl
theorem ty106:TyI Tryz.prog 106 true [sv [],.int .i64 0] 24:=.mk' (z:=.agg ⟨[sv [],.int .i64 0]⟩) Tryz.underlying106 rfl (by kernel_rfl) rfl
theorem ty107:TyI Tryz.prog 107 false [.nilFunc] 8:=.mk' (z:=.nilFunc) Tryz.underlying107 rfl (by kernel_rfl) rfl
theorem ty108:TyI Tryz.prog 108 true [.nilFunc,.nilFunc,.nilFunc,.nilFunc] 32:=.mk' (z:=.agg ⟨[.nilFunc,.nilFunc,.nilFunc,.nilFunc]⟩) Tryz.underlying108 rfl (by kernel_rfl) rfl
theorem ty110:TyI Tryz.prog 110 true [.nilFunc,.nilFunc,.nilFunc,.nilFunc] 32:=.mk' (z:=.agg ⟨[.nilFunc,.nilFunc,.nilFunc,.nilFunc]⟩) Tryz.underlying110 rfl (by kernel_rfl) rfl
theorem bR:TyI Tryz.prog 112 true [.int .i64 0,sv [],.int .i64 0,.int .i64 0] 40:=.mk' (z:=.agg ⟨[.int .i64 0,sv [],.int .i64 0,.int .i64 0]⟩) Tryz.underlying112 rfl (by kernel_rfl) rfl
theorem eV:TyI Tryz.prog 132 true [sv [],.int .i64 0,.int .i64 0,.int .i64 0,sv []] 56:=.mk' (z:=.agg ⟨[sv [],.int .i64 0,.int .i64 0,.int .i64 0,sv []]⟩) Tryz.underlying132 rfl (by kernel_rfl) rfl
theorem ty134:TyI Tryz.prog 134 true [.int .i64 0,.int .i64 0] 16:=.mk' (z:=.agg ⟨[.int .i64 0,.int .i64 0]⟩) Tryz.underlying134 rfl (by kernel_rfl) rfl
theorem cT:TyI Tryz.prog 136 true [sv [],.int .i64 0,.int .i64 0,.int .i64 0,.int .i64 0,.int .i64 0,.int .i64 0] 64:=.mk' (z:=.agg ⟨[sv [],.int .i64 0,.int .i64 0,.int .i64 0,.int .i64 0,.int .i64 0,.int .i64 0]⟩) Tryz.underlying136 rfl (by kernel_rfl) rfl
theorem lM:dN Tryz.prog 137 35:=Tryz.underlying137
theorem lE:TyI Tryz.prog 140 true [sv [],sv [],.bool false,.int .i64 0,.int .i64 0,sv []] 72:=.mk' (z:=.agg ⟨[sv [],sv [],.bool false,.int .i64 0,.int .i64 0,sv []]⟩) Tryz.underlying140 rfl (by kernel_rfl) rfl
theorem eB:TyI Tryz.prog 142 true [sv [],sv [],.bool false,.int .i64 0,.int .i64 0,sv [],.int .i64 0,sv [],sv [],.bool false,.int .i64 0,.int .i64 0,sv [],.int .i64 0] 160:=.mk' (z:=.agg ⟨[sv [],sv [],.bool false,.int .i64 0,.int .i64 0,sv [],.int .i64 0,sv [],sv [],.bool false,.int .i64 0,.int .i64 0,sv [],.int .i64 0]⟩) Tryz.underlying142 rfl (by kernel_rfl) rfl
theorem int178:Tryz.prog.underlying 178=some (.int .u64):=Tryz.underlying178
theorem eR:dN Tryz.prog 184 188:=Tryz.underlying184
theorem aAk:TyI Tryz.prog 186 false [.nilFunc] 8:=.mk' (z:=.nilFunc) Tryz.underlying186 rfl (by kernel_rfl) rfl
theorem aX:TyI Tryz.prog 188 true [sv [],.bool false,.nilFunc] 32:=.mk' (z:=.agg ⟨[sv [],.bool false,.nilFunc]⟩) Tryz.underlying188 rfl (by kernel_rfl) rfl
theorem rQ:TyI Tryz.prog 194 true [sv [],.int .i64 0] 24:=.mk' (z:=.agg ⟨[sv [],.int .i64 0]⟩) Tryz.underlying194 rfl (by kernel_rfl) rfl
theorem ty210:TyI Tryz.prog 210 true [.int .u32 0] 4:=.mk' (z:=.agg ⟨[.int .u32 0]⟩) Tryz.underlying210 rfl (by kernel_rfl) rfl
theorem ty212:TyI Tryz.prog 212 true [.int .i32 0,.int .u32 0] 8:=.mk' (z:=.agg ⟨[.int .i32 0,.int .u32 0]⟩) Tryz.underlying212 rfl (by kernel_rfl) rfl
theorem ty214:TyI Tryz.prog 214 true [.int .i32 0,.int .u32 0] 8:=.mk' (z:=.agg ⟨[.int .i32 0,.int .u32 0]⟩) Tryz.underlying214 rfl (by kernel_rfl) rfl
theorem ty216:TyI Tryz.prog 216 true [.int .u32 0,.int .i32 0,.int .u32 0] 12:=.mk' (z:=.agg ⟨[.int .u32 0,.int .i32 0,.int .u32 0]⟩) Tryz.underlying216 rfl (by kernel_rfl) rfl
theorem ty218:TyI Tryz.prog 218 false [.nilIface] 16:=.mk' (z:=.nilIface) Tryz.underlying218 rfl (by kernel_rfl) rfl
theorem ty220:TyI Tryz.prog 220 true [.int .u32 0,.int .i32 0,.int .u32 0,.nilIface,.slice none 0 0] 56:=.mk' (z:=.agg ⟨[.int .u32 0,.int .i32 0,.int .u32 0,.nilIface,.slice none 0 0]⟩) Tryz.underlying220 rfl (by kernel_rfl) rfl
end Go.Proofs.YtohlogbnpfofpaaGreatDoor
namespace Go.Proofs.YtohlogbnpfofpaaGreatDoor
open Go
def nilI:Value->Option Bool
 | .nilIface=>some true
 | .iface _ _=>some false
 | _=>none
section
variable {P : Program} {ty : TypeId} {s : aVs} {h : Heap} {K : KK} {pr : Bool}
theorem StillVC.neI {t t':TypeId}{x:Operand}{b:Bool}(hI:P.underlying t=some (.interface (P.methodsAt t)))(hx:nilI (ev s x)=some b)(hk:K (.bool (!b)) false h):StillVC pr P (.binOp .neq t x (.const .nilIface) t') ty s h K:=by
 have e2:ev s (.const .nilIface)=.nilIface:=rfl;refine .pure' (.bool (!b)) false (λw=>?_) hk;cases hv:ev s x with
 | nilIface =>
  rw[hv]at hx;cases hx
  simp[execOp,hv,e2,eqGuard_nil_constR,run_neq_nil_nil _ t hI]
 | iface d u =>
  rw[hv]at hx;cases hx
  simp[execOp,hv,e2,eqGuard_at_iface,run_neq_held_nil _ t d u hI]
 | _=>rw[hv]at hx;cases hx
theorem aCI {fn:Func}{a t:TypeId}{h0:Base}{L:List Item}(hf:fn.results=#[.cell a t]) {zero:aVs}{by_:Nat}{b:Nat}{vs:aVs}{t':TypeId}(o:Own h0 L h)(k:Nat)(hk:L[k]?=some (box b vs t'))
  (hT:TyI P t true zero by_) (hl:vs.length=zero.length) (ha:sget s a=.pointer (some ⟨b,0,none⟩)) (w:World) (hw:w.heap=h) :
  (results fn s.toArray).run P w=.ok (.agg ⟨vs⟩) w:=by
 have hc:=jG (P:=P) (w:=w) (a:=⟨b,0,none⟩) vs 0 #[] (λj hj=>by
  rw[aEg,Addr.add_lit,aEg,hH,hw];exact o.cellB k hk j)
 have e1:s.toArray.getD a undef=.pointer (some ⟨b,0,none⟩):=by rw[← ha,← dS];simp
 simp only[Array.getD_eq_getD_getElem?,aEl]at e1
 simp[results,hf,e1,asAddr,loadVar,hT.isAgg,hT.sizeOf,← hl,loadCells,hc]
theorem RetVC.cell1 {fn:Func}{a t:TypeId}{R:Value->Heap->Prop}{h0:Base}{L:List Item}(hf:fn.results=#[.cell a t]) {zero:aVs}{by_:Nat}{b:Nat}{vs:aVs}{t':TypeId}(o:Own h0 L h)(k:Nat)(hk:L[k]?=some (box b vs t'))
  (hT:TyI P t true zero by_) (hl:vs.length=zero.length) (ha:sget s a=.pointer (some ⟨b,0,none⟩)) (hr:R (.agg ⟨vs⟩) h):RetVC P fn s h R where
 ex:=⟨_,λw hw=>aCI hf o k hk hT hl ha w hw,hr⟩
end
def Defers (P:Program)(id:Nat)(ops:Array Oper)(s s1:aVs)(d:Deferred):Prop :=
 ∀(w:World) (Q:Exit->Act->World->Prop),Q .normal (act s1 [d]) w->(Code.region id ops false).wp P Q (act s []) w
structure LeaveVC (P:Program) (fn:Func) (d:Deferred) (u:FrameMode) (s:aVs) (h:Heap) (R:Ending->Heap->Prop):Prop where
 lv:∀ w0 w:World,Same w0 w->w.heap=h->Leaves P fn s.toArray (λe w'=>Same w0 w'/\R e w'.heap) [d] u w
def aAY (P:Program)(fn:Func)(d:Deferred)(R:Ending->Heap->Prop):QQ:=λe s h =>
 match e with
 | .normal=>LeaveVC P fn d .returning s h R
 | .ret=>LeaveVC P fn d .returning s h R
 | .panic c=>LeaveVC P fn d (.panicking c) s h R
 | _=>False
structure DeferVC (P:Program) (fn:Func) (id:Nat) (ops:Array Oper) (rest:Code) (R:Ending->Heap->Prop) (s:aVs) (h:Heap):Prop where
 ex:∃ s1 d,Defers P id ops s s1 d/\vcode P rest (ngQ (aAY P fn d R)) s1 h
theorem Spec.enterD {P:Program}{f:FuncId}{fn:Func}{r0 c1 rest:Code}{id n:Nat}{ops:Array Oper}{args:aVs}{h:Heap}{R:Ending->Heap->Prop}
  (hf:P.funcs[f]?=some fn) (hb:fn.body=some (.seq r0 (.scope (.seq c1 (.seq (.region id ops false) rest))))) (hn:fn.ntmps=n) (hname:(fn.name == "runtime.NumGoroutine")=false)
  (hv:nL args n λs=>vcode P r0 (zY (λs h=>vcode P c1 (zY (λs h=>DeferVC P fn id ops rest R s h) (ngQ (zV P fn R))) s h) (zV P fn R)) s h):Spec P f args h R:=by
 refine⟨⟨fn,hf,by simp[hb],hname⟩,λw hw=>?_⟩
 subst hw
 rw[oJ]at hv
 have he:act (args++List.replicate (n - args.length) undef) []={ tmps:=args.toArray++Array.replicate (fn.ntmps - args.toArray.size) undef,defers:=[] }:=by
  simp[act,hn]
 have leave0:∀ e s' w',Same w w'->zV P fn R e s' w'.heap->bodyPostD P fn (λe w'=>Same w w'/\R e w'.heap) e (act s' []) w':=by
  intro e s' w' hs hq;cases e with
  | normal=>obtain⟨v,hr,hR⟩:=hq.ex;exact⟨v,hr w' rfl,hs,hR⟩
  | ret=>obtain⟨v,hr,hR⟩:=hq.ex;exact⟨v,hr w' rfl,hs,hR⟩
  | panic c=>exact⟨hs,hq⟩
  | _=>exact hq.elim
 refine calls_of_wp_defers hf hb ?_
 rw[← he]
 refine wp_seq (wp_mono (eH (w0:=w) (ds:=[]) r0 _ _ w (.refl w) hv) ?_);rintro e a w1 ⟨s1,rfl,hs1,hq⟩;cases e with
 | normal =>
  refine wp_scope_straight (wp_seq (wp_mono (eH (w0:=w) (ds:=[]) c1 _ _ w1 hs1 hq) ?_));rintro e a w2 ⟨s2,rfl,hs2,hq⟩;cases e with
  | normal =>
   obtain⟨s3,d,hd,hr⟩:=hq.ex
   refine wp_seq (hd w2 _ (wp_mono (eH (w0:=w) (ds:=[d]) rest _ _ w2 hs2 hr) ?_));rintro e a w3 ⟨s4,rfl,hs3,hq⟩;cases e with
   | normal=>exact hq.lv w w3 hs3 rfl
   | ret=>exact hq.lv w w3 hs3 rfl
   | panic c=>exact hq.lv w w3 hs3 rfl
   | _=>exact hq.elim
  | ret=>exact leave0 .ret s2 w2 hs2 hq
  | panic c=>exact leave0 (.panic c) s2 w2 hs2 hq
  | _=>exact hq.elim
 | ret=>exact leave0 .ret s1 w1 hs1 hq
 | panic c=>exact leave0 (.panic c) s1 w1 hs1 hq
 | _=>exact hq.elim
theorem DeferVC.closure {P:Program}{fn:Func}{id g t:Nat}{rest:Code}{R:Ending->Heap->Prop}{s:aVs}{h:Heap}{caps:List Operand}{ty ty':TypeId}{pos pos':String}{after after':Array Edge}{tys:Array TypeId}(ht:t<s.length)
  (hk:zT s caps λcap=>oP s t (.func (.func g) ⟨[]⟩ ⟨cap⟩) λs1=>vcode P rest (ngQ (aAY P fn ⟨.fn (.func g) ⟨cap⟩,#[]⟩ R)) s1 h) :
  DeferVC P fn id #[⟨some t,.makeFunc (.func g) ⟨[]⟩ ⟨caps⟩,ty,pos,after,none⟩,⟨none,.defer ⟨.value (.tmp t),⟨[]⟩,tys⟩,ty',pos',after',none⟩] rest R s h:=by
 simp only[pP,gA]at hk
 refine⟨_,_,?_,hk⟩
 intro w Q hQ;refine wp_region ?_;have e1:∀ a,(act (s.set t a) []).eval (.tmp t)=a:=by
  intro a
  rw[fV]
  simp only[ev,← dS]
  simp[List.getD,ht]
 have e0:∀ a,(act s []).put (some t) a=act (s.set t a) []:=λa=>wL _ _ _ _;have e2:caps.map (act s []).eval=caps.map (ev s):=by rw[fV]
 show wpOps P _ Q [0,1] (act s []) w
 unfold wpOps
 simp only[aEl,lgZ,Region.wanted,if_true]
 refine .inl ?_
 simp only[Oper.wp,execOp,Instr.makeFunc,Sem.run_bind,Sem.run_pure,Result.andThen_ok,Oper.upon,List.map_toArray,List.map_nil,e2,e0]
 unfold wpOps
 simp only[aEl,lgS,lgZ,Region.wanted,if_true]
 refine .inl ?_
 simp[Oper.wp,execOp,resolve,e1,Deferred.ofValue,Oper.upon,wpOps]
 exact hQ
def Recovers (P:Program)(ops:Array Oper)(s:aVs)(f:Value->aVs):Prop :=
 ∀(cs:List Frame) (w:World) (Q:Exit->Act->List Frame->World->Prop),
  (∀ v cs',(recoverD cs=some (v,cs')∨(recoverD cs=none/\v=.nilIface/\cs'=cs))->Q .normal (act (f v) []) cs' w)->wpOpsS P ops Q (List.range ops.size) (act s []) cs w
def recQ (P:Program)(fn:Func)(s:aVs)(R:Ending->Heap->Prop):QQ:=λe _ h =>
 match e with
 | .normal=>RetVC P fn s h λv h=>R (.returned v) h
 | .ret=>RetVC P fn s h λv h=>R (.returned v) h
 | _=>False
theorem LeaveVC.recovers {P:Program}{fn gn:Func}{g:FuncId}{id n:Nat}{ops:Array Oper}{rest:Code}{cap s:aVs}{h:Heap}{R:Ending->Heap->Prop}{u:FrameMode}{f:Value->aVs}(v:Value)
  (hg:P.funcs[g]?=some gn) (hb:gn.body=some (.seq (.region id ops false) rest)) (hn:gn.ntmps=n) (hname:(gn.name == "runtime.NumGoroutine")=false) (hres:gn.results=#[])
  (hu:(u=.returning/\v=.nilIface)∨u=.panicking [{ v,recovered:=false }])
  (hrec:Recovers P ops (cap++List.replicate (n - cap.length) undef) f) (hv:vcode P rest (recQ P fn s R) (f v) h) :
  LeaveVC P fn ⟨.fn (.func g) ⟨cap⟩,#[]⟩ u s h R where
 lv w0 w hs hw:=by
  subst hw;have hun:u≠.run:=by
   rcases hu with ⟨rfl,_⟩|rfl<;>intro e<;>cases e
  refine leaves_cons (f:=g) (args:=⟨cap⟩) hun ?_ ?_
  ·have h1:¬ gn.name = "runtime.NumGoroutine":=by simpa using hname
   have h2:¬ gn.body=none:=by intro e;simp[e]at hb
   simp[invoke,callFunc,hg,h1,h2]
  ·refine callsD_of_wpS hg hb ?_
   intro c₀ cs hc;have he:({ tmps:=(⟨cap⟩:Array Value)++Array.replicate (gn.ntmps - (⟨cap⟩:Array Value).size) undef,defers:=[] }:Act)=act (cap++List.replicate (n - cap.length) undef) []:=by
    simp[act,hn]
   rw[he]
   refine wpS_seq (wpS_region (hrec _ _ _ ?_));intro v' cs' hv';have key:v'=v/\∃ u',cs'={ c₀ with mode:=u' }::cs/\settle u'=.returning:=by
    rcases hu with ⟨rfl,rfl⟩|rfl
    ·have:recoverD (c₀::cs)=none:=by simp[recoverD,hc]
     rw[this]at hv'
     rcases hv' with h|⟨_,rfl,rfl⟩
     ·cases h
     ·exact⟨rfl,.returning,by rw[← hc],rfl⟩
    ·have:recoverD (c₀::cs)=some (v,{ c₀ with mode:=.panicking [{ v,recovered:=true }] }::cs):=by simp[recoverD,hc]
     rw[this]at hv'
     rcases hv' with h|⟨h,_⟩
     ·injection h with h
      injection h with h1 h2
      exact⟨h1.symm,_,h2.symm,rfl⟩
     ·cases h
   obtain⟨rfl,u',rfl,hu'⟩:=key
   refine wpS_of_wp (wp_mono (eH (w0:=w0) (ds:=[]) rest _ _ w hs hv) ?_);rintro e a w' ⟨s',rfl,hs',hq⟩;have hr:∀ q:RetVC P fn s w'.heap (λv h=>R (.returned v) h),Leaves P fn s.toArray (λe w'=>Same w0 w'/\R e w'.heap) [] (settle u') w':=by
    intro q
    obtain⟨r,hr,hR⟩:=q.ex
    rw[hu']
    exact⟨r,hr w' rfl,hs',hR⟩
   cases e with
   | normal=>exact⟨rfl,u',rfl,.tuple #[],by rw[results_none hres],hr hq⟩
   | ret=>exact⟨rfl,u',rfl,.tuple #[],by rw[results_none hres],hr hq⟩
   | _=>exact hq.elim
section
variable {P : Program} {ty : TypeId} {s : aVs} {h : Heap} {K : KK} {Q : QQ} {pr : Bool}
theorem StillVC.nC {x:Operand}{a:Addr}(hx:ev s x=.pointer (some a))(hk:K (.pointer (some a)) false h):StillVC pr P (.nilCheck x) ty s h K :=
 .pure' _ false (λw=>by simp[execOp,hx]) hk
def lH (P:Program)(t:TypeId):Bool :=
 match P.underlying t with
 | some (.interface _)=>false
 | some _=>true
 | none=>false
theorem StillVC.aDE {t:TypeId}{x:Operand}{v:Value}(hb:lH P t=true)(hx:ev s x=v)(hk:K (.iface t v) false h):StillVC pr P (.makeInterface t x) ty s h K:=by
 refine .pure' _ false (λw=>?_) hk;unfold lH at hb;split at hb
 ·cases hb
 ·rename_i d hd hne
  simp only[execOp,hx,Instr.makeInterface,Sem.run_bind,run_underlying hne,Result.andThen_ok]
  cases d<;>first|(exact absurd rfl (hd _))|simp
 ·cases hb
theorem StillVC.assertOk {t tx:TypeId}{x:Operand}{v:Value}(hb:lH P t=true)(hx:ev s x=.iface t v)(hk:K (.tuple ⟨[v,.bool true]⟩) false h):StillVC pr P (.typeAssert x tx t true) ty s h K:=by
 refine .pure' _ false (λw=>?_) hk;unfold lH at hb;split at hb
 ·cases hb
 ·rename_i d hd hne
  simp only[execOp,hx,Instr.typeAssert,Sem.run_bind,run_underlying hne,Result.andThen_ok]
  cases d<;>first|(exact absurd rfl (hd _))|simp
 ·cases hb
theorem RunVC.panicI {x:Operand}{t:TypeId}{v:Value}(hx:ev s x=.iface t v)(hq:Q (.panic [{ v:=.iface t v,recovered:=false }]) s h):RunVC P (.panic x) ty s h K Q :=
 .panics λw hw=>⟨.iface t v,w,by simp[execOp,hx,Instr.panic,goPanic],.refl w,by rw[hw];exact hq⟩
structure ArrT (P:Program) (t e:TypeId) (n:Nat) (z:Value) (by_:Nat):Prop where
 arr:P.underlying t=some (.array n e)
 el:TyI P e false [z] by_
theorem StillVC.indexA {t e:TypeId}{n by_:Nat}{z:Value}{x i:Operand}{cs:aVs}{k:IntKind}{m:Int}{u:Value}(hT:ArrT P t e n z by_)(hx:ev s x=.agg ⟨cs⟩)(hi:ev s i=.int k m)(h0:0<=m)(h1:m<n)(hu:cs[m.toNat]?=some u)(hk:K u false h) :
  StillVC pr P (.index t x i) ty s h K:=by
 refine .pure' _ false (λw=>?_) hk
 simp[execOp,hx,hi,Instr.index,run_underlying hT.arr,h0,h1,hT.el.sizeOf,part,hT.el.isAgg,hu,asIntOf]
theorem StillVC.buildA {t e:TypeId}{n by_ byA:Nat}{z:Value}{zero:aVs}{parts:List (Nat×Operand)}(hT:ArrT P t e n z by_)(hZ:TyI P t true zero byA)(hzl:zero.length=n)
  (hp:parts.map (·.1)=List.range' 0 parts.length) (hn:parts.length=n) (hk:zT s (parts.map (·.2)) λvs=>vs.all (λu=>u.oneCell')=true/\K (.agg ⟨vs⟩) false h):StillVC pr P (.build t ⟨parts⟩) ty s h K:=by
 rw[pP]at hk
 obtain⟨h1,hk⟩:=hk
 refine .pure' _ false (λw=>?_) hk
 obtain⟨inf,z',hi,_,hz,hc,_⟩:=hZ.info
 have hzr:=nH parts s 0 hp;have hus:∀ u∈(parts.map (·.2)).map (ev s),u.cells.toList.length=1/\u.cells.toList=[u]:=by
  intro u hu
  have:=aD4.1 h1 u hu
  cases u<;>simp[Value.oneCell']at this<;>exact⟨rfl,rfl⟩
 have hul:((parts.map (·.2)).map (ev s)).length=n:=by simpa using hn
 generalize (parts.map (·.2)).map (ev s)=us at *
 have hflat:us.flatMap (λu=>u.cells.toList)=us:=by
  clear hzr hul hk h1
  induction us with
  | nil=>rfl
  | cons u us ih=>rw[aEf,(hus u zS).2,ih (λv hv=>hus v (by simp[hv]))];rfl
 have hfill:=aCa 1 us 0 zero (λu hu=>(hus u hu).1) zO
 rw[hflat,aEg,hul,Nat.zero_mul,aES,lnA,Nat.mul_one,aEt zO,aD7]at hfill
 simp only[Nat.mul_one]at hfill
 have hparts:((⟨parts⟩:Array (Nat×Operand)).map λx=>match x with|(i,x)=>(i,ev s x)).toList=us.zipIdx.map (λp=>(p.2,p.1)):=by
  rw[← hzr];simp
 have key:(Instr.build t ((⟨parts⟩:Array (Nat×Operand)).map λx=>match x with|(i,x)=>(i,ev s x))).run P w=.ok (.agg us.toArray) w:=by
  unfold Instr.build
  simp only[Sem.run_bind,zeroValue,typeInfo,run_program,hi,hz,Sem.run_pure,Result.andThen_ok,run_underlying hT.arr,hT.el.sizeOf,hc,hparts]
  simp[hfill]
 simp only[List.map_toArray]at key
 simp[execOp,key]
theorem aAA {fn:Func}{a b c ta tb tc:Nat}{za zb zc:aVs}{ya yb yc pa pb pc:Nat}{u v x:Value}(hf:fn.results=#[.cell a ta,.cell b tb,.cell c tc])
  (hA:TyI P ta false za ya) (hB:TyI P tb false zb yb) (hC:TyI P tc false zc yc) (ea:sget s a=.pointer (some ⟨pa,0,none⟩)) (eb:sget s b=.pointer (some ⟨pb,0,none⟩)) (ec:sget s c=.pointer (some ⟨pc,0,none⟩))
  (ca:bI h ⟨pa,0,none⟩=some u) (cb:bI h ⟨pb,0,none⟩=some v) (cc:bI h ⟨pc,0,none⟩=some x) (w:World) (hw:w.heap=h) :
  (results fn s.toArray).run P w=.ok (.tuple ⟨[u,v,x]⟩) w:=by
 have e1:s.toArray.getD a undef=.pointer (some ⟨pa,0,none⟩):=by rw[← ea,← dS];simp
 have e2:s.toArray.getD b undef=.pointer (some ⟨pb,0,none⟩):=by rw[← eb,← dS];simp
 have e3:s.toArray.getD c undef=.pointer (some ⟨pc,0,none⟩):=by rw[← ec,← dS];simp
 simp only[Array.getD_eq_getD_getElem?,aEl]at e1 e2 e3
 subst hw
 rw[← hH]at ca cb cc
 simp[results,hf,e1,e2,e3,asAddr,loadVar,hA.isAgg,hB.isAgg,hC.isAgg,run_load,ca,cb,cc]
theorem RetVC.cell3 {fn:Func}{R:Value->Heap->Prop}{a b c ta tb tc:Nat}{za zb zc:aVs}{ya yb yc pa pb pc:Nat}{u v x:Value}(hf:fn.results=#[.cell a ta,.cell b tb,.cell c tc])
  (hA:TyI P ta false za ya) (hB:TyI P tb false zb yb) (hC:TyI P tc false zc yc) (ea:sget s a=.pointer (some ⟨pa,0,none⟩)) (eb:sget s b=.pointer (some ⟨pb,0,none⟩)) (ec:sget s c=.pointer (some ⟨pc,0,none⟩))
  (ca:bI h ⟨pa,0,none⟩=some u) (cb:bI h ⟨pb,0,none⟩=some v) (cc:bI h ⟨pc,0,none⟩=some x) (hr:R (.tuple ⟨[u,v,x]⟩) h):RetVC P fn s h R where
 ex:=⟨_,λw hw=>aAA hf hA hB hC ea eb ec ca cb cc w hw,hr⟩
end
section
variable {P : Program} {ops : Array Oper} {Q : Exit -> Act -> World -> Prop}
def jU (E:Heap->Heap->Prop)(P:Program)(ops:Array Oper)(Q:Exit->Act->World->Prop)(fl:Nat->Bool):Nat->Array Bool->Act->World->Prop
 | 0,listed,a,w=>Region.ready .any ops listed=[]/\Q .normal a w
 | n+1,listed,a,w =>
  (Region.ready .any ops listed=[]->Q .normal a w) /\
  ∀ i∈Region.ready .any ops listed,wpOp P ops Q i (λa' w'=>(fl i=true->E w.heap w'.heap)/\jU E P ops Q fl n (listed.setIfInBounds i true) a' w') a w
theorem vH {E:Heap->Heap->Prop}{fl:Nat->Bool}:∀(n:Nat)(listed:Array Bool)(a:Act)(w:World),jU E P ops Q fl n listed a w->wpAny P .any ops Q n listed a w
 | 0,_,_,_,h=>h
 | n+1,_,_,_,h=>⟨h.1,λi hi=>wpOp_mono (λa w h=>vH n _ a w h.2) (h.2 i hi)⟩
theorem mH {E:Heap->Heap->Prop}{fl:Nat->Bool}{i:Nat}{oi:Oper}{v:Value}{reads:List (Addr×Value)}(hi:ops[i]?=some oi)(hsel:∀(j:Nat)(o:Oper) cs b,ops[j]?=some o->o.op≠.select cs b)
  (hQ:∀ c a w,Q (.panic c) (a.put oi.dst v) w->Q (.panic c) a w)
  (hE0:∀ h,E h h) (hEA:∀ h h',E h h'->∀ r∈reads,bI h r.1=some r.2->bI h' r.1=some r.2)
  (hfl:reads=[]∨∀ j,j≠i->fl j=false->i∈clo ops ops.size (edges ops j)) :
  ∀(n:Nat) (listed:Array Bool) (a:Act) (w:World),Closed ops listed ->
   (∀ j oj,ops[j]?=some oj->j≠i->listed.getD j true=false->(∀ e∈oj.after,Region.binds .any e=true->e.on≠i)->oi.apart ops oj=true) ->
   i∈Region.ready .any ops listed->iX P ops oi v reads a->(∀ r∈reads,w.cell? r.1=some r.2) ->
   jU E P ops Q fl n (listed.setIfInBounds i true) (a.put oi.dst v) w->jU E P ops Q fl (n+1) listed a w:=by
 intro n;have first:∀(n:Nat) (listed:Array Bool) (a:Act) (w:World),iX P ops oi v reads a->(∀ r∈reads,w.cell? r.1=some r.2)->jU E P ops Q fl n (listed.setIfInBounds i true) (a.put oi.dst v) w ->
   wpOp P ops Q i (λa' w'=>(fl i=true->E w.heap w'.heap)/\jU E P ops Q fl n (listed.setIfInBounds i true) a' w') a w:=λn listed a w hy hr H =>
  hy.wpOp hi hr ⟨λ_=>hE0 _,H⟩
 induction n with
 | zero =>
  intro listed a w _ _ hr hy hrd H
  refine⟨λh=>(by rw[h]at hr;cases hr),λj hj=>?_⟩
  by_cases hji:j=i
  ·subst hji;exact first 0 listed a w hy hrd H
  ·have:=ready_mono hj hji
   rw[H.1]at this
   cases this
 | succ n ih =>
  intro listed a w hcl hfree hr hy hrd H
  refine⟨λh=>(by rw[h]at hr;cases hr),λj hj=>?_⟩
  by_cases hji:j=i
  ·subst hji;exact first (n+1) listed a w hy hrd H
  ·have h1:=H.2 j (ready_mono hj hji)
   obtain⟨hjun,oj,hoj,hall⟩:=mem_ready.1 hj
   have hiun:listed.getD i false=false:=by
    have h0:=(mem_ready.1 hr).1
    rcases Nat.lt_or_ge i listed.size with h'|h'
    ·simp[h']at h0 ⊢;exact h0
    ·simp[Array.getElem?_eq_none h']
   have hnot:∀ e∈oj.after,Region.binds .any e=true->e.on≠i:=λe he hb heq=>by
    have h1:=hall e he hb
    rw[heq,hiun]at h1;cases h1
   have hflj:reads=[]∨fl j=true:=by
    rcases hfl with h|h
    ·exact .inl h
    ·right
     cases hf:fl j with
     | true=>rfl
     | false =>
      have:=rI hcl _ _ (pI hj) i (h j hji hf)
      rw[hiun]at this;cases this
   have h2:=aBM hoj (hfree j oj hoj hji hjun hnot) (λcs b=>hsel i oi cs b hi) (λcs b=>hsel j oj cs b hoj) hQ hy h1;have hfree':∀ k ok,ops[k]?=some ok->k≠i->(listed.setIfInBounds j true).getD k true=false ->
     (∀ e∈ok.after,Region.binds .any e=true->e.on≠i)->oi.apart ops ok=true:=λk ok hk hki hun hno=>by
    refine hfree k ok hk hki ?_ hno;by_cases hjk:j=k
    ·subst hjk;exact hjun
    ·rw[getD_set_ne true hjk]at hun;exact hun
   refine wpOp_mono (λa' w' h3=>⟨h3.2.1,ih (listed.setIfInBounds j true) a' w' (hcl.set hj) hfree' (ready_mono hr (Ne.symm hji)) h3.1 ?_ ?_⟩) h2
   ·rcases hflj with rfl|hflj
    ·simp
    ·intro r hr'
     exact hEA _ _ (h3.2.1 hflj) r hr' (hrd r hr')
   ·rw[Array.setIfInBounds_comm _ _ hji]
    exact h3.2.2
end
structure StillVCA (A:Addr->Prop) (P:Program) (op:Op) (ty:TypeId) (s:aVs) (h:Heap) (K:KK):Prop where
 ex:∃(v:Value) (l:Bool) (reads:List (Addr×Value)),(∀ r∈reads,bI h r.1=some r.2)/\(∀ r∈reads,A r.1) /\
  (∀ w:World,(∀ r∈reads,w.cell? r.1=some r.2)->(execOp (ev s) ⟨none,op,ty, "",#[],none⟩).run P w=.ok (.value v) w)/\K v l h
theorem StillVC.toA {A:Addr->Prop}{P:Program}{op:Op}{ty:TypeId}{s:aVs}{h:Heap}{K:KK}(r:StillVC true P op ty s h K):StillVCA A P op ty s h K:=by
 obtain⟨v,l,reads,he,hr,hw,hk⟩:=r.ex
 have:=he rfl
 subst this
 exact⟨v,l,[],hr,by simp,hw,hk⟩
def vopSA (A:Addr->Prop)(P:Program)(op:Op)(ty:TypeId)(D:List Nat)(s:aVs)(h:Heap)(K:KK):Prop :=
 vopF (StillVCA A P op ty s h K) (λ_ _=>False) op D s h K
theorem yD {A:Addr->Prop}{P:Program}{op:Op}{ty:TypeId}{D:List Nat}{s:aVs}{h:Heap}{K:KK}(hv:vopSA A P op ty D s h K):StillVCA A P op ty s h K:=by
 rcases uN (pr:=true) (P:=P) (ty:=ty) hv with h|h|⟨f,args,tys,g,first,cap,_,_,h⟩
 ·exact h
 ·exact h.toA
 ·exact h.elim
theorem StillVCA.load1 {A:Addr->Prop}{P:Program}{ty:TypeId}{s:aVs}{h:Heap}{K:KK}{t:TypeId}{x:Operand}{zero:aVs}{by_:Nat}{a:Addr}{v:Value}(hT:TyI P t false zero by_)(hx:ev s x=.pointer (some a))(hA:A a)(hc:bI h a=some v)(hk:K v false h):StillVCA A P (.load t x) ty s h K :=
 ⟨v,false,[(a,v)],by simpa using hc,by simpa using hA,λw hw=>by
  have:w.cell? a=some v:=hw (a,v) zS
  simp[execOp,hx,Instr.loadAt,Instr.sureAddr,loadVar,hT.isAgg,run_load,this],hk⟩
def pY (E:Heap->Heap->Prop)(A:Addr->Prop)(P:Program)(st0 stR tails:List Nat)(i:Nat)(op:Op)(ty:TypeId)(D:List Nat)(s:aVs)(h:Heap)(K:KK)(Q:QQ):Prop :=
 bif mem st0 i then vopS true P op ty D s h K
 else bif mem stR i then vopSA A P op ty D s h K
 else bif mem tails i then vop P op ty D s h K Q
 else vop P op ty D s h (λv l h'=>E h h'/\K v l h') Q
def lJ (E:Heap->Heap->Prop)(A:Addr->Prop)(P:Program)(L:List Oper)(st0 stR tails:List Nat)(i:Nat)(ih:List Nat->aVs->Heap->QQ->Prop)(D:List Nat)(s:aVs)(h:Heap)(Q:QQ):Prop :=
  match sV L i with
  | none=>False
  | some ⟨dst,op,ty,_,_,none⟩ =>
   pY E A P st0 stR tails i op ty D s h (λv l h'=>eI s dst v λs'=>ih (gU D dst l) s' h' Q) Q
  | some ⟨dst,op,ty,_,_,some (j,want)⟩ =>
   match nG L j with
   | none=>False
   | some g =>
    match mem D g with
    | true =>
     (match sget s g with
     | .bool true =>
      (match want with
      | true=>pY E A P st0 stR tails i op ty D s h (λv l h'=>eI s dst v λs'=>ih (gU D dst l) s' h' Q) Q
      | false=>eI s dst undef λs'=>ih (gU D dst false) s' h Q)
     | .bool false =>
      (match want with
      | true=>eI s dst undef λs'=>ih (gU D dst false) s' h Q
      | false=>pY E A P st0 stR tails i op ty D s h (λv l h'=>eI s dst v λs'=>ih (gU D dst l) s' h' Q) Q)
     | _=>eI s dst undef λs'=>ih (gU D dst false) s' h Q)
    | false =>
     (match sget s g with
     | .bool t =>
      Br t
       (oP s g (.bool true) λs =>
        match want with
        | true=>pY E A P st0 stR tails i op ty (g::D) s h (λv l h'=>eI s dst v λs'=>ih (gU (g::D) dst l) s' h' Q) Q
        | false=>eI s dst undef λs'=>ih (gU (g::D) dst false) s' h Q)
       (oP s g (.bool false) λs =>
        match want with
        | true=>eI s dst undef λs'=>ih (gU (g::D) dst false) s' h Q
        | false=>pY E A P st0 stR tails i op ty (g::D) s h (λv l h'=>eI s dst v λs'=>ih (gU (g::D) dst l) s' h' Q) Q)
     | _=>eI s dst undef λs'=>ih (gU D dst false) s' h Q)
def pF (E:Heap->Heap->Prop)(A:Addr->Prop)(P:Program)(L:List Oper)(st0 stR tails:List Nat)(l:List Nat):List Nat->aVs->Heap->QQ->Prop :=
 List.rec (motive:=λ_=>List Nat->aVs->Heap->QQ->Prop) (λ_ s h Q=>Q .normal s h) (λi _ ih=>lJ E A P L st0 stR tails i ih) l
theorem aAh (E:Heap->Heap->Prop)(A:Addr->Prop)(P:Program)(L:List Oper)(st0 stR tails:List Nat)(i:Nat)(rest D:List Nat)(s:aVs)(h:Heap)(Q:QQ):pF E A P L st0 stR tails (i::rest) D s h Q=lJ E A P L st0 stR tails i (pF E A P L st0 stR tails rest) D s h Q:=rfl
section
variable {P : Program} {ops : Array Oper} {Q : QQ} {w0 : World} {ds : List Deferred} {st0 stR tails : List Nat} {E : Heap -> Heap -> Prop} {A : Addr -> Prop}
theorem aAo {listed:Array Bool}{i n:Nat}{o:Oper}{s:aVs}{w:World}(hE0:∀ h,E h h)(hp:∀ c s s' h,Q (.panic c) s h->Q (.panic c) s' h)(hsel:Region.noSelect ops=true)
  (hi:ops[i]?=some o) (hw:Region.wanted o (yielded ops (act s ds).tmps)=false) (hcl:Closed ops listed)
  (hok:(bif mem st0 i||mem stR i then(Region.ready .any ops listed).contains i&&Region.free .any ops listed i else(Region.ready .any ops listed) == [i])=true)
  (ih:jU E P ops (lift w0 ds Q) (λj=>!mem tails j) n (listed.setIfInBounds i true) ((act s ds).put o.dst undef) w) :
  jU E P ops (lift w0 ds Q) (λj=>!mem tails j) (n+1) listed (act s ds) w:=by
 cases hc:(mem st0 i||mem stR i) with
 | true =>
  rw[hc]at hok
  simp only[cond_true,aD0]at hok
  exact mH hi (Region.noSelect_spec hsel) (wB hp _ _) hE0 zS (.inl rfl) n listed _ w hcl (Region.free_spec hi hok.2) (by simpa using hok.1) (.inr ⟨hw,rfl⟩) zS ih
 | false =>
  rw[hc]at hok
  simp only[cond_false,beq_iff_eq]at hok
  refine⟨λh=>(by rw[h]at hok;cases hok),λj hj=>?_⟩
  rw[hok]at hj
  simp only[aD5]at hj;subst hj
  unfold wpOp
  simp only[hi,hw,aD9,if_false]
  exact⟨λ_=>hE0 _,ih⟩
theorem aBT {listed:Array Bool}{i n:Nat}{dst:Option Tmp}{op:Op}{ty:TypeId}{pos:String}{after:Array Edge}{guard:Option (Nat×Bool)}{D:List Nat}{s:aVs}{w:World}{K:KK}
  (hE0:∀ h,E h h) (hEA:∀ h h' a v,E h h'->A a->bI h a=some v->bI h' a=some v) (hp:∀ c s s' h,Q (.panic c) s h->Q (.panic c) s' h) (hsel:Region.noSelect ops=true) (htails:jV ops stR tails=true)
  (hi:ops[i]?=some ⟨dst,op,ty,pos,after,guard⟩) (hw:Region.wanted ⟨dst,op,ty,pos,after,guard⟩ (yielded ops (act s ds).tmps)=true) (hcl:Closed ops listed) (hs:Same w0 w)
  (hok:(bif mem st0 i||mem stR i then(Region.ready .any ops listed).contains i&&Region.free .any ops listed i else(Region.ready .any ops listed) == [i])=true)
  (hv:pY E A P st0 stR tails i op ty D s w.heap K Q)
  (ih:∀ v l w',Same w0 w'->K v l w'.heap->jU E P ops (lift w0 ds Q) (λj=>!mem tails j) n (listed.setIfInBounds i true) ((act s ds).put dst v) w') :
  jU E P ops (lift w0 ds Q) (λj=>!mem tails j) (n+1) listed (act s ds) w:=by
 have still:(mem st0 i||mem stR i)=true->(mem stR i=false->vopS true P op ty D s w.heap K)->(mem stR i=true->StillVCA A P op ty s w.heap K)->jU E P ops (lift w0 ds Q) (λj=>!mem tails j) (n+1) listed (act s ds) w:=by
  intro hc hv0 hvR
  rw[hc]at hok
  simp only[cond_true,aD0]at hok
  cases hm:mem stR i with
  | false =>
   obtain⟨v,l,reads,hre,hr,hrun,hk⟩:=(oM (hv0 hm)).ex
   have:=hre rfl
   subst this;exact mH (oi:=⟨dst,op,ty,pos,after,guard⟩) (v:=v) (reads:=[]) hi (Region.noSelect_spec hsel) (wB hp _ _) hE0 zS (.inl rfl) n listed _ w hcl (Region.free_spec hi hok.2) (by simpa using hok.1) (.inl ⟨hw,λw hw'=>by rw[fV,eU];exact hrun w hw'⟩) (λr hm=>hr r hm) (ih v l w hs hk)
  | true =>
   obtain⟨v,l,reads,hr,hA,hrun,hk⟩:=(hvR hm).ex
   refine mH (oi:=⟨dst,op,ty,pos,after,guard⟩) (v:=v) (reads:=reads) hi (Region.noSelect_spec hsel) (wB hp _ _) hE0 (λh h' he r hr' hc=>hEA h h' r.1 r.2 he (hA r hr') hc) ?_ n listed _ w hcl (Region.free_spec hi hok.2) (by simpa using hok.1) (.inl ⟨hw,λw hw'=>by rw[fV,eU];exact hrun w hw'⟩) (λr hm=>hr r hm) (ih v l w hs hk)
   right
   intro j hne hf;have hjt:j∈tails:=by rw[← mem_iff];simpa using hf
   have:=aD4.1 (aD4.1 htails j hjt) i ((mem_iff _ _).1 hm)
   simp only[aEB,beq_iff_eq]at this
   rcases this with h|h
   ·exact absurd h.symm hne
   ·simpa using h
 unfold pY at hv;cases h0:mem st0 i with
 | true =>
  rw[h0]at hv
  refine still (by simp[h0]) (λ_=>hv) (λ_=>?_)
  exact(oM hv).toA
 | false =>
  rw[h0]at hv
  simp only[cond_false]at hv
  cases hR:mem stR i with
  | true=>rw[hR]at hv;exact still (by simp[hR]) (λh=>by rw[hR]at h;cases h) (λ_=>yD hv)
  | false =>
   rw[hR]at hv
   simp only[cond_false]at hv
   rw[h0,hR]at hok
   simp only[Bool.or_false,cond_false,beq_iff_eq]at hok
   have fin:∀ K':KK,(∀ v l h',K' v l h'->(mem tails i=false->E w.heap h')/\K v l h')->vop P op ty D s w.heap K' Q->jU E P ops (lift w0 ds Q) (λj=>!mem tails j) (n+1) listed (act s ds) w:=by
    intro K' hK' hv'
    refine⟨λh=>(by rw[h]at hok;cases hok),λj hj=>?_⟩
    rw[hok]at hj
    simp only[aD5]at hj;subst hj
    unfold wpOp
    simp only[hi,hw,if_true]
    exact .inl ((nZ hv').run w rfl ds dst pos after guard _ _
     (λv l w' hw' hk=>⟨λhf=>(hK' v l _ hk).1 (by simpa using hf),ih v l w' (hs.trans hw') (hK' v l _ hk).2⟩)
     (λc w' hw' hq=>⟨s,rfl,hs.trans hw',hq⟩))
   cases ht:mem tails i with
   | true=>rw[ht]at hv;exact fin K (λv l h' hk=>⟨λh=>(by rw[ht]at h;cases h),hk⟩) hv
   | false=>rw[ht]at hv;exact fin _ (λv l h' hk=>⟨λ_=>hk.1,hk.2⟩) hv
theorem yC (hE0:∀ h,E h h)(hEA:∀ h h' a v,E h h'->A a->bI h a=some v->bI h' a=some v)(hp:∀ c s s' h,Q (.panic c) s h->Q (.panic c) s' h)(hsel:Region.noSelect ops=true)(htails:jV ops stR tails=true) :
  ∀(ord:List Nat) (D:List Nat) (s:aVs) (w:World) (listed:Array Bool),Same w0 w->Closed ops listed->rT ops st0 stR ord listed=true->pF E A P ops.toList st0 stR tails ord D s w.heap Q ->
   jU E P ops (lift w0 ds Q) (λj=>!mem tails j) ord.length listed (act s ds) w
 | [],D,s,w,listed,hs,_,hok,hv=>⟨by simpa[rT] using hok,s,rfl,hs,hv⟩
 | i::rest,D,s,w,listed,hs,hcl,hok,hv=>by
  simp only[rT,aD0]at hok
  obtain⟨hok,hrest⟩:=hok
  have hready:i∈Region.ready .any ops listed:=by
   cases hc:(mem st0 i||mem stR i) with
   | true=>rw[hc]at hok;simp only[cond_true,aD0]at hok;simpa using hok.1
   | false=>rw[hc]at hok;simp only[cond_false,beq_iff_eq]at hok;rw[hok];simp
  have hcl':=hcl.set hready;have goOn:∀ D s (w:World),Same w0 w->pF E A P ops.toList st0 stR tails rest D s w.heap Q->jU E P ops (lift w0 ds Q) (λj=>!mem tails j) rest.length (listed.setIfInBounds i true) (act s ds) w :=
   λD s w hs hv=>yC hE0 hEA hp hsel htails rest D s w _ hs hcl' hrest hv
  simp only[aAh,lJ]at hv
  cases ho:sV ops.toList i with
  | none=>simp[ho]at hv
  | some o =>
   have hi:ops[i]?=some o:=by rw[← ho,← qZ];simp
   obtain⟨dst,op,ty,pos,after,guard⟩:=o
   have run:∀ D D' s,Region.wanted ⟨dst,op,ty,pos,after,guard⟩ (yielded ops (act s ds).tmps)=true ->
     pY E A P st0 stR tails i op ty D s w.heap (λv l h'=>eI s dst v λs'=>pF E A P ops.toList st0 stR tails rest (gU D' dst l) s' h' Q) Q ->
     jU E P ops (lift w0 ds Q) (λj=>!mem tails j) (rest.length+1) listed (act s ds) w:=λD D' s hw hv =>
    aBT hE0 hEA hp hsel htails hi hw hcl hs hok hv λv l w' hs' hk=>by rw[iD];rw[gQ]at hk;exact goOn _ _ _ hs' hk
   have skip:∀ D s,Region.wanted ⟨dst,op,ty,pos,after,guard⟩ (yielded ops (act s ds).tmps)=false ->
     (eI s dst undef λs'=>pF E A P ops.toList st0 stR tails rest D s' w.heap Q) ->
     jU E P ops (lift w0 ds Q) (λj=>!mem tails j) (rest.length+1) listed (act s ds) w:=λD s hw hk =>
    aAo hE0 hp hsel hi hw hcl hok (by rw[iD];rw[gQ]at hk;exact goOn _ _ _ hs hk)
   cases guard with
   | none=>simp only[ho]at hv;exact run _ _ _ (by simp[Region.wanted]) hv
   | some gw =>
    obtain⟨j,want⟩:=gw
    simp only[ho]at hv
    cases hd:nG ops.toList j with
    | none=>simp[hd]at hv
    | some g =>
     simp only[hd]at hv
     cases hm:mem D g with
     | true =>
      simp only[hm]at hv
      split at hv
      ·rename_i hg
       have hy:=dZ (ds:=ds) hd hg;cases want with
       | true=>exact run _ _ _ (by simp[Region.wanted,hy]) hv
       | false=>exact skip _ _ (by simp[Region.wanted,hy]) hv
      ·rename_i hg
       have hy:=dZ (ds:=ds) hd hg;cases want with
       | false=>exact run _ _ _ (by simp[Region.wanted,hy]) hv
       | true=>exact skip _ _ (by simp[Region.wanted,hy]) hv
      ·rename_i h1 h2
       have hy:=eY (ds:=ds) (s:=s) hd (λt e=>match t,e with|true,e=>h1 e|false,e=>h2 e);exact skip _ _ (by simp[Region.wanted,hy]) hv
     | false =>
      simp only[hm]at hv
      split at hv
      ·rename_i t hg
       have hy:=dZ (ds:=ds) hd hg;cases t with
       | true =>
        have hv:=hv.y rfl
        rw[gA,hG s g _ hg]at hv
        cases want with
        | true=>exact run _ _ _ (by simp[Region.wanted,hy]) hv
        | false=>exact skip _ _ (by simp[Region.wanted,hy]) hv
       | false =>
        have hv:=hv.n rfl
        rw[gA,hG s g _ hg]at hv
        cases want with
        | false=>exact run _ _ _ (by simp[Region.wanted,hy]) hv
        | true=>exact skip _ _ (by simp[Region.wanted,hy]) hv
      ·rename_i h1
       have hy:=eY (ds:=ds) (s:=s) hd (λt e=>h1 t e);exact skip _ _ (by simp[Region.wanted,hy]) hv
theorem DrawVC.introG {id:Nat}{s:aVs}{h:Heap}(E:Heap->Heap->Prop)(A:Addr->Prop)(hE0:∀ h,E h h)(hEA:∀ h h' a v,E h h'->A a->bI h a=some v->bI h' a=some v)
  (st0 stR tails ord:List Nat) (hm:P.follows .mixedOrders=true) (hok:tL ops st0 stR tails ord=true) (hlen:ord.length=ops.size)
  (hp:∀ c s s' h,Q (.panic c) s h->Q (.panic c) s' h) (hv:pF E A P ops.toList st0 stR tails ord [] s h Q):DrawVC P id ops s h Q where
 wp w0 w ds hw hs:=by
  subst hw
  simp only[tL,aD0]at hok
  refine wp_region_any hm (vH (E:=E) (fl:=λj=>!mem tails j) _ _ _ _ ?_);have hcl:Closed ops (Array.replicate ops.size false):=by
   intro j hj
   exfalso
   by_cases hlt:j<ops.size<;>simp[hlt]at hj
  have:=yC (P:=P) (w0:=w0) (ds:=ds) (E:=E) (A:=A) hE0 hEA hp hok.1.1 hok.1.2 ord [] s { w with drawn:=w.drawn+1 } _ (hs.trans ⟨rfl,rfl,rfl,by simp⟩) hcl hok.2 hv
  rw[hlen]at this
  exact this
theorem DrawVC.introB {id:Nat}{s:aVs}{h:Heap}(b:Nat)
  (st0 stR tails ord:List Nat) (hm:P.follows .mixedOrders=true) (hok:tL ops st0 stR tails ord=true) (hlen:ord.length=ops.size)
  (hp:∀ c s s' h,Q (.panic c) s h->Q (.panic c) s' h) (hv:pF (λh h'=>h'[b]?=h[b]?) (λa=>a.block=b) P ops.toList st0 stR tails ord [] s h Q):DrawVC P id ops s h Q :=
 DrawVC.introG (λh h'=>h'[b]?=h[b]?) (λa=>a.block=b) (λ_=>rfl) (λh h' a v he ha hc=>by subst ha;rw[iW he];exact hc) st0 stR tails ord hm hok hlen hp hv
end
theorem StillVC.aDg {P:Program}{ty:TypeId}{s:aVs}{h:Heap}{K:KK}{α:Type}{t:TypeId}{x:Operand}{zero:aVs}{by_ n i:Nat}{v:Value}{f:α->aVs}{ys:List α}{y:α}(hT:TyI P t true zero by_)(hA:aY zero.length h v n (ys.flatMap f))(hf:∀ y,(f y).length=zero.length)(hz:0<zero.length)
  (hx:ev s x=adr v (i*zero.length)) (hy:ys[i]?=some y) (hk:K (.agg ⟨f y⟩) false h):StillVC false P (.load t x) ty s h K :=
 .loadF hA hT hf hz hx hy hk
end Go.Proofs.YtohlogbnpfofpaaGreatDoor
