/- Part 14 of the proof of canonical: FnYv, FnYk. -/
import Derived.Test.YtohlogbnpfofpaaGreatDoorPC13
set_option linter.all false
set_option maxHeartbeats 100000000
set_option maxRecDepth 100000
namespace Go.Proofs.YtohlogbnpfofpaaGreatDoor
open Go StillVC
theorem fixedQ_ok {l:List Nmd}{ps:List Pc}(h:uL l=some ps):∀ f∈l,aBn f:=by
 cases l with
 | nil=>intro f hf;cases hf
 | cons x r =>
  have h:=pL h;intro f hf
  rcases aEg.1 hf with rfl|hf
  ·obtain⟨p,hp⟩:=h (uM f) (by simp)
   exact fixQ_ok hp
  ·obtain⟨p,hp⟩:=h ((uM f).map (aL [] [44]::·)) (aEy _ (aEy _ (aEz.2 ⟨f,hf,rfl⟩)))
   obtain⟨q,hq⟩:=nP hp
   exact fixQ_ok hq
theorem jU {x:Ex}(h:gR x=true):lH x∧fQ x=1:=by
 obtain⟨k,tb,ks,cs,ns,a,s,g,o⟩:=x
 obtain⟨rfl,rfl,h3,h4,rfl,rfl,rfl,rfl⟩:=of_decide_eq_true h
 obtain rfl:=aEl.1 h3;obtain rfl:=aEl.1 h4
 refine⟨?_,by rw[fQ,gK];rfl⟩
 rw[lH]
 exact⟨by omega,by simp,trivial,by simp,by simp,by simp,by simp,by omega,by simp,by simp,by simp⟩
def oL (x:It):Prop:=x.table.length≤1000000000000000∧x.attr.length≤1000000000000000∧(∀ c∈x.cols,aCy c)∧(∀ n∈x.names,n.length≤1000000000000000) ∧
 (-9223372036854775808≤x.by_∧x.by_≤9223372036854775807)∧(-9223372036854775808≤x.n∧x.n≤9223372036854775807)∧(-9223372036854775808≤x.m∧x.m≤9223372036854775807)∧(∀ t∈x.terms,aCw t)∧x.other.length≤1000000000000000∧x.oattr.length≤1000000000000000 ∧
 (∀ f∈x.fixed,aBn f)∧(∀ v∈x.vars,VrOK v)∧(∀ c∈x.conds,tC c)∧lH x.expr
theorem L0 {s:aBs}(h:s=[]):s.length≤1000000000000000:=by subst h;simp
theorem I0 {n:Int}(h:n=0):-9223372036854775808≤n∧n≤9223372036854775807:=by omega
theorem A0 {α:Type}{l:List α}{P:α→Prop}(h:l.length=0):∀ c∈l,P c:=by
 obtain rfl:=aEl.1 h;intro c hc;cases hc
theorem N0 {α:Type}{l:List α}{P:α→Prop}(h:l=[]):∀ c∈l,P c:=by
 subst h;intro c hc;cases hc
theorem part_ok1 {N:Nat}(hN:N≤1000000000000000) {x:It}{ps:List Pc}(hk:x.kind=1)(hb:fN x=true)(hz:x.kind=10∨gR x.expr=true)(hB:ItB N x)(h:dV x=some ps):oL x:=by
 obtain⟨b1,b2,b3,b4,b5,b6,b7,b8,b9,b10,b11,b12,b13,b14⟩:=of_decide_eq_true hb
 unfold dV at h
 rw[if_pos hk]at h
 obtain⟨_,_,_,h,_⟩:=aA h
 obtain⟨_,_,e1,h,_⟩:=aA h
 obtain⟨_,_,_,h,_⟩:=aA h
 obtain⟨_,_,e2,h,_⟩:=aA h
 exact⟨L0 (by rcases b2 with h|h|h|h|h|h|h<;>first|(exfalso;omega)|exact h),L0 (by rcases b3 with h|h|h|h|h<;>first|(exfalso;omega)|exact h),(fun c hc=>by obtain⟨_,_,e⟩:=uJ e1 c hc;exact colQ_ok e),(sK e2),I0 (by rcases b6 with h|h|h<;>first|(exfalso;omega)|exact h),I0 (by rcases b7 with h|h|h|h<;>first|(exfalso;omega)|exact h),I0 (by rcases b8 with h|h<;>first|(exfalso;omega)|exact h),A0 (by rcases b9 with h|h<;>first|(exfalso;omega)|exact h),L0 (by rcases b10 with h|h<;>first|(exfalso;omega)|exact h),L0 (by rcases b11 with h|h<;>first|(exfalso;omega)|exact h),A0 (by rcases b12 with h|h<;>first|(exfalso;omega)|exact h),A0 (by rcases b13 with h|h<;>first|(exfalso;omega)|exact h),A0 (by rcases b14 with h|h<;>first|(exfalso;omega)|exact h),(jU (hz.resolve_left (by omega))).1⟩
theorem part_ok2 {N:Nat}(hN:N≤1000000000000000) {x:It}{ps:List Pc}(hk:x.kind=2)(hb:fN x=true)(hz:x.kind=10∨gR x.expr=true)(hB:ItB N x)(h:dV x=some ps):oL x:=by
 obtain⟨b1,b2,b3,b4,b5,b6,b7,b8,b9,b10,b11,b12,b13,b14⟩:=of_decide_eq_true hb
 unfold dV at h
 rw[if_neg (by omega:¬ x.kind=1)]at h
 rw[if_pos hk]at h
 obtain⟨_,_,_,h,_⟩:=aA h
 obtain⟨_,_,e1,h,_⟩:=aA h
 exact⟨L0 (by rcases b2 with h|h|h|h|h|h|h<;>first|(exfalso;omega)|exact h),L0 (by rcases b3 with h|h|h|h|h<;>first|(exfalso;omega)|exact h),A0 (by rcases b4 with h|h<;>first|(exfalso;omega)|exact h),N0 (by rcases b5 with h|h|h|h<;>first|(exfalso;omega)|exact h),I0 (by rcases b6 with h|h|h<;>first|(exfalso;omega)|exact h),(lB e1),I0 (by rcases b8 with h|h<;>first|(exfalso;omega)|exact h),A0 (by rcases b9 with h|h<;>first|(exfalso;omega)|exact h),L0 (by rcases b10 with h|h<;>first|(exfalso;omega)|exact h),L0 (by rcases b11 with h|h<;>first|(exfalso;omega)|exact h),A0 (by rcases b12 with h|h<;>first|(exfalso;omega)|exact h),A0 (by rcases b13 with h|h<;>first|(exfalso;omega)|exact h),A0 (by rcases b14 with h|h<;>first|(exfalso;omega)|exact h),(jU (hz.resolve_left (by omega))).1⟩
theorem part_ok3 {N:Nat}(hN:N≤1000000000000000) {x:It}{ps:List Pc}(hk:x.kind=3)(hb:fN x=true)(hz:x.kind=10∨gR x.expr=true)(hB:ItB N x)(h:dV x=some ps):oL x:=by
 obtain⟨b1,b2,b3,b4,b5,b6,b7,b8,b9,b10,b11,b12,b13,b14⟩:=of_decide_eq_true hb
 unfold dV at h
 rw[if_neg (by omega:¬ x.kind=1)]at h
 rw[if_neg (by omega:¬ x.kind=2)]at h
 rw[if_pos hk]at h
 obtain⟨_,_,_,h,_⟩:=aA h
 obtain⟨_,_,e1,h,_⟩:=aA h
 obtain⟨_,_,_,h,_⟩:=aA h
 obtain⟨_,_,e2,h,_⟩:=aA h
 obtain⟨_,_,e3,h,_⟩:=aA h
 obtain⟨_,_,e4,h,_⟩:=aA h
 exact⟨(jM e1).1,(jM e1).2,A0 (by rcases b4 with h|h<;>first|(exfalso;omega)|exact h),N0 (by rcases b5 with h|h|h|h<;>first|(exfalso;omega)|exact h),(pF (by decide) e2),(by split at e3;exact lB e3;exact I0 (by rcases b7 with h|h|h|h<;>first|(exfalso;omega)|exact h)),(by split at e4;exact lB e4;exact I0 (by rcases b8 with h|h<;>first|(exfalso;omega)|exact h)),A0 (by rcases b9 with h|h<;>first|(exfalso;omega)|exact h),L0 (by rcases b10 with h|h<;>first|(exfalso;omega)|exact h),L0 (by rcases b11 with h|h<;>first|(exfalso;omega)|exact h),A0 (by rcases b12 with h|h<;>first|(exfalso;omega)|exact h),A0 (by rcases b13 with h|h<;>first|(exfalso;omega)|exact h),A0 (by rcases b14 with h|h<;>first|(exfalso;omega)|exact h),(jU (hz.resolve_left (by omega))).1⟩
theorem part_ok4 {N:Nat}(hN:N≤1000000000000000) {x:It}{ps:List Pc}(hk:x.kind=4)(hb:fN x=true)(hz:x.kind=10∨gR x.expr=true)(hB:ItB N x)(h:dV x=some ps):oL x:=by
 obtain⟨b1,b2,b3,b4,b5,b6,b7,b8,b9,b10,b11,b12,b13,b14⟩:=of_decide_eq_true hb
 unfold dV at h
 rw[if_neg (by omega:¬ x.kind=1)]at h
 rw[if_neg (by omega:¬ x.kind=2)]at h
 rw[if_neg (by omega:¬ x.kind=3)]at h
 rw[if_pos hk]at h
 obtain⟨_,_,_,h,_⟩:=aA h
 obtain⟨_,_,e1,h,_⟩:=aA h
 obtain⟨_,_,_,h,_⟩:=aA h
 obtain⟨_,_,e2,h,_⟩:=aA h
 obtain⟨_,_,_,h,_⟩:=aA h
 have e3:=pL h
 exact⟨(dR e1),L0 (by rcases b3 with h|h|h|h|h<;>first|(exfalso;omega)|exact h),A0 (by rcases b4 with h|h<;>first|(exfalso;omega)|exact h),N0 (by rcases b5 with h|h|h|h<;>first|(exfalso;omega)|exact h),I0 (by rcases b6 with h|h|h<;>first|(exfalso;omega)|exact h),(lB e2),I0 (by rcases b8 with h|h<;>first|(exfalso;omega)|exact h),(fun t ht=>by obtain⟨p,hp⟩:=e3 (bG t) (by simpa using aEz.2 ⟨t,ht,rfl⟩);exact termQ_ok hp),L0 (by rcases b10 with h|h<;>first|(exfalso;omega)|exact h),L0 (by rcases b11 with h|h<;>first|(exfalso;omega)|exact h),A0 (by rcases b12 with h|h<;>first|(exfalso;omega)|exact h),A0 (by rcases b13 with h|h<;>first|(exfalso;omega)|exact h),A0 (by rcases b14 with h|h<;>first|(exfalso;omega)|exact h),(jU (hz.resolve_left (by omega))).1⟩
theorem part_ok5 {N:Nat}(hN:N≤1000000000000000) {x:It}{ps:List Pc}(hk:x.kind=5)(hb:fN x=true)(hz:x.kind=10∨gR x.expr=true)(hB:ItB N x)(h:dV x=some ps):oL x:=by
 obtain⟨b1,b2,b3,b4,b5,b6,b7,b8,b9,b10,b11,b12,b13,b14⟩:=of_decide_eq_true hb
 unfold dV at h
 rw[if_neg (by omega:¬ x.kind=1)]at h
 rw[if_neg (by omega:¬ x.kind=2)]at h
 rw[if_neg (by omega:¬ x.kind=3)]at h
 rw[if_neg (by omega:¬ x.kind=4)]at h
 rw[if_pos hk]at h
 obtain⟨_,_,e1,h,_⟩:=aA h
 obtain⟨_,_,_,h,_⟩:=aA h
 obtain⟨_,_,e2,h,_⟩:=aA h
 exact⟨(jM e1).1,(jM e1).2,A0 (by rcases b4 with h|h<;>first|(exfalso;omega)|exact h),N0 (by rcases b5 with h|h|h|h<;>first|(exfalso;omega)|exact h),(pF (by decide) e2),I0 (by rcases b7 with h|h|h|h<;>first|(exfalso;omega)|exact h),I0 (by rcases b8 with h|h<;>first|(exfalso;omega)|exact h),A0 (by rcases b9 with h|h<;>first|(exfalso;omega)|exact h),L0 (by rcases b10 with h|h<;>first|(exfalso;omega)|exact h),L0 (by rcases b11 with h|h<;>first|(exfalso;omega)|exact h),A0 (by rcases b12 with h|h<;>first|(exfalso;omega)|exact h),A0 (by rcases b13 with h|h<;>first|(exfalso;omega)|exact h),A0 (by rcases b14 with h|h<;>first|(exfalso;omega)|exact h),(jU (hz.resolve_left (by omega))).1⟩
theorem part_ok6 {N:Nat}(hN:N≤1000000000000000) {x:It}{ps:List Pc}(hk:x.kind=6)(hb:fN x=true)(hz:x.kind=10∨gR x.expr=true)(hB:ItB N x)(h:dV x=some ps):oL x:=by
 obtain⟨b1,b2,b3,b4,b5,b6,b7,b8,b9,b10,b11,b12,b13,b14⟩:=of_decide_eq_true hb
 unfold dV at h
 rw[if_neg (by omega:¬ x.kind=1)]at h
 rw[if_neg (by omega:¬ x.kind=2)]at h
 rw[if_neg (by omega:¬ x.kind=3)]at h
 rw[if_neg (by omega:¬ x.kind=4)]at h
 rw[if_neg (by omega:¬ x.kind=5)]at h
 rw[if_pos hk]at h
 obtain⟨_,_,_,h,_⟩:=aA h
 obtain⟨_,_,e1,h,_⟩:=aA h
 obtain⟨_,_,_,h,_⟩:=aA h
 obtain⟨_,_,e2,h,_⟩:=aA h
 obtain⟨_,_,_,h,_⟩:=aA h
 exact⟨(dR e1),L0 (by rcases b3 with h|h|h|h|h<;>first|(exfalso;omega)|exact h),A0 (by rcases b4 with h|h<;>first|(exfalso;omega)|exact h),(sK e2),I0 (by rcases b6 with h|h|h<;>first|(exfalso;omega)|exact h),I0 (by rcases b7 with h|h|h|h<;>first|(exfalso;omega)|exact h),I0 (by rcases b8 with h|h<;>first|(exfalso;omega)|exact h),A0 (by rcases b9 with h|h<;>first|(exfalso;omega)|exact h),L0 (by rcases b10 with h|h<;>first|(exfalso;omega)|exact h),L0 (by rcases b11 with h|h<;>first|(exfalso;omega)|exact h),A0 (by rcases b12 with h|h<;>first|(exfalso;omega)|exact h),A0 (by rcases b13 with h|h<;>first|(exfalso;omega)|exact h),A0 (by rcases b14 with h|h<;>first|(exfalso;omega)|exact h),(jU (hz.resolve_left (by omega))).1⟩
theorem part_ok7 {N:Nat}(hN:N≤1000000000000000) {x:It}{ps:List Pc}(hk:x.kind=7)(hb:fN x=true)(hz:x.kind=10∨gR x.expr=true)(hB:ItB N x)(h:dV x=some ps):oL x:=by
 obtain⟨b1,b2,b3,b4,b5,b6,b7,b8,b9,b10,b11,b12,b13,b14⟩:=of_decide_eq_true hb
 unfold dV at h
 rw[if_neg (by omega:¬ x.kind=1)]at h
 rw[if_neg (by omega:¬ x.kind=2)]at h
 rw[if_neg (by omega:¬ x.kind=3)]at h
 rw[if_neg (by omega:¬ x.kind=4)]at h
 rw[if_neg (by omega:¬ x.kind=5)]at h
 rw[if_neg (by omega:¬ x.kind=6)]at h
 rw[if_pos hk]at h
 obtain⟨_,_,_,h,_⟩:=aA h
 obtain⟨_,_,e1,h,_⟩:=aA h
 obtain⟨_,_,_,h,_⟩:=aA h
 obtain⟨_,_,e2,h,_⟩:=aA h
 obtain⟨_,_,_,h,_⟩:=aA h
 obtain⟨_,_,e3,h,_⟩:=aA h
 obtain⟨_,_,e4,h,_⟩:=aA h
 exact⟨(dR e1),(dR e3),A0 (by rcases b4 with h|h<;>first|(exfalso;omega)|exact h),(sK e2),I0 (by rcases b6 with h|h|h<;>first|(exfalso;omega)|exact h),I0 (by rcases b7 with h|h|h|h<;>first|(exfalso;omega)|exact h),I0 (by rcases b8 with h|h<;>first|(exfalso;omega)|exact h),A0 (by rcases b9 with h|h<;>first|(exfalso;omega)|exact h),L0 (by rcases b10 with h|h<;>first|(exfalso;omega)|exact h),L0 (by rcases b11 with h|h<;>first|(exfalso;omega)|exact h),(fixedQ_ok e4),A0 (by rcases b13 with h|h<;>first|(exfalso;omega)|exact h),A0 (by rcases b14 with h|h<;>first|(exfalso;omega)|exact h),(jU (hz.resolve_left (by omega))).1⟩
theorem part_ok8 {N:Nat}(hN:N≤1000000000000000) {x:It}{ps:List Pc}(hk:x.kind=8)(hb:fN x=true)(hz:x.kind=10∨gR x.expr=true)(hB:ItB N x)(h:dV x=some ps):oL x:=by
 obtain⟨b1,b2,b3,b4,b5,b6,b7,b8,b9,b10,b11,b12,b13,b14⟩:=of_decide_eq_true hb
 unfold dV at h
 rw[if_neg (by omega:¬ x.kind=1)]at h
 rw[if_neg (by omega:¬ x.kind=2)]at h
 rw[if_neg (by omega:¬ x.kind=3)]at h
 rw[if_neg (by omega:¬ x.kind=4)]at h
 rw[if_neg (by omega:¬ x.kind=5)]at h
 rw[if_neg (by omega:¬ x.kind=6)]at h
 rw[if_neg (by omega:¬ x.kind=7)]at h
 rw[if_pos hk]at h
 obtain⟨_,_,e1,h,_⟩:=aA h
 obtain⟨_,_,_,h,_⟩:=aA h
 obtain⟨_,_,e2,h,_⟩:=aA h
 exact⟨(jM e1).1,(jM e1).2,A0 (by rcases b4 with h|h<;>first|(exfalso;omega)|exact h),N0 (by rcases b5 with h|h|h|h<;>first|(exfalso;omega)|exact h),I0 (by rcases b6 with h|h|h<;>first|(exfalso;omega)|exact h),I0 (by rcases b7 with h|h|h|h<;>first|(exfalso;omega)|exact h),I0 (by rcases b8 with h|h<;>first|(exfalso;omega)|exact h),A0 (by rcases b9 with h|h<;>first|(exfalso;omega)|exact h),(jM e2).1,(jM e2).2,A0 (by rcases b12 with h|h<;>first|(exfalso;omega)|exact h),A0 (by rcases b13 with h|h<;>first|(exfalso;omega)|exact h),A0 (by rcases b14 with h|h<;>first|(exfalso;omega)|exact h),(jU (hz.resolve_left (by omega))).1⟩
theorem part_ok9 {N:Nat}(hN:N≤1000000000000000) {x:It}{ps:List Pc}(hk:x.kind=9)(hb:fN x=true)(hz:x.kind=10∨gR x.expr=true)(hB:ItB N x)(h:dV x=some ps):oL x:=by
 obtain⟨b1,b2,b3,b4,b5,b6,b7,b8,b9,b10,b11,b12,b13,b14⟩:=of_decide_eq_true hb
 unfold dV at h
 rw[if_neg (by omega:¬ x.kind=1)]at h
 rw[if_neg (by omega:¬ x.kind=2)]at h
 rw[if_neg (by omega:¬ x.kind=3)]at h
 rw[if_neg (by omega:¬ x.kind=4)]at h
 rw[if_neg (by omega:¬ x.kind=5)]at h
 rw[if_neg (by omega:¬ x.kind=6)]at h
 rw[if_neg (by omega:¬ x.kind=7)]at h
 rw[if_neg (by omega:¬ x.kind=8)]at h
 rw[if_pos hk]at h
 obtain⟨_,_,e1,h,_⟩:=aA h
 obtain⟨_,_,e2,h,_⟩:=aA h
 exact⟨L0 (by rcases b2 with h|h|h|h|h|h|h<;>first|(exfalso;omega)|exact h),L0 (by rcases b3 with h|h|h|h|h<;>first|(exfalso;omega)|exact h),A0 (by rcases b4 with h|h<;>first|(exfalso;omega)|exact h),N0 (by rcases b5 with h|h|h|h<;>first|(exfalso;omega)|exact h),I0 (by rcases b6 with h|h|h<;>first|(exfalso;omega)|exact h),I0 (by rcases b7 with h|h|h|h<;>first|(exfalso;omega)|exact h),I0 (by rcases b8 with h|h<;>first|(exfalso;omega)|exact h),A0 (by rcases b9 with h|h<;>first|(exfalso;omega)|exact h),L0 (by rcases b10 with h|h<;>first|(exfalso;omega)|exact h),L0 (by rcases b11 with h|h<;>first|(exfalso;omega)|exact h),A0 (by rcases b12 with h|h<;>first|(exfalso;omega)|exact h),(fun c hc=>by obtain⟨_,_,e⟩:=uJ e1 c hc;exact varQ_ok e),(aCr e2),(jU (hz.resolve_left (by omega))).1⟩
theorem part_ok10 {N:Nat}(hN:N≤1000000000000000) {x:It}{ps:List Pc}(hk:x.kind=10)(hb:fN x=true)(hz:x.kind=10∨gR x.expr=true)(hB:ItB N x)(h:dV x=some ps):oL x:=by
 obtain⟨b1,b2,b3,b4,b5,b6,b7,b8,b9,b10,b11,b12,b13,b14⟩:=of_decide_eq_true hb
 unfold dV at h
 rw[if_neg (by omega:¬ x.kind=1)]at h
 rw[if_neg (by omega:¬ x.kind=2)]at h
 rw[if_neg (by omega:¬ x.kind=3)]at h
 rw[if_neg (by omega:¬ x.kind=4)]at h
 rw[if_neg (by omega:¬ x.kind=5)]at h
 rw[if_neg (by omega:¬ x.kind=6)]at h
 rw[if_neg (by omega:¬ x.kind=7)]at h
 rw[if_neg (by omega:¬ x.kind=8)]at h
 rw[if_neg (by omega:¬ x.kind=9)]at h
 obtain⟨_,_,_,h,_⟩:=aA h
 obtain⟨_,_,e1,h,_⟩:=aA h
 exact⟨L0 (by rcases b2 with h|h|h|h|h|h|h<;>first|(exfalso;omega)|exact h),L0 (by rcases b3 with h|h|h|h|h<;>first|(exfalso;omega)|exact h),A0 (by rcases b4 with h|h<;>first|(exfalso;omega)|exact h),N0 (by rcases b5 with h|h|h|h<;>first|(exfalso;omega)|exact h),I0 (by rcases b6 with h|h|h<;>first|(exfalso;omega)|exact h),I0 (by rcases b7 with h|h|h|h<;>first|(exfalso;omega)|exact h),I0 (by rcases b8 with h|h<;>first|(exfalso;omega)|exact h),A0 (by rcases b9 with h|h<;>first|(exfalso;omega)|exact h),L0 (by rcases b10 with h|h<;>first|(exfalso;omega)|exact h),L0 (by rcases b11 with h|h<;>first|(exfalso;omega)|exact h),A0 (by rcases b12 with h|h<;>first|(exfalso;omega)|exact h),A0 (by rcases b13 with h|h<;>first|(exfalso;omega)|exact h),A0 (by rcases b14 with h|h<;>first|(exfalso;omega)|exact h),(exQ_ok hN x.expr _ _ e1 hB.expr)⟩
theorem part_ok {N:Nat}(hN:N≤1000000000000000) {x:It}{ps:List Pc}(h1:1≤x.kind)(h10:x.kind≤10)(hb:fN x=true)(hz:x.kind=10∨gR x.expr=true)(hB:ItB N x)(h:dV x=some ps):oL x:=by
 rcases(show x.kind=1∨x.kind=2∨x.kind=3∨x.kind=4∨x.kind=5∨x.kind=6∨x.kind=7∨x.kind=8∨x.kind=9∨x.kind=10 by omega) with e|e|e|e|e|e|e|e|e|e
 ·exact part_ok1 hN e hb hz hB h
 ·exact part_ok2 hN e hb hz hB h
 ·exact part_ok3 hN e hb hz hB h
 ·exact part_ok4 hN e hb hz hB h
 ·exact part_ok5 hN e hb hz hB h
 ·exact part_ok6 hN e hb hz hB h
 ·exact part_ok7 hN e hb hz hB h
 ·exact part_ok8 hN e hb hz hB h
 ·exact part_ok9 hN e hb hz hB h
 ·exact part_ok10 hN e hb hz hB h
theorem item_ok {N:Nat}(hN:N≤1000000000000000) {x:It}{ps:List Pc}(h:gW x=some ps)(hB:ItB N x):nM x:=by
 unfold gW at h;split at h
 ·rename_i hc
  obtain⟨h1,h10,hb,hz⟩:=hc
  obtain⟨_,_,_,h,_⟩:=aA h
  obtain⟨_,_,e1,h,_⟩:=aA h
  obtain⟨_,_,e2,_,_⟩:=aA h
  obtain⟨p1,p2,p3,p4,p5,p6,p7,p8,p9,p10,p11,p12,p13,p14⟩:=part_ok hN h1 h10 hb hz hB e2
  have hnm:x.name.length≤1000000000000000:=by
   split at e1
   ·rename_i h5
    exact L0 ((of_decide_eq_true hb).1 h5)
   ·exact dR e1
  have:=hB.cols
  have:=hB.names
  have:=hB.terms
  have:=hB.fixed
  have:=hB.vars
  have:=hB.conds
  exact⟨by omega,hnm,p1,p2,p3,p4,p5,p6,p7,p8,p9,p10,p11,p12,p13,p14,by omega,by omega,by omega,by omega,by omega,by omega⟩
 ·cases h
theorem item_size {x:It}{ps:List Pc}(h:gW x=some ps)(hf:gC x=true)(hB:ItB 5001 x):eU x≤50000000:=by
 have:=hB.cols
 have:=hB.names
 have:=hB.terms
 have:=hB.fixed
 have:=hB.vars
 have:=hB.conds
 have he:fQ x.expr≤41000000:=by
  unfold gW at h;split at h
  ·rename_i hc
   obtain⟨h1,h10,hb,hz⟩:=hc
   obtain⟨_,_,_,h,_⟩:=aA h
   obtain⟨_,_,_,h,_⟩:=aA h
   obtain⟨_,_,e2,_,_⟩:=aA h
   by_cases hk:x.kind=10
   ·unfold dV at e2
    rw[if_neg (by omega),if_neg (by omega),if_neg (by omega),if_neg (by omega),if_neg (by omega),if_neg (by omega),if_neg (by omega),if_neg (by omega),if_neg (by omega)]at e2
    obtain⟨_,_,_,e2,_⟩:=aA e2
    obtain⟨_,_,e3,_,_⟩:=aA e2
    have:=ex_size (N:=5001) (C:=10003) rfl x.expr _ _ 12 e3 hB.expr (of_decide_eq_true hf hk)
    have e:2 ^ 12*10003=40972288:=rfl
    omega
   ·have:=(jU (hz.resolve_left hk)).2
    omega
  ·cases h
 unfold eU
 omega
theorem aBY {z:Nat}{ts:List Tok}{t:aBs}{xs:List It}(hL:rF t=.ok ts)(h:Its z ts xs):(∀ x∈xs,nM x)∧∀ x∈xs,eU x≤50000000:=by
 obtain⟨⟨ls,h1⟩,h2⟩:=its_pr h (aAP _ _ _ _ hL)
 have hl:=(oD.2 ts hL).1;have hB:=h.bound (N:=5000) (by decide) (by omega);have hq:∀ x∈xs,∃ ps,gW x=some ps:=fun x hx=>by
  obtain⟨i,hi⟩:=aEH.1 hx
  obtain⟨y,_,hy⟩:=(xH h1).2 i x hi
  exact⟨y,hy⟩
 refine⟨fun x hx=>?_,fun x hx=>?_⟩
 ·obtain⟨ps,hp⟩:=hq x hx
  exact item_ok (N:=5001) (by decide) hp (hB x hx)
 ·obtain⟨ps,hp⟩:=hq x hx
  exact item_size hp (aEh.1 h2 x hx) (hB x hx)
theorem canonical9_spec (t:aBs)(h:Heap)(hl:t.length≤9223372036854775807)(hW:mG h)(hT:kJ h)(hF:iQ h) :
  cK Tryz.prog 5 [.string ⟨⟨t⟩⟩] h fun v h'=>v=.bool true∧Own h [] h':=by
 refine aDX Tryz.func5 rfl Tryz.ntmps5 (by kernel_rfl) ?_;have o0:=Own.refl h;refine aDV (head9_spec _ (hW.ext (Own.ext (B:=h) ‹_›)) (hT.ext (Own.ext (B:=h) ‹_›)) (hF.ext (Own.ext (B:=h) ‹_›))) ?_;rintro _ h1 ⟨rfl,oc⟩;have z1:=oc.thenE (B:=h) ‹_›;clear oc;by_cases hbig:3000<t.length
 ·refine rR (aDA rfl cX ?_)
  refine aDR (fun c31=>?_) (fun hc=>absurd (by omega) hc);refine aDZ rfl ?_
  exact⟨rfl,Own.sel ‹_› [] rfl⟩
 refine rR (aDA rfl cX ?_);refine aDR (fun hc=>absurd hc (by omega)) (fun c51=>?_);refine aDV (sD (by omega) _ (hW.ext (Own.ext (B:=h) ‹_›))) ?_;rintro _ h2 (⟨e,i,hM,hne,rfl,oc⟩|⟨xs,ts,ua,uc,I,hM,hL,hI,hlen,rfl,hp,oc⟩)
 ·have z2:=oc.thenE (B:=h) ‹_›
  clear oc;(refine aDP z2 oM ?_;intro b70 m70 o70);(refine aDh o70 0 rfl oM rfl (by decide) (aI ⟨rfl,rfl⟩ ?_);intro m71 o71);refine aDp (fun c72=>?_) (fun hc=>absurd hc (by first|omega|assumption|decide|exact rfl));refine aDZ rfl ?_
  exact⟨rfl,Own.sel ‹_› [] rfl⟩
 have z2:=Own.call ‹_› oc
 simp only[lcA,lnA]at z2
 clear oc
 obtain⟨k1,k2⟩:=aBY hL hI
 (refine aDP z2 oM ?_;intro b100 m100 o100);(refine aDh o100 1 rfl oM rfl (by decide) (aI ⟨rfl,rfl⟩ ?_);intro m101 o101);refine aDT ?_;refine rR (aDi o101 1 rfl oM rfl rfl rfl ?_);refine aDV (nZ xs _ _ (hT.ext (Own.ext (B:=h) ‹_›)) (hF.ext (Own.ext (B:=h) ‹_›)) (by first|exact jA.toH (Own.satK ‹_› 0 rfl) hp|exact jA.toH (Own.satK ‹_› 1 rfl) hp|exact jA.toH (Own.satK ‹_› 2 rfl) hp|exact jA.toH (Own.satK ‹_› 3 rfl) hp|exact jA.toH (Own.satK ‹_› 4 rfl) hp|exact jA.toH (Own.satK ‹_› 5 rfl) hp) k1 k2 (by omega)) ?_;rintro _ h3 ⟨rfl,oc⟩;have z3:=oc.thenE (B:=h) ‹_›;clear oc
 rcases zU hM with p0|p3
 case inr =>
  rw[p3]
  refine aDS ?_;refine aDS ?_;refine aDZ rfl ?_
  exact⟨rfl,Own.sel ‹_› [] rfl⟩
 obtain⟨hlen3,ys,hM3,hQ⟩:=aBA p0
 have hpp:=moved_plain hQ
 rw[p0]
 generalize hout:(dU xs).1=out at hlen3 hM3
 refine aDT ?_;refine aDV (sD hlen3 _ (hW.ext (Own.ext (B:=h) ‹_›))) ?_;rintro _ h4 (⟨e,i,hM4,_⟩|⟨zs,ts4,wa,wc,J,hM4,hL4,hI4,hlen4,rfl,hp4,oc⟩)
 ·rw[hM3]at hM4
  cases hM4
 rw[hM3]at hM4
 cases hM4
 have z4:=Own.call ‹_› oc
 simp only[lcA,lnA]at z4
 clear oc
 obtain⟨k3,k4⟩:=aBY hL4 hI4
 (refine aDP z4 oM ?_;intro b250 m250 o250);(refine aDh o250 3 rfl oM rfl (by decide) (aI ⟨rfl,rfl⟩ ?_);intro m251 o251);refine rR (aDi o251 3 rfl oM rfl rfl rfl ?_);refine aDV (nZ ys _ _ (hT.ext (Own.ext (B:=h) ‹_›)) (hF.ext (Own.ext (B:=h) ‹_›)) (by first|exact jA.toH (Own.satK ‹_› 0 rfl) hp4|exact jA.toH (Own.satK ‹_› 1 rfl) hp4|exact jA.toH (Own.satK ‹_› 2 rfl) hp4|exact jA.toH (Own.satK ‹_› 3 rfl) hp4|exact jA.toH (Own.satK ‹_› 4 rfl) hp4|exact jA.toH (Own.satK ‹_› 5 rfl) hp4) k3 k4 (by omega)) ?_;rintro _ h5 ⟨rfl,oc⟩;have z5:=oc.thenE (B:=h) ‹_›;clear oc
 rw[← hpp,p0,hout]
 refine aDS ?_;refine aDS ?_;refine aDS ?_;refine rR (aDi z5 1 rfl oM rfl rfl rfl ?_);refine rR (aDi z5 3 rfl oM rfl rfl rfl ?_);refine aDV (same_spec qW false (fun h=>by cases h) I J xs ys _ _ _ (hI.bound (N:=9999) (by decide) (by have:=(oD.2 ts hL).1;omega)) hQ (by omega) hp hp4 (by first|exact Own.satE ‹_› 0 rfl|exact Own.satE ‹_› 1 rfl|exact Own.satE ‹_› 2 rfl|exact Own.satE ‹_› 3 rfl|exact Own.satE ‹_› 4 rfl|exact Own.satE ‹_› 5 rfl) (by first|exact Own.satE ‹_› 0 rfl|exact Own.satE ‹_› 1 rfl|exact Own.satE ‹_› 2 rfl|exact Own.satE ‹_› 3 rfl|exact Own.satE ‹_› 4 rfl|exact Own.satE ‹_› 5 rfl)) ?_;rintro _ h6 ⟨rfl,oc⟩;have z6:=oc.thenE (B:=h) ‹_›;clear oc;refine aDS ?_;refine aDZ rfl ?_
 exact⟨congrArg Value.bool (decide_eq_true rfl),Own.sel ‹_› [] rfl⟩
end Go.Proofs.YtohlogbnpfofpaaGreatDoor
