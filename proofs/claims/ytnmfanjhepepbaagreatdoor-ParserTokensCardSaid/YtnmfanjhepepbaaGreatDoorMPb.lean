/-
  The parser's values and operands. The parser's values, operands and conditions. The parser's names, conditions and other small things. Trees in memory: expressions and items.
-/
import Derived.Test.YtnmfanjhepepbaaGreatDoorStructs
import Derived.Test.YtnmfanjhepepbaaGreatDoorMPa
set_option linter.all false
/- The parser's values and operands. -/
namespace Go.Proofs.YtnmfanjhepepbaaGreatDoor
open Go

def vlV (x : Vl) : Value := .agg ⟨vlC x⟩
/-- What literal returns. -/
def litV : Option Vl → Value → Prop
  | some x, v => v = .tuple ⟨[vlV x, .bool true]⟩
  | none, v => v = .tuple ⟨[vlV vl0, .bool false]⟩

set_option maxHeartbeats 8000000 in
set_option maxRecDepth 100000 in
theorem literal_spec : PSpec 114 (fun bp => [.pointer (some ⟨bp, 0, none⟩)]) (fun z => literalP z) litV := by
  intro B bp z tk w ts h o hR hl
  obtain ⟨hR, hK⟩ := hR
  refine Spec.enter Tryz.func114 rfl Tryz.ntmps114 (by kernel_rfl) ?_
  cases ts with
  | nil =>
    (refine RunVC.alloc o ty54 ?_; intro b10 m10 o10)
    refine StillVC.run (StillVC.nilCheck rfl ?_)
    refine StillVC.run (StillVC.fieldAddr st68 rfl rfl rfl ?_)
    refine StillVC.run (StillVC.loadO o10 0 rfl ty31 rfl rfl ?_)
    refine StillVC.run (StillVC.lenN (o10.reads 1 hR rfl) sl31 ?_)
    refine Br.tt ?_
    refine StillVC.run (StillVC.loadON o10 2 rfl ty54 rfl rfl rfl ?_)
    (refine RunVC.storeL o10 2 rfl ty54 rfl (by decide) (And.intro ⟨rfl, rfl⟩ ?_); intro m16 o16)
    first | refine RetVC.cell2 rfl o16 2 rfl ty54 rfl rfl ?_ | refine RetVC.cell1 rfl o16 2 rfl ty54 rfl rfl ?_ | refine RetVC.cellTT rfl o16 2 rfl ty54 rfl rfl ?_
    exact ⟨none, [], w, rfl, rfl, Nat.le_refl _, ⟨hR, hK⟩, Own.sel (by assumption) [0, 1] rfl⟩
  | cons t r =>
    have hx : (t :: r)[0]? = some t := rfl
    have hln : (t :: r).length = r.length + 1 := rfl
    by_cases h3 : t.kind = 3
    · have hE : literalP z (t :: r) = .ok (some ⟨1, 0, t.text⟩, r) := if_pos h3
      (refine RunVC.alloc o ty54 ?_; intro b30 m30 o30)
      refine StillVC.run (StillVC.nilCheck rfl ?_)
      refine StillVC.run (StillVC.fieldAddr st68 rfl rfl rfl ?_)
      refine StillVC.run (StillVC.loadO o30 0 rfl ty31 rfl rfl ?_)
      refine StillVC.run (StillVC.lenN (o30.reads 1 hR rfl) sl31 ?_)
      refine Br.dec (fun hc => absurd hc (by omega)) (fun c35 => ?_)
      refine StillVC.run (StillVC.nilCheck rfl ?_)
      refine StillVC.run (StillVC.fieldAddr st68 rfl rfl rfl ?_)
      refine StillVC.run (StillVC.loadO o30 0 rfl ty31 rfl rfl ?_)
      refine StillVC.run (StillVC.idxN sl31 ty38 (o30.reads 1 hR rfl) rfl (by omega) (by omega) ?_)
      refine StillVC.run (StillVC.loadFT ty38 (o30.reads 1 hR rfl) (fun _ => rfl) (by decide) rfl (by assumption) ?_)
      (refine RunVC.alloc o30 ty38 ?_; intro b41 m41 o41)
      (refine RunVC.storeL o41 3 rfl ty38 rfl (by decide) (And.intro ⟨rfl, rfl⟩ ?_); intro m42 o42)
      refine StillVC.run (StillVC.fieldAddr st38 rfl rfl rfl ?_)
      refine StillVC.run (StillVC.loadO o42 3 rfl ty3 rfl rfl ?_)
      refine Br.dec (fun c45 => ?_) (fun hc => absurd (by omega) hc)
      refine StillVC.run (StillVC.fieldAddr st38 rfl rfl rfl ?_)
      refine StillVC.run (StillVC.loadO o42 3 rfl ty3 rfl rfl ?_)
      refine (pkind_spec t.kind).call (Own.lend (by assumption) [0, 1] [2, 3] rfl) ⟨hR, hK⟩ hl (fun a q w2 v h2 hm hv hle hR2 o2 => ?_) (fun e w2 h2 hm o2 => ?_)
      · have hq : kindP z t.kind (t :: r) = .ok (t, r) := if_pos rfl
        have hm : kindP z t.kind (t :: r) = .ok (a, q) := hm
        rw [hq] at hm
        injection hm with hm
        injection hm with ha hq
        subst ha hq
        obtain ⟨rfl, _⟩ := hv
        have o2' := o2.back
        simp only [PSt, pick, List.cons_append, List.nil_append, List.getElem?_cons_succ, List.getElem?_cons_zero] at o2'
        clear o2
        refine StillVC.run (StillVC.fieldV st38 rfl rfl rfl rfl ?_)
        refine StillVC.run (StillVC.buildK st54 ?_)
        refine And.intro rfl ?_
        refine And.intro rfl ?_
        (refine RunVC.storeL o2' 2 rfl ty54 rfl (by decide) (And.intro ⟨rfl, rfl⟩ ?_); intro m52 o52)
        first | refine RetVC.cell2 rfl o52 2 rfl ty54 rfl rfl ?_ | refine RetVC.cell1 rfl o52 2 rfl ty54 rfl rfl ?_ | refine RetVC.cellTT rfl o52 2 rfl ty54 rfl rfl ?_
        exact ⟨_, r, w2, hE, rfl, hle, hR2, Own.sel (by assumption) [0, 1] rfl⟩
      · have hq : kindP z t.kind (t :: r) = .ok (t, r) := if_pos rfl
        exact absurd (hq.symm.trans hm) (by simp)
    by_cases hk2 : t.kind = 2
    · have hE : literalP z (t :: r) = .ok (some ⟨2, t.num, []⟩, r) := (if_neg h3).trans (if_pos hk2)
      have hq : numP z (t :: r) = .ok (t.num, r) := by
        have : kindP z 2 (t :: r) = .ok (t, r) := if_pos hk2
        exact PM.bind_ok this
      (refine RunVC.alloc o ty54 ?_; intro b60 m60 o60)
      refine StillVC.run (StillVC.nilCheck rfl ?_)
      refine StillVC.run (StillVC.fieldAddr st68 rfl rfl rfl ?_)
      refine StillVC.run (StillVC.loadO o60 0 rfl ty31 rfl rfl ?_)
      refine StillVC.run (StillVC.lenN (o60.reads 1 hR rfl) sl31 ?_)
      refine Br.dec (fun hc => absurd hc (by omega)) (fun c65 => ?_)
      refine StillVC.run (StillVC.nilCheck rfl ?_)
      refine StillVC.run (StillVC.fieldAddr st68 rfl rfl rfl ?_)
      refine StillVC.run (StillVC.loadO o60 0 rfl ty31 rfl rfl ?_)
      refine StillVC.run (StillVC.idxN sl31 ty38 (o60.reads 1 hR rfl) rfl (by omega) (by omega) ?_)
      refine StillVC.run (StillVC.loadFT ty38 (o60.reads 1 hR rfl) (fun _ => rfl) (by decide) rfl (by assumption) ?_)
      (refine RunVC.alloc o60 ty38 ?_; intro b71 m71 o71)
      (refine RunVC.storeL o71 3 rfl ty38 rfl (by decide) (And.intro ⟨rfl, rfl⟩ ?_); intro m72 o72)
      refine StillVC.run (StillVC.fieldAddr st38 rfl rfl rfl ?_)
      refine StillVC.run (StillVC.loadO o72 3 rfl ty3 rfl rfl ?_)
      refine Br.dec (fun hc => absurd hc (by omega)) (fun c75 => ?_)
      refine Br.dec (fun c76 => ?_) (fun hc => absurd (by omega) hc)
      refine pnumber_spec.call (Own.lend (by assumption) [0, 1] [2, 3] rfl) ⟨hR, hK⟩ hl (fun a q w2 v h2 hm hv hle hR2 o2 => ?_) (fun e w2 h2 hm o2 => ?_)
      · have hm : numP z (t :: r) = .ok (a, q) := hm
        rw [hq] at hm
        injection hm with hm
        injection hm with ha hq
        subst ha hq
        obtain ⟨rfl, _⟩ := hv
        have o2' := o2.back
        simp only [PSt, pick, List.cons_append, List.nil_append, List.getElem?_cons_succ, List.getElem?_cons_zero] at o2'
        clear o2
        refine StillVC.run (StillVC.buildK st54 ?_)
        refine And.intro rfl ?_
        refine And.intro rfl ?_
        (refine RunVC.storeL o2' 2 rfl ty54 rfl (by decide) (And.intro ⟨rfl, rfl⟩ ?_); intro m81 o81)
        first | refine RetVC.cell2 rfl o81 2 rfl ty54 rfl rfl ?_ | refine RetVC.cell1 rfl o81 2 rfl ty54 rfl rfl ?_ | refine RetVC.cellTT rfl o81 2 rfl ty54 rfl rfl ?_
        exact ⟨_, r, w2, hE, rfl, hle, hR2, Own.sel (by assumption) [0, 1] rfl⟩
      · exact absurd (hq.symm.trans hm) (by simp)
    have hE : litE z (t :: r) = literalP z (t :: r) := ((if_neg h3).trans (if_neg hk2)).symm
    unfold litE at hE
    (refine RunVC.alloc o ty54 ?_; intro b100 m100 o100)
    refine StillVC.run (StillVC.nilCheck rfl ?_)
    refine StillVC.run (StillVC.fieldAddr st68 rfl rfl rfl ?_)
    refine StillVC.run (StillVC.loadO o100 0 rfl ty31 rfl rfl ?_)
    refine StillVC.run (StillVC.lenN (o100.reads 1 hR rfl) sl31 ?_)
    refine Br.dec (fun hc => absurd hc (by omega)) (fun c105 => ?_)
    refine StillVC.run (StillVC.nilCheck rfl ?_)
    refine StillVC.run (StillVC.fieldAddr st68 rfl rfl rfl ?_)
    refine StillVC.run (StillVC.loadO o100 0 rfl ty31 rfl rfl ?_)
    refine StillVC.run (StillVC.idxN sl31 ty38 (o100.reads 1 hR rfl) rfl (by omega) (by omega) ?_)
    refine StillVC.run (StillVC.loadFT ty38 (o100.reads 1 hR rfl) (fun _ => rfl) (by decide) rfl (by assumption) ?_)
    (refine RunVC.alloc o100 ty38 ?_; intro b111 m111 o111)
    (refine RunVC.storeL o111 3 rfl ty38 rfl (by decide) (And.intro ⟨rfl, rfl⟩ ?_); intro m112 o112)
    refine StillVC.run (StillVC.fieldAddr st38 rfl rfl rfl ?_)
    refine StillVC.run (StillVC.loadO o112 3 rfl ty3 rfl rfl ?_)
    refine Br.dec (fun hc => absurd hc (by omega)) (fun c115 => ?_)
    refine Br.dec (fun hc => absurd hc (by omega)) (fun c116 => ?_)
    have hR : TokR tk w (t :: r) := ⟨hR, hK⟩
    refine (ptake_spec [45]).call (Own.lend (by assumption) [0, 1] [2, 3] rfl) hR hl (fun b q w200 v h200 hm hv hle hR2 o2 => ?_) (fun e w2 h2 hm o2 => absurd hm (takeB_ok _ _ e))
    subst hv
    have o200 := o2.back
    simp only [PSt, pick, List.cons_append, List.nil_append, List.getElem?_cons_succ, List.getElem?_cons_zero] at o200
    clear o2
    rw [PM.bind_ok hm] at hE
    cases b with
    | true =>
      rw [if_pos rfl] at hE
      refine Br.tt ?_
      refine pnumber_spec.call (Own.lend (by assumption) [0, 1] [2, 3] rfl) hR2 (by omega) (fun a q2 w3 v h3 hm3 hv hle3 hR3 o3 => ?_) (fun e w3 h3 hm3 o3 => ⟨e, w3, hE.symm.trans (PM.bind_err hm3), rfl, o3.back.sel [0, 1] rfl⟩)
      obtain ⟨rfl, hv0, hv1⟩ := hv
      rw [PM.bind_ok hm3] at hE
      have o4 := o3.back
      simp only [PSt, pick, List.cons_append, List.nil_append, List.getElem?_cons_succ, List.getElem?_cons_zero] at o4
      clear o3
      refine Ar.i64 (by omega) (by omega) ?_
      refine StillVC.run (StillVC.buildK st54 ?_)
      refine And.intro rfl ?_
      refine And.intro rfl ?_
      (refine RunVC.storeL o4 2 rfl ty54 rfl (by decide) (And.intro ⟨rfl, rfl⟩ ?_); intro m211 o211)
      refine StillVC.run (StillVC.loadON o211 2 rfl ty54 rfl rfl rfl ?_)
      (refine RunVC.store o211 2 rfl ty54 rfl (by simp) (And.intro ⟨rfl, rfl⟩ ?_); intro m213 o213)
      first | refine RetVC.cell2 rfl o213 2 rfl ty54 rfl rfl ?_ | refine RetVC.cell1 rfl o213 2 rfl ty54 rfl rfl ?_ | refine RetVC.cellTT rfl o213 2 rfl ty54 rfl rfl ?_
      exact ⟨some ⟨2, -a, []⟩, q2, w3, hE.symm, by first | rfl | simp [litV, vlV, vlC], by omega, hR3, Own.sel (by assumption) [0, 1] rfl⟩
    | false =>
    rw [if_neg (by decide)] at hE
    obtain rfl := takeB_same hm
    clear hR hle
    have hR := hR2
    clear hR2 hm
    refine Br.ff ?_
    refine (ptake_spec [64]).call (Own.lend (by assumption) [0, 1] [2, 3] rfl) hR hl (fun b q w250 v h250 hm hv hle hR2 o2 => ?_) (fun e w2 h2 hm o2 => absurd hm (takeB_ok _ _ e))
    subst hv
    have o250 := o2.back
    simp only [PSt, pick, List.cons_append, List.nil_append, List.getElem?_cons_succ, List.getElem?_cons_zero] at o250
    clear o2
    rw [PM.bind_ok hm] at hE
    cases b with
    | true =>
      rw [if_pos rfl] at hE
      refine Br.tt ?_
      refine pnumber_spec.call (Own.lend (by assumption) [0, 1] [2, 3] rfl) hR2 (by omega) (fun a q2 w3 v h3 hm3 hv hle3 hR3 o3 => ?_) (fun e w3 h3 hm3 o3 => ⟨e, w3, hE.symm.trans (PM.bind_err hm3), rfl, o3.back.sel [0, 1] rfl⟩)
      obtain ⟨rfl, hv0, hv1⟩ := hv
      rw [PM.bind_ok hm3] at hE
      have o4 := o3.back
      simp only [PSt, pick, List.cons_append, List.nil_append, List.getElem?_cons_succ, List.getElem?_cons_zero] at o4
      clear o3
      refine StillVC.run (StillVC.buildK st54 ?_)
      refine And.intro rfl ?_
      refine And.intro rfl ?_
      (refine RunVC.storeL o4 2 rfl ty54 rfl (by decide) (And.intro ⟨rfl, rfl⟩ ?_); intro m261 o261)
      refine StillVC.run (StillVC.loadON o261 2 rfl ty54 rfl rfl rfl ?_)
      (refine RunVC.store o261 2 rfl ty54 rfl (by simp) (And.intro ⟨rfl, rfl⟩ ?_); intro m263 o263)
      first | refine RetVC.cell2 rfl o263 2 rfl ty54 rfl rfl ?_ | refine RetVC.cell1 rfl o263 2 rfl ty54 rfl rfl ?_ | refine RetVC.cellTT rfl o263 2 rfl ty54 rfl rfl ?_
      exact ⟨some ⟨3, a, []⟩, q2, w3, hE.symm, by first | rfl | simp [litV, vlV, vlC], by omega, hR3, Own.sel (by assumption) [0, 1] rfl⟩
    | false =>
    rw [if_neg (by decide)] at hE
    obtain rfl := takeB_same hm
    clear hR hle
    have hR := hR2
    clear hR2 hm
    refine Br.ff ?_
    refine (ptake_spec [116, 114, 117, 101]).call (Own.lend (by assumption) [0, 1] [2, 3] rfl) hR hl (fun b q w300 v h300 hm hv hle hR2 o2 => ?_) (fun e w2 h2 hm o2 => absurd hm (takeB_ok _ _ e))
    subst hv
    have o300 := o2.back
    simp only [PSt, pick, List.cons_append, List.nil_append, List.getElem?_cons_succ, List.getElem?_cons_zero] at o300
    clear o2
    rw [PM.bind_ok hm] at hE
    cases b with
    | true =>
      rw [if_pos rfl] at hE
      refine Br.tt ?_
      refine StillVC.run (StillVC.buildK st54 ?_)
      refine And.intro rfl ?_
      refine And.intro rfl ?_
      (refine RunVC.storeL o300 2 rfl ty54 rfl (by decide) (And.intro ⟨rfl, rfl⟩ ?_); intro m306 o306)
      refine StillVC.run (StillVC.loadON o306 2 rfl ty54 rfl rfl rfl ?_)
      (refine RunVC.storeL o306 2 rfl ty54 rfl (by decide) (And.intro ⟨rfl, rfl⟩ ?_); intro m308 o308)
      first | refine RetVC.cell2 rfl o308 2 rfl ty54 rfl rfl ?_ | refine RetVC.cell1 rfl o308 2 rfl ty54 rfl rfl ?_ | refine RetVC.cellTT rfl o308 2 rfl ty54 rfl rfl ?_
      exact ⟨some ⟨4, 1, []⟩, q, w300, hE.symm, rfl, hle, hR2, Own.sel (by assumption) [0, 1] rfl⟩
    | false =>
    rw [if_neg (by decide)] at hE
    obtain rfl := takeB_same hm
    clear hR hle
    have hR := hR2
    clear hR2 hm
    refine Br.ff ?_
    refine (ptake_spec [102, 97, 108, 115, 101]).call (Own.lend (by assumption) [0, 1] [2, 3] rfl) hR hl (fun b q w350 v h350 hm hv hle hR2 o2 => ?_) (fun e w2 h2 hm o2 => absurd hm (takeB_ok _ _ e))
    subst hv
    have o350 := o2.back
    simp only [PSt, pick, List.cons_append, List.nil_append, List.getElem?_cons_succ, List.getElem?_cons_zero] at o350
    clear o2
    rw [PM.bind_ok hm] at hE
    cases b with
    | true =>
      rw [if_pos rfl] at hE
      refine Br.tt ?_
      refine StillVC.run (StillVC.buildK st54 ?_)
      refine And.intro rfl ?_
      (refine RunVC.storeL o350 2 rfl ty54 rfl (by decide) (And.intro ⟨rfl, rfl⟩ ?_); intro m356 o356)
      refine StillVC.run (StillVC.loadON o356 2 rfl ty54 rfl rfl rfl ?_)
      (refine RunVC.storeL o356 2 rfl ty54 rfl (by decide) (And.intro ⟨rfl, rfl⟩ ?_); intro m358 o358)
      first | refine RetVC.cell2 rfl o358 2 rfl ty54 rfl rfl ?_ | refine RetVC.cell1 rfl o358 2 rfl ty54 rfl rfl ?_ | refine RetVC.cellTT rfl o358 2 rfl ty54 rfl rfl ?_
      exact ⟨some ⟨4, 0, []⟩, q, w350, hE.symm, rfl, hle, hR2, Own.sel (by assumption) [0, 1] rfl⟩
    | false =>
    rw [if_neg (by decide)] at hE
    obtain rfl := takeB_same hm
    clear hR hle
    have hR := hR2
    clear hR2 hm
    refine Br.ff ?_
    refine (ptake_spec [110, 117, 108, 108]).call (Own.lend (by assumption) [0, 1] [2, 3] rfl) hR hl (fun b q w400 v h400 hm hv hle hR2 o2 => ?_) (fun e w2 h2 hm o2 => absurd hm (takeB_ok _ _ e))
    subst hv
    have o400 := o2.back
    simp only [PSt, pick, List.cons_append, List.nil_append, List.getElem?_cons_succ, List.getElem?_cons_zero] at o400
    clear o2
    rw [PM.bind_ok hm] at hE
    cases b with
    | true =>
      rw [if_pos rfl] at hE
      refine Br.tt ?_
      refine StillVC.run (StillVC.loadON o400 2 rfl ty54 rfl rfl rfl ?_)
      (refine RunVC.storeL o400 2 rfl ty54 rfl (by decide) (And.intro ⟨rfl, rfl⟩ ?_); intro m406 o406)
      first | refine RetVC.cell2 rfl o406 2 rfl ty54 rfl rfl ?_ | refine RetVC.cell1 rfl o406 2 rfl ty54 rfl rfl ?_ | refine RetVC.cellTT rfl o406 2 rfl ty54 rfl rfl ?_
      exact ⟨some vl0, q, w400, hE.symm, rfl, hle, hR2, Own.sel (by assumption) [0, 1] rfl⟩
    | false =>
    rw [if_neg (by decide)] at hE
    obtain rfl := takeB_same hm
    clear hR hle
    have hR := hR2
    clear hR2 hm
    refine Br.ff ?_
    refine StillVC.run (StillVC.loadON o400 2 rfl ty54 rfl rfl rfl ?_)
    (refine RunVC.storeL o400 2 rfl ty54 rfl (by decide) (And.intro ⟨rfl, rfl⟩ ?_); intro m421 o421)
    first | refine RetVC.cell2 rfl o421 2 rfl ty54 rfl rfl ?_ | refine RetVC.cell1 rfl o421 2 rfl ty54 rfl rfl ?_ | refine RetVC.cellTT rfl o421 2 rfl ty54 rfl rfl ?_
    exact ⟨none, t :: r, w400, hE.symm, rfl, Nat.le_refl _, hR, Own.sel (by assumption) [0, 1] rfl⟩

end Go.Proofs.YtnmfanjhepepbaaGreatDoor

/- The parser's values, operands and conditions. -/
namespace Go.Proofs.YtnmfanjhepepbaaGreatDoor
open Go

/-- What a caller owns beside the parser's state. -/
abbrev rest8 (L : List Item) : List Item := pick L [2, 3, 4, 5, 6, 7, 8, 9]

theorem pick_in {L : List Item} {x : Item} {k : Nat} (hk : L[k]? = some x) : ∀ (js : List Nat), k ∈ js → x ∈ pick L js
  | [], h => absurd h (by simp)
  | j :: js, h => by
    simp only [pick]
    rcases List.mem_cons.1 h with rfl | h
    · rw [hk]; simp
    · split
      · exact List.mem_cons_of_mem _ (pick_in hk js h)
      · exact pick_in hk js h

theorem PSpec.callL {α : Type} {g : FuncId} {args : Nat → List Value} {m : Nat → PM α} {V : α → Value → Prop} (sp : PSpec g args m V) {s : List Value} {h : Heap} {K : KK} {Q : QQ} {B : Base} {L : List Item} {bp z : Nat} {tk : Item} {w : Value} {ts : List Tok}
    (o : Own B L h) (e : pick L [0, 1] = PSt bp z w tk) (hR : TokR tk w ts) (hl : ts.length ≤ 5000)
    (hret : ∀ a r w' v h', m z ts = .ok (a, r) → V a v → r.length ≤ ts.length → TokR tk w' r → Own B (PSt bp z w' tk ++ rest8 L) h' → K v false h')
    (hpan : ∀ e w' h', m z ts = .error e → Own B (PSt bp z w' tk) h' → Q (.panic (failC e)) s h') : CallVC Tryz.prog g (args bp) s h K Q := by
  have ol := o.lend [0, 1] [2, 3, 4, 5, 6, 7, 8, 9] rfl
  rw [e] at ol
  exact sp.call ol hR hl (fun a r w' v h' h1 h2 h3 h4 h5 => hret a r w' v h' h1 h2 h3 h4 h5.back) (fun e w' h' h1 h2 => hpan e w' h' h1 (h2.back.sel [0, 1] rfl))

theorem keepIn {B : Base} {L : List Item} {b : Nat} {t : TypeId} {ss : List (List UInt8)} (hk : ∃ k ∈ [2, 3, 4, 5, 6, 7, 8, 9], L[k]? = some (box b (strs ss) t)) : KeepS ⟨B.h, rest8 L ++ B.T⟩ (.slice (some ⟨b, 0, none⟩) ss.length ss.length) ss := by
  intro L' h o
  obtain ⟨k, hj, hk⟩ := hk
  have hs : (box b (strs ss) t).sat h := OwnR.sat o _ (List.mem_append_right _ (List.mem_append_left _ (pick_in hk _ hj)))
  exact (box_reads (sz := 1) (by simp [strs]) (Nat.le_refl _) h hs).to1

theorem pword_call {ss : List (List UInt8)} {b : Nat} {t : TypeId} {s : List Value} {h : Heap} {K : KK} {Q : QQ} {B : Base} {L : List Item} {bp z : Nat} {tk : Item} {w : Value} {ts : List Tok}
    (o : Own B L h) (e : pick L [0, 1] = PSt bp z w tk) (hk : ∃ k ∈ [2, 3, 4, 5, 6, 7, 8, 9], L[k]? = some (box b (strs ss) t)) (hR : TokR tk w ts) (hl : ts.length ≤ 5000) (hsl : ss.length ≤ 100)
    (hret : ∀ a r w' v h', wordP z ss 1 ts = .ok (a, r) → v = .int .i64 a → r.length ≤ ts.length → TokR tk w' r → Own B (PSt bp z w' tk ++ rest8 L) h' → K v false h')
    (hpan : ∀ e w' h', wordP z ss 1 ts = .error e → Own B (PSt bp z w' tk) h' → Q (.panic (failC e)) s h') : CallVC Tryz.prog 29 [.pointer (some ⟨bp, 0, none⟩), .slice (some ⟨b, 0, none⟩) ss.length ss.length] s h K Q := by
  have ol := o.lend [0, 1] [2, 3, 4, 5, 6, 7, 8, 9] rfl
  rw [e] at ol
  exact PEnd.call (pword_spec ss _ _ bp z tk w ts h (keepIn hk) ol hR hl hsl) (fun a r w' v h' h1 h2 h3 h4 h5 => hret a r w' v h' h1 h2 h3 h4 h5.back) (fun e w' h' h1 h2 => hpan e w' h' h1 (h2.back.sel [0, 1] rfl))

theorem pneed_call {ss : List (List UInt8)} {b : Nat} {t : TypeId} {s : List Value} {h : Heap} {K : KK} {Q : QQ} {B : Base} {L : List Item} {bp z : Nat} {tk : Item} {w : Value} {ts : List Tok}
    (o : Own B L h) (e : pick L [0, 1] = PSt bp z w tk) (hk : ∃ k ∈ [2, 3, 4, 5, 6, 7, 8, 9], L[k]? = some (box b (strs ss) t)) (hR : TokR tk w ts) (hl : ts.length ≤ 5000) (hsl : ss.length ≤ 100)
    (hret : ∀ a r w' v h', needP z ss ts = .ok (a, r) → v = .tuple ⟨[]⟩ → r.length ≤ ts.length → TokR tk w' r → Own B (PSt bp z w' tk ++ rest8 L) h' → K v false h')
    (hpan : ∀ e w' h', needP z ss ts = .error e → Own B (PSt bp z w' tk) h' → Q (.panic (failC e)) s h') : CallVC Tryz.prog 41 [.pointer (some ⟨bp, 0, none⟩), .slice (some ⟨b, 0, none⟩) ss.length ss.length] s h K Q := by
  have ol := o.lend [0, 1] [2, 3, 4, 5, 6, 7, 8, 9] rfl
  rw [e] at ol
  exact PEnd.call (pneed_spec ss _ _ bp z tk w ts h (keepIn hk) ol hR hl hsl) (fun a r w' v h' h1 h2 h3 h4 h5 => hret a r w' v h' h1 h2 h3 h4 h5.back) (fun e w' h' h1 h2 => hpan e w' h' h1 (h2.back.sel [0, 1] rfl))

set_option maxHeartbeats 8000000 in
set_option maxRecDepth 100000 in
theorem value_spec : PSpec 103 (fun bp => [.pointer (some ⟨bp, 0, none⟩)]) (fun z => valueP z) (fun x v => v = vlV x) := by
  intro B bp z tk w ts h o hR hl
  have hE := congrFun (valueP.eq_1 z) ts
  refine Spec.enter Tryz.func103 rfl Tryz.ntmps103 (by kernel_rfl) ?_
  (refine RunVC.alloc o ty54 ?_; intro b10 m10 o10)
  refine literal_spec.callL (by assumption) rfl hR (by omega) (fun a1 q1 w1 v h1 hm hv hle1 hR1 oq => ?_) (fun e w' h' hm o2 => ⟨e, w', hE.trans (PM.bind_err hm), rfl, o2⟩)
  rw [PM.bind_ok hm] at hE
  have o1 := oq
  simp only [PSt, pick, List.cons_append, List.nil_append, List.getElem?_cons_succ, List.getElem?_cons_zero, List.getElem?_nil] at o1
  clear oq hm
  cases a1 with
  | some x =>
    have hv : v = _ := hv
    subst hv
    (refine RunVC.alloc o1 ty54 ?_; intro b20 m20 o20)
    (refine RunVC.storeL o20 3 rfl ty54 rfl (by decide) (And.intro ⟨rfl, rfl⟩ ?_); intro m21 o21)
    refine Br.ff ?_
    refine StillVC.run (StillVC.loadON o21 3 rfl ty54 rfl rfl rfl ?_)
    (refine RunVC.storeL o21 2 rfl ty54 rfl (by decide) (And.intro ⟨rfl, rfl⟩ ?_); intro m23 o23)
    first | refine RetVC.cell2 rfl o23 2 rfl ty54 rfl rfl ?_ | refine RetVC.cell1 rfl o23 2 rfl ty54 rfl rfl ?_ | refine RetVC.cellTT rfl o23 2 rfl ty54 rfl rfl ?_
    exact ⟨x, q1, w1, hE, rfl, by omega, hR1, Own.sel (by assumption) [0, 1] rfl⟩
  | none =>
    have hv : v = _ := hv
    subst hv
    (refine RunVC.alloc o1 ty54 ?_; intro b30 m30 o30)
    (refine RunVC.storeL o30 3 rfl ty54 rfl (by decide) (And.intro ⟨rfl, rfl⟩ ?_); intro m31 o31)
    refine Br.tt ?_
    refine CallVC.ends (stop_spec 4 bp z _ _ _ (Own.cellB (by assumption) 0 rfl 0) (Own.cellB (by assumption) 0 rfl 1) (Own.reads (by assumption) 1 hR1.1 rfl)) (fun _ _ h => h.elim) (fun c h4 ⟨hc, ho⟩ => ?_)
    exact ⟨_, w1, hE, hc, (ho.thenE (by assumption)).sel [0, 1] rfl⟩

set_option maxHeartbeats 8000000 in
set_option maxRecDepth 100000 in
theorem side_spec : PSpec 115 (fun bp => [.pointer (some ⟨bp, 0, none⟩)]) (fun z => sideP z) (fun x v => v = .agg ⟨opdC x⟩) := by
  intro B bp z tk w ts h o hR hl
  have hE := congrFun (sideP.eq_1 z) ts
  refine Spec.enter Tryz.func115 rfl Tryz.ntmps115 (by kernel_rfl) ?_
  (refine RunVC.alloc o ty56 ?_; intro b10 m10 o10)
  refine literal_spec.callL (by assumption) rfl hR (by omega) (fun a1 q1 w1 v h1 hm hv hle1 hR1 oq => ?_) (fun e w' h' hm o2 => ⟨e, w', hE.trans (PM.bind_err hm), rfl, o2⟩)
  rw [PM.bind_ok hm] at hE
  have o1 := oq
  simp only [PSt, pick, List.cons_append, List.nil_append, List.getElem?_cons_succ, List.getElem?_cons_zero, List.getElem?_nil] at o1
  clear oq hm
  cases a1 with
  | some x =>
    have hv : v = _ := hv
    subst hv
    (refine RunVC.alloc o1 ty54 ?_; intro b20 m20 o20)
    (refine RunVC.storeL o20 3 rfl ty54 rfl (by decide) (And.intro ⟨rfl, rfl⟩ ?_); intro m21 o21)
    refine Br.tt ?_
    refine StillVC.run (StillVC.loadON o21 3 rfl ty54 rfl rfl rfl ?_)
    refine StillVC.run (StillVC.buildK st56 ?_)
    refine And.intro rfl ?_
    refine And.intro rfl ?_
    (refine RunVC.storeL o21 2 rfl ty56 rfl (by decide) (And.intro ⟨rfl, rfl⟩ ?_); intro m24 o24)
    first | refine RetVC.cell2 rfl o24 2 rfl ty56 rfl rfl ?_ | refine RetVC.cell1 rfl o24 2 rfl ty56 rfl rfl ?_ | refine RetVC.cellTT rfl o24 2 rfl ty56 rfl rfl ?_
    exact ⟨⟨[], [], true, x⟩, q1, w1, hE, rfl, by omega, hR1, Own.sel (by assumption) [0, 1] rfl⟩
  | none =>
    have hv : v = _ := hv
    subst hv
    dsimp only at hE
    (refine RunVC.alloc o1 ty54 ?_; intro b30 m30 o30)
    (refine RunVC.storeL o30 3 rfl ty54 rfl (by decide) (And.intro ⟨rfl, rfl⟩ ?_); intro m31 o31)
    refine Br.ff ?_
    refine pname_spec.callL (by assumption) rfl hR1 (by omega) (fun first q2 w2 v h2 hm hv hle2 hR2 oq => ?_) (fun e w' h' hm o2 => ⟨e, w', hE.trans (PM.bind_err hm), rfl, o2⟩)
    subst hv
    rw [PM.bind_ok hm] at hE
    have o2 := oq
    simp only [PSt, pick, List.cons_append, List.nil_append, List.getElem?_cons_succ, List.getElem?_cons_zero, List.getElem?_nil] at o2
    clear oq hm
    refine (ptake_spec [46]).callL (by assumption) rfl hR2 (by omega) (fun b q3 w3 v h3 hm hv hle3 hR3 oq => ?_) (fun e w2 h2 hm o2 => absurd hm (takeB_ok _ _ e))
    subst hv
    rw [PM.bind_ok hm] at hE
    have o3 := oq
    simp only [PSt, pick, List.cons_append, List.nil_append, List.getElem?_cons_succ, List.getElem?_cons_zero, List.getElem?_nil] at o3
    clear oq hm
    cases b with
    | true =>
      rw [if_pos rfl] at hE
      refine Br.tt ?_
      refine pname_spec.callL (by assumption) rfl hR3 (by omega) (fun at_ q4 w4 v h4 hm hv hle4 hR4 oq => ?_) (fun e w' h' hm o2 => ⟨e, w', hE.trans (PM.bind_err hm), rfl, o2⟩)
      subst hv
      rw [PM.bind_ok hm] at hE
      have o4 := oq
      simp only [PSt, pick, List.cons_append, List.nil_append, List.getElem?_cons_succ, List.getElem?_cons_zero, List.getElem?_nil] at o4
      clear oq hm
      refine StillVC.run (StillVC.buildK st56 ?_)
      refine And.intro rfl ?_
      refine And.intro rfl ?_
      (refine RunVC.storeL o4 2 rfl ty56 rfl (by decide) (And.intro ⟨rfl, rfl⟩ ?_); intro m61 o61)
      first | refine RetVC.cell2 rfl o61 2 rfl ty56 rfl rfl ?_ | refine RetVC.cell1 rfl o61 2 rfl ty56 rfl rfl ?_ | refine RetVC.cellTT rfl o61 2 rfl ty56 rfl rfl ?_
      exact ⟨⟨first, at_, false, vl0⟩, q4, w4, hE, rfl, by omega, hR4, Own.sel (by assumption) [0, 1] rfl⟩
    | false =>
      rw [if_neg (by decide)] at hE
      refine Br.ff ?_
      refine StillVC.run (StillVC.buildK st56 ?_)
      refine And.intro rfl ?_
      (refine RunVC.storeL o3 2 rfl ty56 rfl (by decide) (And.intro ⟨rfl, rfl⟩ ?_); intro m71 o71)
      first | refine RetVC.cell2 rfl o71 2 rfl ty56 rfl rfl ?_ | refine RetVC.cell1 rfl o71 2 rfl ty56 rfl rfl ?_ | refine RetVC.cellTT rfl o71 2 rfl ty56 rfl rfl ?_
      exact ⟨⟨[], first, false, vl0⟩, q3, w3, hE, rfl, by omega, hR3, Own.sel (by assumption) [0, 1] rfl⟩

set_option maxHeartbeats 8000000 in
set_option maxRecDepth 100000 in
theorem cond_spec : PSpec 106 (fun bp => [.pointer (some ⟨bp, 0, none⟩)]) (fun z => condP z) (fun x v => v = .agg ⟨cndC x⟩) := by
  intro B bp z tk w ts h o hR hl
  have hE := congrFun (condP.eq_1 z) ts
  refine Spec.enter Tryz.func106 rfl Tryz.ntmps106 (by kernel_rfl) ?_
  (refine RunVC.alloc o ty58 ?_; intro b10 m10 o10)
  refine side_spec.callL (by assumption) rfl hR (by omega) (fun sl q1 w1 v h1 hm hv hle1 hR1 oq => ?_) (fun e w' h' hm o2 => ⟨e, w', hE.trans (PM.bind_err hm), rfl, o2⟩)
  subst hv
  rw [PM.bind_ok hm] at hE
  have o1 := oq
  simp only [PSt, pick, List.cons_append, List.nil_append, List.getElem?_cons_succ, List.getElem?_cons_zero, List.getElem?_nil] at o1
  clear oq hm
  (refine RunVC.lit o1 sl42 ty9 rfl rfl (by decide) (And.intro rfl ?_); intro b20 m20 o20)
  refine pword_call (ss := [[61], [33, 61], [60], [60, 61]]) (by assumption) rfl (by first | exact ⟨2, by decide, rfl⟩ | exact ⟨3, by decide, rfl⟩ | exact ⟨4, by decide, rfl⟩ | exact ⟨5, by decide, rfl⟩ | exact ⟨6, by decide, rfl⟩ | exact ⟨7, by decide, rfl⟩ | exact ⟨8, by decide, rfl⟩ | exact ⟨9, by decide, rfl⟩) hR1 (by omega) (by decide) (fun op q2 w2 v h2 hm hv hle2 hR2 oq => ?_) (fun e w' h' hm o2 => ⟨e, w', hE.trans (PM.bind_err hm), rfl, o2⟩)
  subst hv
  rw [PM.bind_ok hm] at hE
  have o2 := oq
  simp only [PSt, pick, List.cons_append, List.nil_append, List.getElem?_cons_succ, List.getElem?_cons_zero, List.getElem?_nil] at o2
  clear oq hm
  refine side_spec.callL (by assumption) rfl hR2 (by omega) (fun sr q3 w3 v h3 hm hv hle3 hR3 oq => ?_) (fun e w' h' hm o2 => ⟨e, w', hE.trans (PM.bind_err hm), rfl, o2⟩)
  subst hv
  rw [PM.bind_ok hm] at hE
  have o3 := oq
  simp only [PSt, pick, List.cons_append, List.nil_append, List.getElem?_cons_succ, List.getElem?_cons_zero, List.getElem?_nil] at o3
  clear oq hm
  refine StillVC.run (StillVC.buildK st58 ?_)
  refine And.intro rfl ?_
  refine And.intro rfl ?_
  refine And.intro rfl ?_
  (refine RunVC.alloc o3 ty58 ?_; intro b41 m41 o41)
  (refine RunVC.storeL o41 4 rfl ty58 rfl (by decide) (And.intro ⟨rfl, rfl⟩ ?_); intro m42 o42)
  refine (ptake_spec [43]).callL (by assumption) rfl hR3 (by omega) (fun b q4 w4 v h4 hm hv hle4 hR4 oq => ?_) (fun e w2 h2 hm o2 => absurd hm (takeB_ok _ _ e))
  subst hv
  rw [PM.bind_ok hm] at hE
  have o4 := oq
  simp only [PSt, pick, List.cons_append, List.nil_append, List.getElem?_cons_succ, List.getElem?_cons_zero, List.getElem?_nil] at o4
  clear oq hm
  cases b with
  | true =>
    rw [if_pos rfl] at hE
    refine Br.tt ?_
    refine pnumber_spec.callL (by assumption) rfl hR4 (by omega) (fun n q5 w5 v h5 hm hv hle5 hR5 oq => ?_) (fun e w' h' hm o2 => ⟨e, w', hE.trans (PM.bind_err hm), rfl, o2⟩)
    obtain ⟨rfl, hv0_5, hv1_5⟩ := hv
    rw [PM.bind_ok hm] at hE
    have o5 := oq
    simp only [PSt, pick, List.cons_append, List.nil_append, List.getElem?_cons_succ, List.getElem?_cons_zero, List.getElem?_nil] at o5
    clear oq hm
    refine StillVC.run (StillVC.fieldAddr st58 rfl rfl rfl ?_)
    (refine RunVC.store o5 4 rfl ty3 rfl (by simp) (And.intro ⟨rfl, rfl⟩ ?_); intro m61 o61)
    refine StillVC.run (StillVC.loadON o61 4 rfl ty58 rfl rfl rfl ?_)
    (refine RunVC.storeL o61 2 rfl ty58 rfl (by decide) (And.intro ⟨rfl, rfl⟩ ?_); intro m63 o63)
    first | refine RetVC.cell2 rfl o63 2 rfl ty58 rfl rfl ?_ | refine RetVC.cell1 rfl o63 2 rfl ty58 rfl rfl ?_ | refine RetVC.cellTT rfl o63 2 rfl ty58 rfl rfl ?_
    exact ⟨⟨sl, op, sr, n⟩, q5, w5, hE, rfl, by omega, hR5, Own.sel (by assumption) [0, 1] rfl⟩
  | false =>
    rw [if_neg (by decide)] at hE
    refine Br.ff ?_
    refine (ptake_spec [45]).callL (by assumption) rfl hR4 (by omega) (fun b q6 w6 v h6 hm hv hle6 hR6 oq => ?_) (fun e w2 h2 hm o2 => absurd hm (takeB_ok _ _ e))
    subst hv
    rw [PM.bind_ok hm] at hE
    have o6 := oq
    simp only [PSt, pick, List.cons_append, List.nil_append, List.getElem?_cons_succ, List.getElem?_cons_zero, List.getElem?_nil] at o6
    clear oq hm
    cases b with
    | true =>
      rw [if_pos rfl] at hE
      refine Br.tt ?_
      refine pnumber_spec.callL (by assumption) rfl hR6 (by omega) (fun n q7 w7 v h7 hm hv hle7 hR7 oq => ?_) (fun e w' h' hm o2 => ⟨e, w', hE.trans (PM.bind_err hm), rfl, o2⟩)
      obtain ⟨rfl, hv0_7, hv1_7⟩ := hv
      rw [PM.bind_ok hm] at hE
      have o7 := oq
      simp only [PSt, pick, List.cons_append, List.nil_append, List.getElem?_cons_succ, List.getElem?_cons_zero, List.getElem?_nil] at o7
      clear oq hm
      refine Ar.i64 (by omega) (by omega) ?_
      refine StillVC.run (StillVC.fieldAddr st58 rfl rfl rfl ?_)
      (refine RunVC.store o7 4 rfl ty3 rfl (by simp) (And.intro ⟨rfl, rfl⟩ ?_); intro m91 o91)
      refine StillVC.run (StillVC.loadON o91 4 rfl ty58 rfl rfl rfl ?_)
      (refine RunVC.storeL o91 2 rfl ty58 rfl (by decide) (And.intro ⟨rfl, rfl⟩ ?_); intro m93 o93)
      first | refine RetVC.cell2 rfl o93 2 rfl ty58 rfl rfl ?_ | refine RetVC.cell1 rfl o93 2 rfl ty58 rfl rfl ?_ | refine RetVC.cellTT rfl o93 2 rfl ty58 rfl rfl ?_
      exact ⟨⟨sl, op, sr, -n⟩, q7, w7, hE, by simp [cndC], by omega, hR7, Own.sel (by assumption) [0, 1] rfl⟩
    | false =>
      rw [if_neg (by decide)] at hE
      refine Br.ff ?_
      refine StillVC.run (StillVC.loadON o6 4 rfl ty58 rfl rfl rfl ?_)
      (refine RunVC.storeL o6 2 rfl ty58 rfl (by decide) (And.intro ⟨rfl, rfl⟩ ?_); intro m101 o101)
      first | refine RetVC.cell2 rfl o101 2 rfl ty58 rfl rfl ?_ | refine RetVC.cell1 rfl o101 2 rfl ty58 rfl rfl ?_ | refine RetVC.cellTT rfl o101 2 rfl ty58 rfl rfl ?_
      exact ⟨⟨sl, op, sr, 0⟩, q6, w6, hE, rfl, by omega, hR6, Own.sel (by assumption) [0, 1] rfl⟩

end Go.Proofs.YtnmfanjhepepbaaGreatDoor

/- The parser's names, conditions and other small things. -/
namespace Go.Proofs.YtnmfanjhepepbaaGreatDoor
open Go

theorem PM.assoc {α β γ : Type} (m : PM α) (f : α → PM β) (g : β → PM γ) : (m >>= f) >>= g = m >>= fun a => f a >>= g := by
  funext ts
  show (match (match m ts with | Except.error e => Except.error e | Except.ok (a, r) => f a r) with | Except.error e => Except.error e | Except.ok (b, q) => g b q) = (match m ts with | Except.error e => Except.error e | Except.ok (a, r) => (match f a r with | Except.error e => Except.error e | Except.ok (b, q) => g b q))
  cases m ts <;> rfl

theorem PEndI.callL {α : Type} {g : FuncId} {args : List Value} {s : List Value} {h : Heap} {K : KK} {Q : QQ} {B : Base} {L : List Item} {bp z : Nat} {tk : Item} {w : Value} {n : Nat} {res : Except (Int × Nat) (α × List Tok)} {V : α → Value → Item → Prop}
    (sp : ∀ B' : Base, Own B' (PSt bp z w tk) h → Spec Tryz.prog g args h (PEndI B' bp z tk n res V)) (o : Own B L h) (e : pick L [0, 1] = PSt bp z w tk)
    (hret : ∀ a r w' v I h', res = .ok (a, r) → V a v I → r.length ≤ n → TokR tk w' r → Own B ([box bp [w', .int .i64 z] 68, tk, I] ++ rest8 L) h' → K v false h')
    (hpan : ∀ e w' h', res = .error e → Own B (PSt bp z w' tk) h' → Q (.panic (failC e)) s h') : CallVC Tryz.prog g args s h K Q := by
  have ol := o.lend [0, 1] [2, 3, 4, 5, 6, 7, 8, 9] rfl
  rw [e] at ol
  exact PEndI.call (sp _ ol) (fun a r w' v I h' h1 h2 h3 h4 h5 => hret a r w' v I h' h1 h2 h3 h4 h5.back) (fun e w' h' h1 h2 => hpan e w' h' h1 (h2.back.sel [0, 1] rfl))

theorem PM.pure_bind' {α β : Type} (a : α) (f : α → PM β) : (pure a : PM α) >>= f = f a := rfl

set_option maxHeartbeats 8000000 in
set_option maxRecDepth 100000 in
theorem names_spec (B : Base) (bp z : Nat) (tk : Item) (w : Value) (ts : List Tok) (h : Heap) (o : Own B (PSt bp z w tk) h) (hR : TokR tk w ts) (hl : ts.length ≤ 5000) :
    Spec Tryz.prog 77 [.pointer (some ⟨bp, 0, none⟩)] h (PEndI B bp z tk ts.length (namesP z ts) (fun l v I => l.length ≤ 5001 ∧ I = row v 9 1 l.length (l.flatMap strC))) := by
  have hE := congrFun (namesP.eq_1 z) ts
  refine Spec.enter Tryz.func77 rfl Tryz.ntmps77 (by kernel_rfl) ?_
  refine StillVC.run (StillVC.makeFn ?_)
  refine PEndI.callL (fun B' o' => listS_spec _ (fun z => nameP z) pname_spec [44] B' bp z tk _ _ _ o' hR (by omega)) (by assumption) rfl (fun a q wq v I h' hm hv hle hR' o2 => ?_) (fun e w' h' hm o2 => ⟨e, w', hE.trans hm, rfl, o2⟩)
  obtain ⟨hn, rfl⟩ := hv
  have o9 := o2
  simp only [PSt, pick, List.cons_append, List.nil_append, List.getElem?_cons_succ, List.getElem?_cons_zero, List.getElem?_nil] at o9
  clear o2
  refine RetVC.one rfl ?_
  exact ⟨a, q, wq, _, hE.trans hm, ⟨hn, rfl⟩, by omega, hR', Own.sel (by assumption) [0, 1, 2] rfl⟩

set_option maxHeartbeats 8000000 in
set_option maxRecDepth 100000 in
theorem conds_spec (B : Base) (bp z : Nat) (tk : Item) (w : Value) (ts : List Tok) (h : Heap) (o : Own B (PSt bp z w tk) h) (hR : TokR tk w ts) (hl : ts.length ≤ 5000) :
    Spec Tryz.prog 86 [.pointer (some ⟨bp, 0, none⟩)] h (PEndI B bp z tk ts.length (condsP z ts) (fun l v I => l.length ≤ 5001 ∧ I = row v 58 14 l.length (l.flatMap cndC))) := by
  have hE := congrFun (condsP.eq_1 z) ts
  refine Spec.enter Tryz.func86 rfl Tryz.ntmps86 (by kernel_rfl) ?_
  (refine RunVC.lit o sl42 ty9 rfl rfl (by decide) (And.intro rfl ?_); intro b10 m10 o10)
  refine pneed_call (ss := [[119, 104, 101, 114, 101]]) (by assumption) rfl (by first | exact ⟨2, by decide, rfl⟩ | exact ⟨3, by decide, rfl⟩ | exact ⟨4, by decide, rfl⟩ | exact ⟨5, by decide, rfl⟩ | exact ⟨6, by decide, rfl⟩ | exact ⟨7, by decide, rfl⟩ | exact ⟨8, by decide, rfl⟩ | exact ⟨9, by decide, rfl⟩) hR (by omega) (by decide) (fun _ q1 w1 v h1 hm hv hle1 hR1 oq => ?_) (fun e w' h' hm o2 => ⟨e, w', hE.trans (PM.bind_err hm), rfl, o2⟩)
  subst hv
  rw [PM.bind_ok hm] at hE
  have o1 := oq
  simp only [PSt, pick, List.cons_append, List.nil_append, List.getElem?_cons_succ, List.getElem?_cons_zero, List.getElem?_nil] at o1
  clear oq hm
  refine StillVC.run (StillVC.makeFn ?_)
  refine PEndI.callL (fun B' o' => listC_spec _ (fun z => condP z) cond_spec [97, 110, 100] B' bp z tk _ _ _ o' hR1 (by omega)) (by assumption) rfl (fun a q wq v I h' hm hv hle hR' o2 => ?_) (fun e w' h' hm o2 => ⟨e, w', hE.trans hm, rfl, o2⟩)
  obtain ⟨hn, rfl⟩ := hv
  have o9 := o2
  simp only [PSt, pick, List.cons_append, List.nil_append, List.getElem?_cons_succ, List.getElem?_cons_zero, List.getElem?_nil] at o9
  clear o2
  refine RetVC.one rfl ?_
  exact ⟨a, q, wq, _, hE.trans hm, ⟨hn, rfl⟩, by omega, hR', Own.sel (by assumption) [0, 1, 2] rfl⟩

set_option maxHeartbeats 8000000 in
set_option maxRecDepth 100000 in
theorem fixed_spec : PSpec 83 (fun bp => [.pointer (some ⟨bp, 0, none⟩)]) (fun z => fixedP z) (fun x v => v = .agg ⟨nmdC x⟩) := by
  intro B bp z tk w ts h o hR hl
  have hE := congrFun (fixedP.eq_1 z) ts
  refine Spec.enter Tryz.func83 rfl Tryz.ntmps83 (by kernel_rfl) ?_
  (refine RunVC.alloc o ty105 ?_; intro b10 m10 o10)
  refine pname_spec.callL (by assumption) rfl hR (by omega) (fun nm q1 w1 v h1 hm hv hle1 hR1 oq => ?_) (fun e w' h' hm o2 => ⟨e, w', hE.trans (PM.bind_err hm), rfl, o2⟩)
  subst hv
  rw [PM.bind_ok hm] at hE
  have o1 := oq
  simp only [PSt, pick, List.cons_append, List.nil_append, List.getElem?_cons_succ, List.getElem?_cons_zero, List.getElem?_nil] at o1
  clear oq hm
  (refine RunVC.lit o1 sl42 ty9 rfl rfl (by decide) (And.intro rfl ?_); intro b20 m20 o20)
  refine pneed_call (ss := [[61]]) (by assumption) rfl (by first | exact ⟨2, by decide, rfl⟩ | exact ⟨3, by decide, rfl⟩ | exact ⟨4, by decide, rfl⟩ | exact ⟨5, by decide, rfl⟩ | exact ⟨6, by decide, rfl⟩ | exact ⟨7, by decide, rfl⟩ | exact ⟨8, by decide, rfl⟩ | exact ⟨9, by decide, rfl⟩) hR1 (by omega) (by decide) (fun _ q2 w2 v h2 hm hv hle2 hR2 oq => ?_) (fun e w' h' hm o2 => ⟨e, w', hE.trans (PM.bind_err hm), rfl, o2⟩)
  subst hv
  rw [PM.bind_ok hm] at hE
  have o2 := oq
  simp only [PSt, pick, List.cons_append, List.nil_append, List.getElem?_cons_succ, List.getElem?_cons_zero, List.getElem?_nil] at o2
  clear oq hm
  refine value_spec.callL (by assumption) rfl hR2 (by omega) (fun x q3 w3 v h3 hm hv hle3 hR3 oq => ?_) (fun e w' h' hm o2 => ⟨e, w', hE.trans (PM.bind_err hm), rfl, o2⟩)
  subst hv
  rw [PM.bind_ok hm] at hE
  have o3 := oq
  simp only [PSt, pick, List.cons_append, List.nil_append, List.getElem?_cons_succ, List.getElem?_cons_zero, List.getElem?_nil] at o3
  clear oq hm
  refine StillVC.run (StillVC.buildK st105 ?_)
  refine And.intro rfl ?_
  refine And.intro rfl ?_
  (refine RunVC.storeL o3 2 rfl ty105 rfl (by decide) (And.intro ⟨rfl, rfl⟩ ?_); intro m41 o41)
  first | refine RetVC.cell2 rfl o41 2 rfl ty105 rfl rfl ?_ | refine RetVC.cell1 rfl o41 2 rfl ty105 rfl rfl ?_ | refine RetVC.cellTT rfl o41 2 rfl ty105 rfl rfl ?_
  exact ⟨⟨nm, x⟩, q3, w3, hE, rfl, by omega, hR3, Own.sel (by assumption) [0, 1] rfl⟩

set_option maxHeartbeats 8000000 in
set_option maxRecDepth 100000 in
theorem variable_spec : PSpec 85 (fun bp => [.pointer (some ⟨bp, 0, none⟩)]) (fun z => varP z) (fun x v => v = .agg ⟨vrC x⟩) := by
  intro B bp z tk w ts h o hR hl
  have hE := congrFun (varP.eq_1 z) ts
  refine Spec.enter Tryz.func85 rfl Tryz.ntmps85 (by kernel_rfl) ?_
  (refine RunVC.alloc o ty108 ?_; intro b10 m10 o10)
  refine pname_spec.callL (by assumption) rfl hR (by omega) (fun tb q1 w1 v h1 hm hv hle1 hR1 oq => ?_) (fun e w' h' hm o2 => ⟨e, w', hE.trans (PM.bind_err hm), rfl, o2⟩)
  subst hv
  rw [PM.bind_ok hm] at hE
  have o1 := oq
  simp only [PSt, pick, List.cons_append, List.nil_append, List.getElem?_cons_succ, List.getElem?_cons_zero, List.getElem?_nil] at o1
  clear oq hm
  refine pname_spec.callL (by assumption) rfl hR1 (by omega) (fun nm q2 w2 v h2 hm hv hle2 hR2 oq => ?_) (fun e w' h' hm o2 => ⟨e, w', hE.trans (PM.bind_err hm), rfl, o2⟩)
  subst hv
  rw [PM.bind_ok hm] at hE
  have o2 := oq
  simp only [PSt, pick, List.cons_append, List.nil_append, List.getElem?_cons_succ, List.getElem?_cons_zero, List.getElem?_nil] at o2
  clear oq hm
  refine StillVC.run (StillVC.buildK st108 ?_)
  refine And.intro rfl ?_
  refine And.intro rfl ?_
  (refine RunVC.storeL o2 2 rfl ty108 rfl (by decide) (And.intro ⟨rfl, rfl⟩ ?_); intro m31 o31)
  first | refine RetVC.cell2 rfl o31 2 rfl ty108 rfl rfl ?_ | refine RetVC.cell1 rfl o31 2 rfl ty108 rfl rfl ?_ | refine RetVC.cellTT rfl o31 2 rfl ty108 rfl rfl ?_
  exact ⟨⟨nm, tb⟩, q2, w2, hE, rfl, by omega, hR2, Own.sel (by assumption) [0, 1] rfl⟩

set_option maxHeartbeats 8000000 in
set_option maxRecDepth 100000 in
theorem column_spec : PSpec 76 (fun bp => [.pointer (some ⟨bp, 0, none⟩)]) (fun z => columnP z) (fun x v => v = .agg ⟨colC x⟩) := by
  intro B bp z tk w ts h o hR hl
  have hE := congrFun (columnP.eq_1 z) ts
  refine Spec.enter Tryz.func76 rfl Tryz.ntmps76 (by kernel_rfl) ?_
  (refine RunVC.alloc o ty122 ?_; intro b10 m10 o10)
  refine pname_spec.callL (by assumption) rfl hR (by omega) (fun nm q1 w1 v h1 hm hv hle1 hR1 oq => ?_) (fun e w' h' hm o2 => ⟨e, w', hE.trans (PM.bind_err hm), rfl, o2⟩)
  subst hv
  rw [PM.bind_ok hm] at hE
  have o1 := oq
  simp only [PSt, pick, List.cons_append, List.nil_append, List.getElem?_cons_succ, List.getElem?_cons_zero, List.getElem?_nil] at o1
  clear oq hm
  (refine RunVC.lit o1 sl42 ty9 rfl rfl (by decide) (And.intro rfl ?_); intro b20 m20 o20)
  refine pword_call (ss := [[116, 101, 120, 116], [110, 117, 109, 98, 101, 114], [100, 97, 121], [102, 108, 97, 103]]) (by assumption) rfl (by first | exact ⟨2, by decide, rfl⟩ | exact ⟨3, by decide, rfl⟩ | exact ⟨4, by decide, rfl⟩ | exact ⟨5, by decide, rfl⟩ | exact ⟨6, by decide, rfl⟩ | exact ⟨7, by decide, rfl⟩ | exact ⟨8, by decide, rfl⟩ | exact ⟨9, by decide, rfl⟩) hR1 (by omega) (by decide) (fun kd q2 w2 v h2 hm hv hle2 hR2 oq => ?_) (fun e w' h' hm o2 => ⟨e, w', hE.trans (PM.bind_err hm), rfl, o2⟩)
  subst hv
  rw [PM.bind_ok hm] at hE
  have o2 := oq
  simp only [PSt, pick, List.cons_append, List.nil_append, List.getElem?_cons_succ, List.getElem?_cons_zero, List.getElem?_nil] at o2
  clear oq hm
  refine StillVC.run (StillVC.buildK st122 ?_)
  refine And.intro rfl ?_
  refine And.intro rfl ?_
  (refine RunVC.alloc o2 ty122 ?_; intro b31 m31 o31)
  (refine RunVC.storeL o31 4 rfl ty122 rfl (by decide) (And.intro ⟨rfl, rfl⟩ ?_); intro m32 o32)
  refine (ptake_spec [61]).callL (by assumption) rfl hR2 (by omega) (fun b q3 w3 v h3 hm hv hle3 hR3 oq => ?_) (fun e w2 h2 hm o2 => absurd hm (takeB_ok _ _ e))
  subst hv
  rw [PM.bind_ok hm] at hE
  have o3 := oq
  simp only [PSt, pick, List.cons_append, List.nil_append, List.getElem?_cons_succ, List.getElem?_cons_zero, List.getElem?_nil] at o3
  clear oq hm
  cases b with
  | true =>
    rw [if_pos rfl] at hE
    refine Br.tt ?_
    refine value_spec.callL (by assumption) rfl hR3 (by omega) (fun x q4 w4 v h4 hm hv hle4 hR4 oq => ?_) (fun e w' h' hm o2 => ⟨e, w', hE.trans (PM.bind_err hm), rfl, o2⟩)
    subst hv
    rw [PM.bind_ok hm] at hE
    have o4 := oq
    simp only [PSt, pick, List.cons_append, List.nil_append, List.getElem?_cons_succ, List.getElem?_cons_zero, List.getElem?_nil] at o4
    clear oq hm
    refine StillVC.run (StillVC.fieldAddr st122 rfl rfl rfl ?_)
    (refine RunVC.store o4 4 rfl ty54 rfl (by simp) (And.intro ⟨rfl, rfl⟩ ?_); intro m51 o51)
    refine StillVC.run (StillVC.loadON o51 4 rfl ty122 rfl rfl rfl ?_)
    (refine RunVC.storeL o51 2 rfl ty122 rfl (by decide) (And.intro ⟨rfl, rfl⟩ ?_); intro m53 o53)
    first | refine RetVC.cell2 rfl o53 2 rfl ty122 rfl rfl ?_ | refine RetVC.cell1 rfl o53 2 rfl ty122 rfl rfl ?_ | refine RetVC.cellTT rfl o53 2 rfl ty122 rfl rfl ?_
    exact ⟨⟨nm, kd, x⟩, q4, w4, hE, rfl, by omega, hR4, Own.sel (by assumption) [0, 1] rfl⟩
  | false =>
    rw [if_neg (by decide)] at hE
    refine Br.ff ?_
    refine StillVC.run (StillVC.loadON o3 4 rfl ty122 rfl rfl rfl ?_)
    (refine RunVC.storeL o3 2 rfl ty122 rfl (by decide) (And.intro ⟨rfl, rfl⟩ ?_); intro m61 o61)
    first | refine RetVC.cell2 rfl o61 2 rfl ty122 rfl rfl ?_ | refine RetVC.cell1 rfl o61 2 rfl ty122 rfl rfl ?_ | refine RetVC.cellTT rfl o61 2 rfl ty122 rfl rfl ?_
    exact ⟨⟨nm, kd, vl0⟩, q3, w3, hE, rfl, by omega, hR3, Own.sel (by assumption) [0, 1] rfl⟩

set_option maxHeartbeats 8000000 in
set_option maxRecDepth 100000 in
theorem place_spec : PSpec 79 (fun bp => [.pointer (some ⟨bp, 0, none⟩)]) (fun z => placeP z) (fun x v => v = .tuple ⟨[.string ⟨⟨x.1⟩⟩, .string ⟨⟨x.2⟩⟩]⟩) := by
  intro B bp z tk w ts h o hR hl
  have hE := congrFun (placeP.eq_1 z) ts
  refine Spec.enter Tryz.func79 rfl Tryz.ntmps79 (by kernel_rfl) ?_
  refine pname_spec.callL (by assumption) rfl hR (by omega) (fun tb q1 w1 v h1 hm hv hle1 hR1 oq => ?_) (fun e w' h' hm o2 => ⟨e, w', hE.trans (PM.bind_err hm), rfl, o2⟩)
  subst hv
  rw [PM.bind_ok hm] at hE
  have o1 := oq
  simp only [PSt, pick, List.cons_append, List.nil_append, List.getElem?_cons_succ, List.getElem?_cons_zero, List.getElem?_nil] at o1
  clear oq hm
  (refine RunVC.lit o1 sl42 ty9 rfl rfl (by decide) (And.intro rfl ?_); intro b20 m20 o20)
  refine pneed_call (ss := [[46]]) (by assumption) rfl (by first | exact ⟨2, by decide, rfl⟩ | exact ⟨3, by decide, rfl⟩ | exact ⟨4, by decide, rfl⟩ | exact ⟨5, by decide, rfl⟩ | exact ⟨6, by decide, rfl⟩ | exact ⟨7, by decide, rfl⟩ | exact ⟨8, by decide, rfl⟩ | exact ⟨9, by decide, rfl⟩) hR1 (by omega) (by decide) (fun _ q2 w2 v h2 hm hv hle2 hR2 oq => ?_) (fun e w' h' hm o2 => ⟨e, w', hE.trans (PM.bind_err hm), rfl, o2⟩)
  subst hv
  rw [PM.bind_ok hm] at hE
  have o2 := oq
  simp only [PSt, pick, List.cons_append, List.nil_append, List.getElem?_cons_succ, List.getElem?_cons_zero, List.getElem?_nil] at o2
  clear oq hm
  refine pname_spec.callL (by assumption) rfl hR2 (by omega) (fun at_ q3 w3 v h3 hm hv hle3 hR3 oq => ?_) (fun e w' h' hm o2 => ⟨e, w', hE.trans (PM.bind_err hm), rfl, o2⟩)
  subst hv
  rw [PM.bind_ok hm] at hE
  have o3 := oq
  simp only [PSt, pick, List.cons_append, List.nil_append, List.getElem?_cons_succ, List.getElem?_cons_zero, List.getElem?_nil] at o3
  clear oq hm
  refine RetVC.two rfl ?_
  exact ⟨(tb, at_), q3, w3, hE, rfl, by omega, hR3, Own.sel (by assumption) [0, 1] rfl⟩

set_option maxHeartbeats 8000000 in
set_option maxRecDepth 100000 in
theorem term_spec : PSpec 81 (fun bp => [.pointer (some ⟨bp, 0, none⟩)]) (fun z => termP z) (fun x v => v = .agg ⟨trmC x⟩) := by
  intro B bp z tk w ts h o hR hl
  have hE := congrFun (termP.eq_1 z) ts
  refine Spec.enter Tryz.func81 rfl Tryz.ntmps81 (by kernel_rfl) ?_
  (refine RunVC.alloc o ty62 ?_; intro b10 m10 o10)
  refine pname_spec.callL (by assumption) rfl hR (by omega) (fun nm q1 w1 v h1 hm hv hle1 hR1 oq => ?_) (fun e w' h' hm o2 => ⟨e, w', hE.trans (PM.bind_err hm), rfl, o2⟩)
  subst hv
  rw [PM.bind_ok hm] at hE
  have o1 := oq
  simp only [PSt, pick, List.cons_append, List.nil_append, List.getElem?_cons_succ, List.getElem?_cons_zero, List.getElem?_nil] at o1
  clear oq hm
  (refine RunVC.lit o1 sl42 ty9 rfl rfl (by decide) (And.intro rfl ?_); intro b20 m20 o20)
  refine pword_call (ss := [[101, 113, 117, 97, 108], [101, 100, 105, 116], [106, 97, 99, 99, 97, 114, 100], [106, 97, 114, 111], [110, 101, 97, 114]]) (by assumption) rfl (by first | exact ⟨2, by decide, rfl⟩ | exact ⟨3, by decide, rfl⟩ | exact ⟨4, by decide, rfl⟩ | exact ⟨5, by decide, rfl⟩ | exact ⟨6, by decide, rfl⟩ | exact ⟨7, by decide, rfl⟩ | exact ⟨8, by decide, rfl⟩ | exact ⟨9, by decide, rfl⟩) hR1 (by omega) (by decide) (fun ms q2 w2 v h2 hm hv hle2 hR2 oq => ?_) (fun e w' h' hm o2 => ⟨e, w', hE.trans (PM.bind_err hm), rfl, o2⟩)
  subst hv
  rw [PM.bind_ok hm] at hE
  have o2 := oq
  simp only [PSt, pick, List.cons_append, List.nil_append, List.getElem?_cons_succ, List.getElem?_cons_zero, List.getElem?_nil] at o2
  clear oq hm
  by_cases h5 : ms = 5
  · rw [ifP_yes (by simp [h5])] at hE
    refine StillVC.run (StillVC.buildK st62 ?_)
    refine And.intro rfl ?_
    refine And.intro rfl ?_
    (refine RunVC.alloc o2 ty62 ?_; intro b31 m31 o31)
    (refine RunVC.storeL o31 4 rfl ty62 rfl (by decide) (And.intro ⟨rfl, rfl⟩ ?_); intro m32 o32)
    refine StillVC.run (StillVC.fieldAddr st62 rfl rfl rfl ?_)
    refine StillVC.run (StillVC.loadO o32 4 rfl ty3 rfl rfl ?_)
    refine Br.dec (fun c35 => ?_) (fun hc => absurd (by omega) hc)
    refine pnumber_spec.callL (by assumption) rfl hR2 (by omega) (fun tol_ q3 w3 v h3 hm hv hle3 hR3 oq => ?_) (fun e w' h' hm o2 => ⟨e, w', hE.trans (PM.bind_err hm), rfl, o2⟩)
    obtain ⟨rfl, hv0_3, hv1_3⟩ := hv
    rw [PM.bind_ok hm] at hE
    have o3 := oq
    simp only [PSt, pick, List.cons_append, List.nil_append, List.getElem?_cons_succ, List.getElem?_cons_zero, List.getElem?_nil] at o3
    clear oq hm
    refine StillVC.run (StillVC.fieldAddr st62 rfl rfl rfl ?_)
    (refine RunVC.store o3 4 rfl ty3 rfl (by simp) (And.intro ⟨rfl, rfl⟩ ?_); intro m41 o41)
    (refine RunVC.lit o41 sl42 ty9 rfl rfl (by decide) (And.intro rfl ?_); intro b42 m42 o42)
    refine pneed_call (ss := [[108, 101, 97, 115, 116]]) (by assumption) rfl (by first | exact ⟨2, by decide, rfl⟩ | exact ⟨3, by decide, rfl⟩ | exact ⟨4, by decide, rfl⟩ | exact ⟨5, by decide, rfl⟩ | exact ⟨6, by decide, rfl⟩ | exact ⟨7, by decide, rfl⟩ | exact ⟨8, by decide, rfl⟩ | exact ⟨9, by decide, rfl⟩) hR3 (by omega) (by decide) (fun _ q4 w4 v h4 hm hv hle4 hR4 oq => ?_) (fun e w' h' hm o2 => ⟨e, w', hE.trans (PM.bind_err hm), rfl, o2⟩)
    subst hv
    rw [PM.bind_ok hm] at hE
    have o4 := oq
    simp only [PSt, pick, List.cons_append, List.nil_append, List.getElem?_cons_succ, List.getElem?_cons_zero, List.getElem?_nil] at o4
    clear oq hm
    refine pnumber_spec.callL (by assumption) rfl hR4 (by omega) (fun num_ q5 w5 v h5 hm hv hle5 hR5 oq => ?_) (fun e w' h' hm o2 => ⟨e, w', hE.trans (PM.bind_err hm), rfl, o2⟩)
    obtain ⟨rfl, hv0_5, hv1_5⟩ := hv
    rw [PM.bind_ok hm] at hE
    have o5 := oq
    simp only [PSt, pick, List.cons_append, List.nil_append, List.getElem?_cons_succ, List.getElem?_cons_zero, List.getElem?_nil] at o5
    clear oq hm
    refine StillVC.run (StillVC.buildK st60 ?_)
    refine And.intro rfl ?_
    refine And.intro rfl ?_
    refine StillVC.run (StillVC.fieldAddr st62 rfl rfl rfl ?_)
    (refine RunVC.store o5 4 rfl ty60 rfl (by simp) (And.intro ⟨rfl, rfl⟩ ?_); intro m62 o62)
    rw [PM.assoc] at hE
    refine (ptake_spec [47]).callL (by assumption) rfl hR5 (by omega) (fun b q6 w6 v h6 hm hv hle6 hR6 oq => ?_) (fun e w2 h2 hm o2 => absurd hm (takeB_ok _ _ e))
    subst hv
    rw [PM.bind_ok hm] at hE
    have o6 := oq
    simp only [PSt, pick, List.cons_append, List.nil_append, List.getElem?_cons_succ, List.getElem?_cons_zero, List.getElem?_nil] at o6
    clear oq hm
    cases b with
    | true =>
      rw [if_pos rfl] at hE
      refine Br.tt ?_
      refine pnumber_spec.callL (by assumption) rfl hR6 (by omega) (fun den_ q7 w7 v h7 hm hv hle7 hR7 oq => ?_) (fun e w' h' hm o2 => ⟨e, w', hE.trans (PM.bind_err hm), rfl, o2⟩)
      obtain ⟨rfl, hv0_7, hv1_7⟩ := hv
      rw [PM.bind_ok hm] at hE
      have o7 := oq
      simp only [PSt, pick, List.cons_append, List.nil_append, List.getElem?_cons_succ, List.getElem?_cons_zero, List.getElem?_nil] at o7
      clear oq hm
      refine StillVC.run (StillVC.fieldAddr st62 rfl rfl rfl ?_)
      refine StillVC.run (StillVC.fieldAddr st60 rfl rfl rfl ?_)
      (refine RunVC.store o7 4 rfl ty3 rfl (by simp) (And.intro ⟨rfl, rfl⟩ ?_); intro m82 o82)
      (refine RunVC.lit o82 sl42 ty9 rfl rfl (by decide) (And.intro rfl ?_); intro b83 m83 o83)
      refine pneed_call (ss := [[103, 105, 118, 101, 115]]) (by assumption) rfl (by first | exact ⟨2, by decide, rfl⟩ | exact ⟨3, by decide, rfl⟩ | exact ⟨4, by decide, rfl⟩ | exact ⟨5, by decide, rfl⟩ | exact ⟨6, by decide, rfl⟩ | exact ⟨7, by decide, rfl⟩ | exact ⟨8, by decide, rfl⟩ | exact ⟨9, by decide, rfl⟩) hR7 (by omega) (by decide) (fun _ q8 w8 v h8 hm hv hle8 hR8 oq => ?_) (fun e w' h' hm o2 => ⟨e, w', hE.trans (PM.bind_err hm), rfl, o2⟩)
      subst hv
      rw [PM.bind_ok hm] at hE
      have o8 := oq
      simp only [PSt, pick, List.cons_append, List.nil_append, List.getElem?_cons_succ, List.getElem?_cons_zero, List.getElem?_nil] at o8
      clear oq hm
      refine pnumber_spec.callL (by assumption) rfl hR8 (by omega) (fun gv q9 w9 v h9 hm hv hle9 hR9 oq => ?_) (fun e w' h' hm o2 => ⟨e, w', hE.trans (PM.bind_err hm), rfl, o2⟩)
      obtain ⟨rfl, hv0_9, hv1_9⟩ := hv
      rw [PM.bind_ok hm] at hE
      have o9 := oq
      simp only [PSt, pick, List.cons_append, List.nil_append, List.getElem?_cons_succ, List.getElem?_cons_zero, List.getElem?_nil] at o9
      clear oq hm
      refine StillVC.run (StillVC.fieldAddr st62 rfl rfl rfl ?_)
      (refine RunVC.store o9 4 rfl ty3 rfl (by simp) (And.intro ⟨rfl, rfl⟩ ?_); intro m101 o101)
      rw [PM.assoc] at hE
      refine (ptake_spec [116, 97, 107, 101, 115]).callL (by assumption) rfl hR9 (by omega) (fun b q10 w10 v h10 hm hv hle10 hR10 oq => ?_) (fun e w2 h2 hm o2 => absurd hm (takeB_ok _ _ e))
      subst hv
      rw [PM.bind_ok hm] at hE
      have o10 := oq
      simp only [PSt, pick, List.cons_append, List.nil_append, List.getElem?_cons_succ, List.getElem?_cons_zero, List.getElem?_nil] at o10
      clear oq hm
      cases b with
      | true =>
        rw [if_pos rfl] at hE
        refine Br.tt ?_
        refine pnumber_spec.callL (by assumption) rfl hR10 (by omega) (fun tk_ q11 w11 v h11 hm hv hle11 hR11 oq => ?_) (fun e w' h' hm o2 => ⟨e, w', hE.trans (PM.bind_err hm), rfl, o2⟩)
        obtain ⟨rfl, hv0_11, hv1_11⟩ := hv
        rw [PM.bind_ok hm] at hE
        have o11 := oq
        simp only [PSt, pick, List.cons_append, List.nil_append, List.getElem?_cons_succ, List.getElem?_cons_zero, List.getElem?_nil] at o11
        clear oq hm
        refine StillVC.run (StillVC.fieldAddr st62 rfl rfl rfl ?_)
        (refine RunVC.store o11 4 rfl ty3 rfl (by simp) (And.intro ⟨rfl, rfl⟩ ?_); intro m121 o121)
        (refine RunVC.lit o121 sl42 ty9 rfl rfl (by decide) (And.intro rfl ?_); intro b122 m122 o122)
        refine pneed_call (ss := [[59]]) (by assumption) rfl (by first | exact ⟨2, by decide, rfl⟩ | exact ⟨3, by decide, rfl⟩ | exact ⟨4, by decide, rfl⟩ | exact ⟨5, by decide, rfl⟩ | exact ⟨6, by decide, rfl⟩ | exact ⟨7, by decide, rfl⟩ | exact ⟨8, by decide, rfl⟩ | exact ⟨9, by decide, rfl⟩) hR11 (by omega) (by decide) (fun _ q12 w12 v h12 hm hv hle12 hR12 oq => ?_) (fun e w' h' hm o2 => ⟨e, w', hE.trans (PM.bind_err hm), rfl, o2⟩)
        subst hv
        rw [PM.bind_ok hm] at hE
        have o12 := oq
        simp only [PSt, pick, List.cons_append, List.nil_append, List.getElem?_cons_succ, List.getElem?_cons_zero, List.getElem?_nil] at o12
        clear oq hm
        refine StillVC.run (StillVC.loadON o12 4 rfl ty62 rfl rfl rfl ?_)
        (refine RunVC.storeL o12 2 rfl ty62 rfl (by decide) (And.intro ⟨rfl, rfl⟩ ?_); intro m131 o131)
        first | refine RetVC.cell2 rfl o131 2 rfl ty62 rfl rfl ?_ | refine RetVC.cell1 rfl o131 2 rfl ty62 rfl rfl ?_ | refine RetVC.cellTT rfl o131 2 rfl ty62 rfl rfl ?_
        exact ⟨⟨nm, ms, tol_, num_, den_, gv, tk_⟩, q12, w12, hE, rfl, by omega, hR12, Own.sel (by assumption) [0, 1] rfl⟩
      | false =>
        rw [if_neg (by decide)] at hE
        refine Br.ff ?_
        (refine RunVC.lit o10 sl42 ty9 rfl rfl (by decide) (And.intro rfl ?_); intro b140 m140 o140)
        rw [PM.pure_bind'] at hE
        refine pneed_call (ss := [[59]]) (by assumption) rfl (by first | exact ⟨2, by decide, rfl⟩ | exact ⟨3, by decide, rfl⟩ | exact ⟨4, by decide, rfl⟩ | exact ⟨5, by decide, rfl⟩ | exact ⟨6, by decide, rfl⟩ | exact ⟨7, by decide, rfl⟩ | exact ⟨8, by decide, rfl⟩ | exact ⟨9, by decide, rfl⟩) hR10 (by omega) (by decide) (fun _ q13 w13 v h13 hm hv hle13 hR13 oq => ?_) (fun e w' h' hm o2 => ⟨e, w', hE.trans (PM.bind_err hm), rfl, o2⟩)
        subst hv
        rw [PM.bind_ok hm] at hE
        have o13 := oq
        simp only [PSt, pick, List.cons_append, List.nil_append, List.getElem?_cons_succ, List.getElem?_cons_zero, List.getElem?_nil] at o13
        clear oq hm
        refine StillVC.run (StillVC.loadON o13 4 rfl ty62 rfl rfl rfl ?_)
        (refine RunVC.storeL o13 2 rfl ty62 rfl (by decide) (And.intro ⟨rfl, rfl⟩ ?_); intro m151 o151)
        first | refine RetVC.cell2 rfl o151 2 rfl ty62 rfl rfl ?_ | refine RetVC.cell1 rfl o151 2 rfl ty62 rfl rfl ?_ | refine RetVC.cellTT rfl o151 2 rfl ty62 rfl rfl ?_
        exact ⟨⟨nm, ms, tol_, num_, den_, gv, 0⟩, q13, w13, hE, rfl, by omega, hR13, Own.sel (by assumption) [0, 1] rfl⟩
    | false =>
      rw [if_neg (by decide)] at hE
      refine Br.ff ?_
      (refine RunVC.lit o6 sl42 ty9 rfl rfl (by decide) (And.intro rfl ?_); intro b160 m160 o160)
      rw [PM.pure_bind'] at hE
      refine pneed_call (ss := [[103, 105, 118, 101, 115]]) (by assumption) rfl (by first | exact ⟨2, by decide, rfl⟩ | exact ⟨3, by decide, rfl⟩ | exact ⟨4, by decide, rfl⟩ | exact ⟨5, by decide, rfl⟩ | exact ⟨6, by decide, rfl⟩ | exact ⟨7, by decide, rfl⟩ | exact ⟨8, by decide, rfl⟩ | exact ⟨9, by decide, rfl⟩) hR6 (by omega) (by decide) (fun _ q14 w14 v h14 hm hv hle14 hR14 oq => ?_) (fun e w' h' hm o2 => ⟨e, w', hE.trans (PM.bind_err hm), rfl, o2⟩)
      subst hv
      rw [PM.bind_ok hm] at hE
      have o14 := oq
      simp only [PSt, pick, List.cons_append, List.nil_append, List.getElem?_cons_succ, List.getElem?_cons_zero, List.getElem?_nil] at o14
      clear oq hm
      refine pnumber_spec.callL (by assumption) rfl hR14 (by omega) (fun gv q15 w15 v h15 hm hv hle15 hR15 oq => ?_) (fun e w' h' hm o2 => ⟨e, w', hE.trans (PM.bind_err hm), rfl, o2⟩)
      obtain ⟨rfl, hv0_15, hv1_15⟩ := hv
      rw [PM.bind_ok hm] at hE
      have o15 := oq
      simp only [PSt, pick, List.cons_append, List.nil_append, List.getElem?_cons_succ, List.getElem?_cons_zero, List.getElem?_nil] at o15
      clear oq hm
      refine StillVC.run (StillVC.fieldAddr st62 rfl rfl rfl ?_)
      (refine RunVC.store o15 4 rfl ty3 rfl (by simp) (And.intro ⟨rfl, rfl⟩ ?_); intro m181 o181)
      rw [PM.assoc] at hE
      refine (ptake_spec [116, 97, 107, 101, 115]).callL (by assumption) rfl hR15 (by omega) (fun b q16 w16 v h16 hm hv hle16 hR16 oq => ?_) (fun e w2 h2 hm o2 => absurd hm (takeB_ok _ _ e))
      subst hv
      rw [PM.bind_ok hm] at hE
      have o16 := oq
      simp only [PSt, pick, List.cons_append, List.nil_append, List.getElem?_cons_succ, List.getElem?_cons_zero, List.getElem?_nil] at o16
      clear oq hm
      cases b with
      | true =>
        rw [if_pos rfl] at hE
        refine Br.tt ?_
        refine pnumber_spec.callL (by assumption) rfl hR16 (by omega) (fun tk_ q17 w17 v h17 hm hv hle17 hR17 oq => ?_) (fun e w' h' hm o2 => ⟨e, w', hE.trans (PM.bind_err hm), rfl, o2⟩)
        obtain ⟨rfl, hv0_17, hv1_17⟩ := hv
        rw [PM.bind_ok hm] at hE
        have o17 := oq
        simp only [PSt, pick, List.cons_append, List.nil_append, List.getElem?_cons_succ, List.getElem?_cons_zero, List.getElem?_nil] at o17
        clear oq hm
        refine StillVC.run (StillVC.fieldAddr st62 rfl rfl rfl ?_)
        (refine RunVC.store o17 4 rfl ty3 rfl (by simp) (And.intro ⟨rfl, rfl⟩ ?_); intro m201 o201)
        (refine RunVC.lit o201 sl42 ty9 rfl rfl (by decide) (And.intro rfl ?_); intro b202 m202 o202)
        refine pneed_call (ss := [[59]]) (by assumption) rfl (by first | exact ⟨2, by decide, rfl⟩ | exact ⟨3, by decide, rfl⟩ | exact ⟨4, by decide, rfl⟩ | exact ⟨5, by decide, rfl⟩ | exact ⟨6, by decide, rfl⟩ | exact ⟨7, by decide, rfl⟩ | exact ⟨8, by decide, rfl⟩ | exact ⟨9, by decide, rfl⟩) hR17 (by omega) (by decide) (fun _ q18 w18 v h18 hm hv hle18 hR18 oq => ?_) (fun e w' h' hm o2 => ⟨e, w', hE.trans (PM.bind_err hm), rfl, o2⟩)
        subst hv
        rw [PM.bind_ok hm] at hE
        have o18 := oq
        simp only [PSt, pick, List.cons_append, List.nil_append, List.getElem?_cons_succ, List.getElem?_cons_zero, List.getElem?_nil] at o18
        clear oq hm
        refine StillVC.run (StillVC.loadON o18 4 rfl ty62 rfl rfl rfl ?_)
        (refine RunVC.storeL o18 2 rfl ty62 rfl (by decide) (And.intro ⟨rfl, rfl⟩ ?_); intro m211 o211)
        first | refine RetVC.cell2 rfl o211 2 rfl ty62 rfl rfl ?_ | refine RetVC.cell1 rfl o211 2 rfl ty62 rfl rfl ?_ | refine RetVC.cellTT rfl o211 2 rfl ty62 rfl rfl ?_
        exact ⟨⟨nm, ms, tol_, num_, 1, gv, tk_⟩, q18, w18, hE, rfl, by omega, hR18, Own.sel (by assumption) [0, 1] rfl⟩
      | false =>
        rw [if_neg (by decide)] at hE
        refine Br.ff ?_
        (refine RunVC.lit o16 sl42 ty9 rfl rfl (by decide) (And.intro rfl ?_); intro b220 m220 o220)
        rw [PM.pure_bind'] at hE
        refine pneed_call (ss := [[59]]) (by assumption) rfl (by first | exact ⟨2, by decide, rfl⟩ | exact ⟨3, by decide, rfl⟩ | exact ⟨4, by decide, rfl⟩ | exact ⟨5, by decide, rfl⟩ | exact ⟨6, by decide, rfl⟩ | exact ⟨7, by decide, rfl⟩ | exact ⟨8, by decide, rfl⟩ | exact ⟨9, by decide, rfl⟩) hR16 (by omega) (by decide) (fun _ q19 w19 v h19 hm hv hle19 hR19 oq => ?_) (fun e w' h' hm o2 => ⟨e, w', hE.trans (PM.bind_err hm), rfl, o2⟩)
        subst hv
        rw [PM.bind_ok hm] at hE
        have o19 := oq
        simp only [PSt, pick, List.cons_append, List.nil_append, List.getElem?_cons_succ, List.getElem?_cons_zero, List.getElem?_nil] at o19
        clear oq hm
        refine StillVC.run (StillVC.loadON o19 4 rfl ty62 rfl rfl rfl ?_)
        (refine RunVC.storeL o19 2 rfl ty62 rfl (by decide) (And.intro ⟨rfl, rfl⟩ ?_); intro m231 o231)
        first | refine RetVC.cell2 rfl o231 2 rfl ty62 rfl rfl ?_ | refine RetVC.cell1 rfl o231 2 rfl ty62 rfl rfl ?_ | refine RetVC.cellTT rfl o231 2 rfl ty62 rfl rfl ?_
        exact ⟨⟨nm, ms, tol_, num_, 1, gv, 0⟩, q19, w19, hE, rfl, by omega, hR19, Own.sel (by assumption) [0, 1] rfl⟩
  · rw [ifP_no (by simp [h5]), PM.pure_bind'] at hE
    refine StillVC.run (StillVC.buildK st62 ?_)
    refine And.intro rfl ?_
    refine And.intro rfl ?_
    (refine RunVC.alloc o2 ty62 ?_; intro b241 m241 o241)
    (refine RunVC.storeL o241 4 rfl ty62 rfl (by decide) (And.intro ⟨rfl, rfl⟩ ?_); intro m242 o242)
    refine StillVC.run (StillVC.fieldAddr st62 rfl rfl rfl ?_)
    refine StillVC.run (StillVC.loadO o242 4 rfl ty3 rfl rfl ?_)
    refine Br.dec (fun hc => absurd hc (by omega)) (fun c245 => ?_)
    (refine RunVC.lit o242 sl42 ty9 rfl rfl (by decide) (And.intro rfl ?_); intro b246 m246 o246)
    refine pneed_call (ss := [[108, 101, 97, 115, 116]]) (by assumption) rfl (by first | exact ⟨2, by decide, rfl⟩ | exact ⟨3, by decide, rfl⟩ | exact ⟨4, by decide, rfl⟩ | exact ⟨5, by decide, rfl⟩ | exact ⟨6, by decide, rfl⟩ | exact ⟨7, by decide, rfl⟩ | exact ⟨8, by decide, rfl⟩ | exact ⟨9, by decide, rfl⟩) hR2 (by omega) (by decide) (fun _ q20 w20 v h20 hm hv hle20 hR20 oq => ?_) (fun e w' h' hm o2 => ⟨e, w', hE.trans (PM.bind_err hm), rfl, o2⟩)
    subst hv
    rw [PM.bind_ok hm] at hE
    have o20 := oq
    simp only [PSt, pick, List.cons_append, List.nil_append, List.getElem?_cons_succ, List.getElem?_cons_zero, List.getElem?_nil] at o20
    clear oq hm
    refine pnumber_spec.callL (by assumption) rfl hR20 (by omega) (fun num_ q21 w21 v h21 hm hv hle21 hR21 oq => ?_) (fun e w' h' hm o2 => ⟨e, w', hE.trans (PM.bind_err hm), rfl, o2⟩)
    obtain ⟨rfl, hv0_21, hv1_21⟩ := hv
    rw [PM.bind_ok hm] at hE
    have o21 := oq
    simp only [PSt, pick, List.cons_append, List.nil_append, List.getElem?_cons_succ, List.getElem?_cons_zero, List.getElem?_nil] at o21
    clear oq hm
    refine StillVC.run (StillVC.buildK st60 ?_)
    refine And.intro rfl ?_
    refine And.intro rfl ?_
    refine StillVC.run (StillVC.fieldAddr st62 rfl rfl rfl ?_)
    (refine RunVC.store o21 4 rfl ty60 rfl (by simp) (And.intro ⟨rfl, rfl⟩ ?_); intro m262 o262)
    rw [PM.assoc] at hE
    refine (ptake_spec [47]).callL (by assumption) rfl hR21 (by omega) (fun b q22 w22 v h22 hm hv hle22 hR22 oq => ?_) (fun e w2 h2 hm o2 => absurd hm (takeB_ok _ _ e))
    subst hv
    rw [PM.bind_ok hm] at hE
    have o22 := oq
    simp only [PSt, pick, List.cons_append, List.nil_append, List.getElem?_cons_succ, List.getElem?_cons_zero, List.getElem?_nil] at o22
    clear oq hm
    cases b with
    | true =>
      rw [if_pos rfl] at hE
      refine Br.tt ?_
      refine pnumber_spec.callL (by assumption) rfl hR22 (by omega) (fun den_ q23 w23 v h23 hm hv hle23 hR23 oq => ?_) (fun e w' h' hm o2 => ⟨e, w', hE.trans (PM.bind_err hm), rfl, o2⟩)
      obtain ⟨rfl, hv0_23, hv1_23⟩ := hv
      rw [PM.bind_ok hm] at hE
      have o23 := oq
      simp only [PSt, pick, List.cons_append, List.nil_append, List.getElem?_cons_succ, List.getElem?_cons_zero, List.getElem?_nil] at o23
      clear oq hm
      refine StillVC.run (StillVC.fieldAddr st62 rfl rfl rfl ?_)
      refine StillVC.run (StillVC.fieldAddr st60 rfl rfl rfl ?_)
      (refine RunVC.store o23 4 rfl ty3 rfl (by simp) (And.intro ⟨rfl, rfl⟩ ?_); intro m282 o282)
      (refine RunVC.lit o282 sl42 ty9 rfl rfl (by decide) (And.intro rfl ?_); intro b283 m283 o283)
      refine pneed_call (ss := [[103, 105, 118, 101, 115]]) (by assumption) rfl (by first | exact ⟨2, by decide, rfl⟩ | exact ⟨3, by decide, rfl⟩ | exact ⟨4, by decide, rfl⟩ | exact ⟨5, by decide, rfl⟩ | exact ⟨6, by decide, rfl⟩ | exact ⟨7, by decide, rfl⟩ | exact ⟨8, by decide, rfl⟩ | exact ⟨9, by decide, rfl⟩) hR23 (by omega) (by decide) (fun _ q24 w24 v h24 hm hv hle24 hR24 oq => ?_) (fun e w' h' hm o2 => ⟨e, w', hE.trans (PM.bind_err hm), rfl, o2⟩)
      subst hv
      rw [PM.bind_ok hm] at hE
      have o24 := oq
      simp only [PSt, pick, List.cons_append, List.nil_append, List.getElem?_cons_succ, List.getElem?_cons_zero, List.getElem?_nil] at o24
      clear oq hm
      refine pnumber_spec.callL (by assumption) rfl hR24 (by omega) (fun gv q25 w25 v h25 hm hv hle25 hR25 oq => ?_) (fun e w' h' hm o2 => ⟨e, w', hE.trans (PM.bind_err hm), rfl, o2⟩)
      obtain ⟨rfl, hv0_25, hv1_25⟩ := hv
      rw [PM.bind_ok hm] at hE
      have o25 := oq
      simp only [PSt, pick, List.cons_append, List.nil_append, List.getElem?_cons_succ, List.getElem?_cons_zero, List.getElem?_nil] at o25
      clear oq hm
      refine StillVC.run (StillVC.fieldAddr st62 rfl rfl rfl ?_)
      (refine RunVC.store o25 4 rfl ty3 rfl (by simp) (And.intro ⟨rfl, rfl⟩ ?_); intro m301 o301)
      rw [PM.assoc] at hE
      refine (ptake_spec [116, 97, 107, 101, 115]).callL (by assumption) rfl hR25 (by omega) (fun b q26 w26 v h26 hm hv hle26 hR26 oq => ?_) (fun e w2 h2 hm o2 => absurd hm (takeB_ok _ _ e))
      subst hv
      rw [PM.bind_ok hm] at hE
      have o26 := oq
      simp only [PSt, pick, List.cons_append, List.nil_append, List.getElem?_cons_succ, List.getElem?_cons_zero, List.getElem?_nil] at o26
      clear oq hm
      cases b with
      | true =>
        rw [if_pos rfl] at hE
        refine Br.tt ?_
        refine pnumber_spec.callL (by assumption) rfl hR26 (by omega) (fun tk_ q27 w27 v h27 hm hv hle27 hR27 oq => ?_) (fun e w' h' hm o2 => ⟨e, w', hE.trans (PM.bind_err hm), rfl, o2⟩)
        obtain ⟨rfl, hv0_27, hv1_27⟩ := hv
        rw [PM.bind_ok hm] at hE
        have o27 := oq
        simp only [PSt, pick, List.cons_append, List.nil_append, List.getElem?_cons_succ, List.getElem?_cons_zero, List.getElem?_nil] at o27
        clear oq hm
        refine StillVC.run (StillVC.fieldAddr st62 rfl rfl rfl ?_)
        (refine RunVC.store o27 4 rfl ty3 rfl (by simp) (And.intro ⟨rfl, rfl⟩ ?_); intro m321 o321)
        (refine RunVC.lit o321 sl42 ty9 rfl rfl (by decide) (And.intro rfl ?_); intro b322 m322 o322)
        refine pneed_call (ss := [[59]]) (by assumption) rfl (by first | exact ⟨2, by decide, rfl⟩ | exact ⟨3, by decide, rfl⟩ | exact ⟨4, by decide, rfl⟩ | exact ⟨5, by decide, rfl⟩ | exact ⟨6, by decide, rfl⟩ | exact ⟨7, by decide, rfl⟩ | exact ⟨8, by decide, rfl⟩ | exact ⟨9, by decide, rfl⟩) hR27 (by omega) (by decide) (fun _ q28 w28 v h28 hm hv hle28 hR28 oq => ?_) (fun e w' h' hm o2 => ⟨e, w', hE.trans (PM.bind_err hm), rfl, o2⟩)
        subst hv
        rw [PM.bind_ok hm] at hE
        have o28 := oq
        simp only [PSt, pick, List.cons_append, List.nil_append, List.getElem?_cons_succ, List.getElem?_cons_zero, List.getElem?_nil] at o28
        clear oq hm
        refine StillVC.run (StillVC.loadON o28 4 rfl ty62 rfl rfl rfl ?_)
        (refine RunVC.storeL o28 2 rfl ty62 rfl (by decide) (And.intro ⟨rfl, rfl⟩ ?_); intro m331 o331)
        first | refine RetVC.cell2 rfl o331 2 rfl ty62 rfl rfl ?_ | refine RetVC.cell1 rfl o331 2 rfl ty62 rfl rfl ?_ | refine RetVC.cellTT rfl o331 2 rfl ty62 rfl rfl ?_
        exact ⟨⟨nm, ms, 0, num_, den_, gv, tk_⟩, q28, w28, hE, rfl, by omega, hR28, Own.sel (by assumption) [0, 1] rfl⟩
      | false =>
        rw [if_neg (by decide)] at hE
        refine Br.ff ?_
        (refine RunVC.lit o26 sl42 ty9 rfl rfl (by decide) (And.intro rfl ?_); intro b340 m340 o340)
        rw [PM.pure_bind'] at hE
        refine pneed_call (ss := [[59]]) (by assumption) rfl (by first | exact ⟨2, by decide, rfl⟩ | exact ⟨3, by decide, rfl⟩ | exact ⟨4, by decide, rfl⟩ | exact ⟨5, by decide, rfl⟩ | exact ⟨6, by decide, rfl⟩ | exact ⟨7, by decide, rfl⟩ | exact ⟨8, by decide, rfl⟩ | exact ⟨9, by decide, rfl⟩) hR26 (by omega) (by decide) (fun _ q29 w29 v h29 hm hv hle29 hR29 oq => ?_) (fun e w' h' hm o2 => ⟨e, w', hE.trans (PM.bind_err hm), rfl, o2⟩)
        subst hv
        rw [PM.bind_ok hm] at hE
        have o29 := oq
        simp only [PSt, pick, List.cons_append, List.nil_append, List.getElem?_cons_succ, List.getElem?_cons_zero, List.getElem?_nil] at o29
        clear oq hm
        refine StillVC.run (StillVC.loadON o29 4 rfl ty62 rfl rfl rfl ?_)
        (refine RunVC.storeL o29 2 rfl ty62 rfl (by decide) (And.intro ⟨rfl, rfl⟩ ?_); intro m351 o351)
        first | refine RetVC.cell2 rfl o351 2 rfl ty62 rfl rfl ?_ | refine RetVC.cell1 rfl o351 2 rfl ty62 rfl rfl ?_ | refine RetVC.cellTT rfl o351 2 rfl ty62 rfl rfl ?_
        exact ⟨⟨nm, ms, 0, num_, den_, gv, 0⟩, q29, w29, hE, rfl, by omega, hR29, Own.sel (by assumption) [0, 1] rfl⟩
    | false =>
      rw [if_neg (by decide)] at hE
      refine Br.ff ?_
      (refine RunVC.lit o22 sl42 ty9 rfl rfl (by decide) (And.intro rfl ?_); intro b360 m360 o360)
      rw [PM.pure_bind'] at hE
      refine pneed_call (ss := [[103, 105, 118, 101, 115]]) (by assumption) rfl (by first | exact ⟨2, by decide, rfl⟩ | exact ⟨3, by decide, rfl⟩ | exact ⟨4, by decide, rfl⟩ | exact ⟨5, by decide, rfl⟩ | exact ⟨6, by decide, rfl⟩ | exact ⟨7, by decide, rfl⟩ | exact ⟨8, by decide, rfl⟩ | exact ⟨9, by decide, rfl⟩) hR22 (by omega) (by decide) (fun _ q30 w30 v h30 hm hv hle30 hR30 oq => ?_) (fun e w' h' hm o2 => ⟨e, w', hE.trans (PM.bind_err hm), rfl, o2⟩)
      subst hv
      rw [PM.bind_ok hm] at hE
      have o30 := oq
      simp only [PSt, pick, List.cons_append, List.nil_append, List.getElem?_cons_succ, List.getElem?_cons_zero, List.getElem?_nil] at o30
      clear oq hm
      refine pnumber_spec.callL (by assumption) rfl hR30 (by omega) (fun gv q31 w31 v h31 hm hv hle31 hR31 oq => ?_) (fun e w' h' hm o2 => ⟨e, w', hE.trans (PM.bind_err hm), rfl, o2⟩)
      obtain ⟨rfl, hv0_31, hv1_31⟩ := hv
      rw [PM.bind_ok hm] at hE
      have o31 := oq
      simp only [PSt, pick, List.cons_append, List.nil_append, List.getElem?_cons_succ, List.getElem?_cons_zero, List.getElem?_nil] at o31
      clear oq hm
      refine StillVC.run (StillVC.fieldAddr st62 rfl rfl rfl ?_)
      (refine RunVC.store o31 4 rfl ty3 rfl (by simp) (And.intro ⟨rfl, rfl⟩ ?_); intro m381 o381)
      rw [PM.assoc] at hE
      refine (ptake_spec [116, 97, 107, 101, 115]).callL (by assumption) rfl hR31 (by omega) (fun b q32 w32 v h32 hm hv hle32 hR32 oq => ?_) (fun e w2 h2 hm o2 => absurd hm (takeB_ok _ _ e))
      subst hv
      rw [PM.bind_ok hm] at hE
      have o32 := oq
      simp only [PSt, pick, List.cons_append, List.nil_append, List.getElem?_cons_succ, List.getElem?_cons_zero, List.getElem?_nil] at o32
      clear oq hm
      cases b with
      | true =>
        rw [if_pos rfl] at hE
        refine Br.tt ?_
        refine pnumber_spec.callL (by assumption) rfl hR32 (by omega) (fun tk_ q33 w33 v h33 hm hv hle33 hR33 oq => ?_) (fun e w' h' hm o2 => ⟨e, w', hE.trans (PM.bind_err hm), rfl, o2⟩)
        obtain ⟨rfl, hv0_33, hv1_33⟩ := hv
        rw [PM.bind_ok hm] at hE
        have o33 := oq
        simp only [PSt, pick, List.cons_append, List.nil_append, List.getElem?_cons_succ, List.getElem?_cons_zero, List.getElem?_nil] at o33
        clear oq hm
        refine StillVC.run (StillVC.fieldAddr st62 rfl rfl rfl ?_)
        (refine RunVC.store o33 4 rfl ty3 rfl (by simp) (And.intro ⟨rfl, rfl⟩ ?_); intro m401 o401)
        (refine RunVC.lit o401 sl42 ty9 rfl rfl (by decide) (And.intro rfl ?_); intro b402 m402 o402)
        refine pneed_call (ss := [[59]]) (by assumption) rfl (by first | exact ⟨2, by decide, rfl⟩ | exact ⟨3, by decide, rfl⟩ | exact ⟨4, by decide, rfl⟩ | exact ⟨5, by decide, rfl⟩ | exact ⟨6, by decide, rfl⟩ | exact ⟨7, by decide, rfl⟩ | exact ⟨8, by decide, rfl⟩ | exact ⟨9, by decide, rfl⟩) hR33 (by omega) (by decide) (fun _ q34 w34 v h34 hm hv hle34 hR34 oq => ?_) (fun e w' h' hm o2 => ⟨e, w', hE.trans (PM.bind_err hm), rfl, o2⟩)
        subst hv
        rw [PM.bind_ok hm] at hE
        have o34 := oq
        simp only [PSt, pick, List.cons_append, List.nil_append, List.getElem?_cons_succ, List.getElem?_cons_zero, List.getElem?_nil] at o34
        clear oq hm
        refine StillVC.run (StillVC.loadON o34 4 rfl ty62 rfl rfl rfl ?_)
        (refine RunVC.storeL o34 2 rfl ty62 rfl (by decide) (And.intro ⟨rfl, rfl⟩ ?_); intro m411 o411)
        first | refine RetVC.cell2 rfl o411 2 rfl ty62 rfl rfl ?_ | refine RetVC.cell1 rfl o411 2 rfl ty62 rfl rfl ?_ | refine RetVC.cellTT rfl o411 2 rfl ty62 rfl rfl ?_
        exact ⟨⟨nm, ms, 0, num_, 1, gv, tk_⟩, q34, w34, hE, rfl, by omega, hR34, Own.sel (by assumption) [0, 1] rfl⟩
      | false =>
        rw [if_neg (by decide)] at hE
        refine Br.ff ?_
        (refine RunVC.lit o32 sl42 ty9 rfl rfl (by decide) (And.intro rfl ?_); intro b420 m420 o420)
        rw [PM.pure_bind'] at hE
        refine pneed_call (ss := [[59]]) (by assumption) rfl (by first | exact ⟨2, by decide, rfl⟩ | exact ⟨3, by decide, rfl⟩ | exact ⟨4, by decide, rfl⟩ | exact ⟨5, by decide, rfl⟩ | exact ⟨6, by decide, rfl⟩ | exact ⟨7, by decide, rfl⟩ | exact ⟨8, by decide, rfl⟩ | exact ⟨9, by decide, rfl⟩) hR32 (by omega) (by decide) (fun _ q35 w35 v h35 hm hv hle35 hR35 oq => ?_) (fun e w' h' hm o2 => ⟨e, w', hE.trans (PM.bind_err hm), rfl, o2⟩)
        subst hv
        rw [PM.bind_ok hm] at hE
        have o35 := oq
        simp only [PSt, pick, List.cons_append, List.nil_append, List.getElem?_cons_succ, List.getElem?_cons_zero, List.getElem?_nil] at o35
        clear oq hm
        refine StillVC.run (StillVC.loadON o35 4 rfl ty62 rfl rfl rfl ?_)
        (refine RunVC.storeL o35 2 rfl ty62 rfl (by decide) (And.intro ⟨rfl, rfl⟩ ?_); intro m431 o431)
        first | refine RetVC.cell2 rfl o431 2 rfl ty62 rfl rfl ?_ | refine RetVC.cell1 rfl o431 2 rfl ty62 rfl rfl ?_ | refine RetVC.cellTT rfl o431 2 rfl ty62 rfl rfl ?_
        exact ⟨⟨nm, ms, 0, num_, 1, gv, 0⟩, q35, w35, hE, rfl, by omega, hR35, Own.sel (by assumption) [0, 1] rfl⟩

end Go.Proofs.YtnmfanjhepepbaaGreatDoor

/- Trees in memory: expressions and items. -/
namespace Go.Proofs.YtnmfanjhepepbaaGreatDoor
open Go

abbrev nilV : Value := .slice none 0 0

def exC (kind : Int) (table : List UInt8) (vk vc vn : Value) (attr as_ : List UInt8) (agg : Int) (off : Nat) : List Value :=
  [.int .i64 kind, .string ⟨⟨table⟩⟩, vk, vc, vn, .string ⟨⟨attr⟩⟩, .string ⟨⟨as_⟩⟩, .int .i64 agg, .int .i64 off]

abbrev Cells9 := {c : List Value // c.length = 9}

mutual
/-- The cells of an expression, as long as the item holds. -/
def exR (I : Item) (c : List Value) : Ex → Prop
  | .mk kind table kids conds names attr as_ agg off => ∃ vk vc vn, c = exC kind table vk vc vn attr as_ agg off ∧
      Reads I 14 vc conds.length (conds.flatMap cndC) ∧ Reads I 1 vn names.length (names.flatMap strC) ∧ ∃ xs : List Cells9, Reads I 9 vk kids.length (xs.flatMap Subtype.val) ∧ exsR I xs kids
def exsR (I : Item) : List Cells9 → List Ex → Prop
  | [], [] => True
  | c :: cs, x :: xs => exR I c.1 x ∧ exsR I cs xs
  | _, _ => False
end

theorem Reads.mono {I J : Item} {sz n : Nat} {v : Value} {xs : List Value} (r : Reads I sz v n xs) (hm : ∀ h, J.sat h → I.sat h) : Reads J sz v n xs := fun h s => r h (hm h s)

mutual
theorem exR.mono {I J : Item} (hm : ∀ h, J.sat h → I.sat h) : ∀ (x : Ex) (c : List Value), exR I c x → exR J c x
  | .mk kind table kids conds names attr as_ agg off, c, h => by
    rw [exR] at h ⊢
    obtain ⟨vk, vc, vn, h1, h2, h3, xs, h4, h5⟩ := h
    exact ⟨vk, vc, vn, h1, h2.mono hm, h3.mono hm, xs, h4.mono hm, exsR.mono hm kids xs h5⟩
theorem exsR.mono {I J : Item} (hm : ∀ h, J.sat h → I.sat h) : ∀ (xs : List Ex) (cs : List Cells9), exsR I cs xs → exsR J cs xs
  | [], [], _ => trivial
  | x :: xs, c :: cs, h => by
    rw [exsR] at h ⊢
    exact ⟨exR.mono hm x c.1 h.1, exsR.mono hm xs cs h.2⟩
  | [], _ :: _, h => (by rw [exsR] at h; exact h.elim; all_goals simp)
  | _ :: _, [], h => (by rw [exsR] at h; exact h.elim; all_goals simp)
end

theorem exR_zero (I : Item) : exR I (exC 0 [] nilV nilV nilV [] [] 0 0) ex0 := by
  unfold ex0
  rw [exR]
  exact ⟨_, _, _, rfl, nil_reads, nil_reads, [], nil_reads, trivial⟩

/-- The cells of an item. -/
def itC (x : It) (vc vn vt vf vv vd : Value) (e0 e1 e2 e3 e4 e5 e6 e7 e8 : Value) : List Value :=
  [.int .i64 x.kind, .string ⟨⟨x.name⟩⟩, .int .i64 x.off, .string ⟨⟨x.table⟩⟩, .string ⟨⟨x.attr⟩⟩, vc, vn, .int .i64 x.by_, .int .i64 x.n, .int .i64 x.m, vt, .string ⟨⟨x.other⟩⟩, .string ⟨⟨x.oattr⟩⟩, vf, vv, vd, e0, e1, e2, e3, e4, e5, e6, e7, e8]

def itR (I : Item) (c : List Value) (x : It) : Prop := ∃ vc vn vt vf vv vd e0 e1 e2 e3 e4 e5 e6 e7 e8, c = itC x vc vn vt vf vv vd e0 e1 e2 e3 e4 e5 e6 e7 e8 ∧
  Reads I 5 vc x.cols.length (x.cols.flatMap colC) ∧ Reads I 1 vn x.names.length (x.names.flatMap strC) ∧ Reads I 7 vt x.terms.length (x.terms.flatMap trmC) ∧
  Reads I 4 vf x.fixed.length (x.fixed.flatMap nmdC) ∧ Reads I 2 vv x.vars.length (x.vars.flatMap vrC) ∧ Reads I 14 vd x.conds.length (x.conds.flatMap cndC) ∧ exR I [e0, e1, e2, e3, e4, e5, e6, e7, e8] x.expr

/-- An item whose part is still to be read. -/
def x0 (kd : Int) (nm : List UInt8) (off : Nat) : It := { it0 with kind := kd, name := nm, off := off }

abbrev it0C (kd : Int) (nm : List UInt8) (off : Nat) : List Value :=
  [.int .i64 kd, .string ⟨⟨nm⟩⟩, .int .i64 off, .string ⟨⟨[]⟩⟩, .string ⟨⟨[]⟩⟩, nilV, nilV, .int .i64 0, .int .i64 0, .int .i64 0, nilV, .string ⟨⟨[]⟩⟩, .string ⟨⟨[]⟩⟩, nilV, nilV, nilV, .int .i64 0, .string ⟨⟨[]⟩⟩, nilV, nilV, nilV, .string ⟨⟨[]⟩⟩, .string ⟨⟨[]⟩⟩, .int .i64 0, .int .i64 0]

/-- How a part of an item ends. -/
def PartEnd (B : Base) (bp z : Nat) (tk : Item) (bx : Nat) (n : Nat) (res : Except (Int × Nat) (It × List Tok)) : Ending → Heap → Prop :=
  Ends (fun v h' => ∃ x r w c I, res = .ok (x, r) ∧ v = .tuple ⟨[]⟩ ∧ itR I c x ∧ r.length ≤ n ∧ TokR tk w r ∧ Own B [box bp [w, .int .i64 z] 68, tk, box bx c 51, I] h')
    (fun c h' => ∃ e w, res = .error e ∧ c = failC e ∧ Own B (PSt bp z w tk) h')

theorem Own.empty3 {B : Base} {x y z : Item} {h : Heap} (o : Own B [x, y, z] h) : Own B [x, y, z, emptyI] h := o.emptyI'.sel [1, 2, 3, 0] rfl

end Go.Proofs.YtnmfanjhepepbaaGreatDoor
