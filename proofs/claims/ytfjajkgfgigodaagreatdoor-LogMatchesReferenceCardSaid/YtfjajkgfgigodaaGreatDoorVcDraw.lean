/-
  Regions that draw their order: one order is walked; the operations that only read are taken as soon as they may come up.
-/
import Derived.Test.YtfjajkgfgigodaaGreatDoorVcMem2
namespace Go.Proofs.YtfjajkgfgigodaaGreatDoor
open Go

section
variable {P : Program} {ops : Array Oper} {Q : Exit → Act → World → Prop}

/-- As the kit's wpAny, and behind each operation that fl names the heap has at most grown. -/
def wpE (P : Program) (ops : Array Oper) (Q : Exit → Act → World → Prop) (fl : Nat → Bool) : Nat → Array Bool → Act → World → Prop
  | 0, listed, a, w => Region.ready .any ops listed = [] ∧ Q .normal a w
  | n + 1, listed, a, w =>
    (Region.ready .any ops listed = [] → Q .normal a w) ∧
    ∀ i ∈ Region.ready .any ops listed, wpOp P ops Q i (fun a' w' => (fl i = true → Ext w.heap w'.heap) ∧ wpE P ops Q fl n (listed.setIfInBounds i true) a' w') a w

theorem wpE_any {fl : Nat → Bool} : ∀ (n : Nat) (listed : Array Bool) (a : Act) (w : World), wpE P ops Q fl n listed a w → wpAny P .any ops Q n listed a w
  | 0, _, _, _, h => h
  | n + 1, _, _, _, h => ⟨h.1, fun i hi => wpOp_mono (fun a w h => wpE_any n _ a w h.2) (h.2 i hi)⟩

/-- What a reading operation gives, wherever these cells read as they do. -/
def YieldsR (P : Program) (ops : Array Oper) (o : Oper) (v : Value) (reads : List (Addr × Value)) (a : Act) : Prop :=
  (Region.wanted o (yielded ops a.tmps) = true ∧ ∀ w : World, (∀ r ∈ reads, w.cell? r.1 = some r.2) → (execOp a.eval o).run P w = .ok (.value v) w) ∨
  (Region.wanted o (yielded ops a.tmps) = false ∧ v = undef)

theorem YieldsR.wpOp {i : Nat} {o : Oper} {v : Value} {reads : List (Addr × Value)} {a : Act} (hi : ops[i]? = some o) (hy : YieldsR P ops o v reads a)
    {K : Act → World → Prop} {w : World} (hr : ∀ r ∈ reads, w.cell? r.1 = some r.2) (h : K (a.put o.dst v) w) : wpOp P ops Q i K a w := by
  unfold Go.wpOp
  simp only [hi]
  rcases hy with ⟨hw, hv⟩ | ⟨hw, rfl⟩
  · simp only [hw, if_true, Oper.wp, hv w hr, Oper.upon]; exact .inl h
  · simp only [hw, Bool.false_eq_true, if_false]; exact h

theorem YieldsR.of_same {o : Oper} {v : Value} {reads : List (Addr × Value)} {a a' : Act} (hy : YieldsR P ops o v reads a) (he : execOp a'.eval o = execOp a.eval o)
    (hw : Region.wanted o (yielded ops a'.tmps) = Region.wanted o (yielded ops a.tmps)) : YieldsR P ops o v reads a' := by
  unfold YieldsR at *
  rw [he, hw]
  exact hy

theorem wpOp_putR {j : Nat} {oi oj : Oper} {v : Value} {reads : List (Addr × Value)} (hj : ops[j]? = some oj) (hap : oi.apart ops oj = true)
    (hsi : ∀ cs b, oi.op ≠ .select cs b) (hsj : ∀ cs b, oj.op ≠ .select cs b)
    (hQ : ∀ c a w, Q (.panic c) (a.put oi.dst v) w → Q (.panic c) a w) {K : Act → World → Prop} {a : Act} {w : World}
    (hy : YieldsR P ops oi v reads a) (h : wpOp P ops Q j K (a.put oi.dst v) w) :
    wpOp P ops Q j (fun a' w' => YieldsR P ops oi v reads a' ∧ K (a'.put oi.dst v) w') a w := by
  obtain ⟨h1, h2, h3⟩ := Oper.apart_spec hap
  have keep : ∀ (a : Act), YieldsR P ops oi v reads a → ∀ u, YieldsR P ops oi v reads (a.put oj.dst u) := fun a hy u =>
    hy.of_same (execOp_put oi hsi a oj.dst u h3) (wanted_put oi a oj.dst u h3)
  have keepD : ∀ d, YieldsR P ops oi v reads { a with defers := d :: a.defers } := fun d => hy.of_same rfl rfl
  unfold wpOp at *
  simp only [hj] at *
  rw [wanted_put oj a oi.dst v h1] at h
  split
  · rename_i hw
    simp only [hw, if_true] at h
    rcases h with h | ⟨hasks, hlets⟩
    case inr => exact .inr ⟨by unfold Oper.asks at *; rw [execOp_put oj hsj a oi.dst v h1] at hasks; exact hasks, hlets⟩
    refine .inl ?_
    unfold Oper.wp at *
    rw [execOp_put oj hsj a oi.dst v h1] at h
    generalize (execOp a.eval oj).run P w = r at *
    cases r with
    | ok n w' =>
      cases n <;> simp only [Oper.upon] at h ⊢
      case value u => exact ⟨keep a hy u, by rw [← Act.put_comm a v u h2]; exact h⟩
      case skip => exact ⟨keep a hy _, by rw [← Act.put_comm a v undef h2]; exact h⟩
      case defer d =>
        refine ⟨keep _ (keepD d) _, ?_⟩
        rw [← Act.put_comm _ v undef h2, ← Act.put_defers]
        exact h
      case enter f args =>
        refine Calls.mono h fun e w'' he => ?_
        cases e with
        | returned u => exact ⟨keep a hy u, by rw [← Act.put_comm a v u h2]; exact he⟩
        | panicked c => exact hQ _ _ _ he
        | outgrown => exact he
      case row row args => exact Rows.mono h fun u w'' he => ⟨keep a hy u, by rw [← Act.put_comm a v u h2]; exact he⟩
    | halt x w' =>
      cases x <;> simp only [Oper.upon] at h ⊢
      case panic u => exact hQ _ _ _ h
  · rename_i hw
    simp only [hw] at h
    exact ⟨keep a hy _, by rw [← Act.put_comm a v undef h2]; exact h⟩

def edges (ops : Array Oper) (j : Nat) : List Nat :=
  match ops[j]? with
  | some o => (o.after.toList.filter (Region.binds .any ·)).map (·.on)
  | none => []

def addNew (acc : List Nat) (x : Nat) : List Nat := if acc.contains x then acc else x :: acc

/-- All that must have come up before what stands in the list. -/
def clo (ops : Array Oper) : Nat → List Nat → List Nat
  | 0, S => S
  | n + 1, S => clo ops n (S.foldl (fun acc j => (edges ops j).foldl addNew acc) S)

def Closed (ops : Array Oper) (listed : Array Bool) : Prop := ∀ j, listed.getD j false = true → ∀ e ∈ edges ops j, listed.getD e false = true

theorem addNew_all {p : Nat → Prop} (l acc : List Nat) (ha : ∀ x ∈ acc, p x) (hl : ∀ x ∈ l, p x) : ∀ x ∈ l.foldl addNew acc, p x := by
  induction l generalizing acc with
  | nil => exact ha
  | cons y l ih =>
    refine ih _ ?_ (fun x hx => hl x (by simp [hx]))
    intro x hx
    unfold addNew at hx
    split at hx
    · exact ha x hx
    · rcases List.mem_cons.1 hx with rfl | hx
      · exact hl _ (by simp)
      · exact ha x hx

theorem clo_listed {listed : Array Bool} (hc : Closed ops listed) : ∀ (n : Nat) (S : List Nat), (∀ x ∈ S, listed.getD x false = true) → ∀ x ∈ clo ops n S, listed.getD x false = true
  | 0, _, h => h
  | n + 1, S, h => by
    refine clo_listed hc n _ ?_
    have key : ∀ (l acc : List Nat), (∀ x ∈ l, listed.getD x false = true) → (∀ x ∈ acc, listed.getD x false = true) → ∀ x ∈ l.foldl (fun acc j => (edges ops j).foldl addNew acc) acc, listed.getD x false = true := by
      intro l
      induction l with
      | nil => intro acc _ ha; exact ha
      | cons j l ih => intro acc hl ha; exact ih _ (fun x hx => hl x (by simp [hx])) (addNew_all _ _ ha (hc j (hl j (by simp))))
    exact key S S h h

theorem mem_edges {j e : Nat} (h : e ∈ edges ops j) : ∃ o, ops[j]? = some o ∧ ∃ x ∈ o.after, Region.binds .any x = true ∧ x.on = e := by
  unfold edges at h
  split at h
  · rename_i o ho
    obtain ⟨x, hx, rfl⟩ := List.mem_map.1 h
    obtain ⟨h1, h2⟩ := List.mem_filter.1 hx
    exact ⟨o, ho, x, Array.mem_toList_iff.1 h1, h2, rfl⟩
  · simp at h

theorem ready_edges {listed : Array Bool} {j : Nat} (hj : j ∈ Region.ready .any ops listed) : ∀ e ∈ edges ops j, listed.getD e false = true := by
  intro e he
  obtain ⟨o, ho, x, hx, hb, rfl⟩ := mem_edges he
  obtain ⟨_, o', ho', hall⟩ := mem_ready.1 hj
  rw [ho] at ho'; injection ho' with ho'; subst ho'
  exact hall x hx hb

theorem Closed.set {listed : Array Bool} {j : Nat} (hc : Closed ops listed) (hj : j ∈ Region.ready .any ops listed) : Closed ops (listed.setIfInBounds j true) := by
  intro k hk e he
  by_cases hkj : k = j
  · subst hkj; exact getD_set_true (ready_edges hj e he)
  · rw [getD_set_ne false (Ne.symm hkj)] at hk
    exact getD_set_true (hc k hk e he)

/-- An operation that only reads may be taken first. -/
theorem wpE_first {fl : Nat → Bool} {i : Nat} {oi : Oper} {v : Value} {reads : List (Addr × Value)} (hi : ops[i]? = some oi) (hsel : ∀ (j : Nat) (o : Oper) cs b, ops[j]? = some o → o.op ≠ .select cs b)
    (hQ : ∀ c a w, Q (.panic c) (a.put oi.dst v) w → Q (.panic c) a w)
    (hfl : reads = [] ∨ ∀ j, j ≠ i → fl j = false → i ∈ clo ops ops.size (edges ops j)) :
    ∀ (n : Nat) (listed : Array Bool) (a : Act) (w : World), Closed ops listed →
      (∀ j oj, ops[j]? = some oj → j ≠ i → listed.getD j true = false → (∀ e ∈ oj.after, Region.binds .any e = true → e.on ≠ i) → oi.apart ops oj = true) →
      i ∈ Region.ready .any ops listed → YieldsR P ops oi v reads a → (∀ r ∈ reads, w.cell? r.1 = some r.2) →
      wpE P ops Q fl n (listed.setIfInBounds i true) (a.put oi.dst v) w → wpE P ops Q fl (n + 1) listed a w := by
  intro n
  have first : ∀ (n : Nat) (listed : Array Bool) (a : Act) (w : World), YieldsR P ops oi v reads a → (∀ r ∈ reads, w.cell? r.1 = some r.2) → wpE P ops Q fl n (listed.setIfInBounds i true) (a.put oi.dst v) w →
      wpOp P ops Q i (fun a' w' => (fl i = true → Ext w.heap w'.heap) ∧ wpE P ops Q fl n (listed.setIfInBounds i true) a' w') a w := fun n listed a w hy hr H =>
    hy.wpOp hi hr ⟨fun _ => .refl _, H⟩
  induction n with
  | zero =>
    intro listed a w _ _ hr hy hrd H
    refine ⟨fun h => (by rw [h] at hr; cases hr), fun j hj => ?_⟩
    by_cases hji : j = i
    · subst hji; exact first 0 listed a w hy hrd H
    · have := ready_mono hj hji
      rw [H.1] at this
      cases this
  | succ n ih =>
    intro listed a w hcl hfree hr hy hrd H
    refine ⟨fun h => (by rw [h] at hr; cases hr), fun j hj => ?_⟩
    by_cases hji : j = i
    · subst hji; exact first (n + 1) listed a w hy hrd H
    · have h1 := H.2 j (ready_mono hj hji)
      obtain ⟨hjun, oj, hoj, hall⟩ := mem_ready.1 hj
      have hiun : listed.getD i false = false := by
        have h0 := (mem_ready.1 hr).1
        rcases Nat.lt_or_ge i listed.size with h' | h'
        · simp [h'] at h0 ⊢; exact h0
        · simp [Array.getElem?_eq_none h']
      have hnot : ∀ e ∈ oj.after, Region.binds .any e = true → e.on ≠ i := fun e he hb heq => by
        have h1 := hall e he hb
        rw [heq, hiun] at h1; cases h1
      have hflj : reads = [] ∨ fl j = true := by
        rcases hfl with h | h
        · exact .inl h
        · right
          cases hf : fl j with
          | true => rfl
          | false =>
            have := clo_listed hcl _ _ (ready_edges hj) i (h j hji hf)
            rw [hiun] at this; cases this
      have h2 := wpOp_putR hoj (hfree j oj hoj hji hjun hnot) (fun cs b => hsel i oi cs b hi) (fun cs b => hsel j oj cs b hoj) hQ hy h1
      have hfree' : ∀ k ok, ops[k]? = some ok → k ≠ i → (listed.setIfInBounds j true).getD k true = false →
          (∀ e ∈ ok.after, Region.binds .any e = true → e.on ≠ i) → oi.apart ops ok = true := fun k ok hk hki hun hno => by
        refine hfree k ok hk hki ?_ hno
        by_cases hjk : j = k
        · subst hjk; exact hjun
        · rw [getD_set_ne true hjk] at hun; exact hun
      refine wpOp_mono (fun a' w' h3 => ⟨h3.2.1, ih (listed.setIfInBounds j true) a' w' (hcl.set hj) hfree' (ready_mono hr (Ne.symm hji)) h3.1 ?_ ?_⟩) h2
      · rcases hflj with rfl | hflj
        · simp
        · intro r hr'
          exact (h3.2.1 hflj).cell (hrd r hr')
      · rw [Array.setIfInBounds_comm _ _ hji]
        exact h3.2.2
end

/- THE CONDITION OF A REGION THAT DRAWS -/
def opAt : List Oper → Nat → Option Oper
  | [], _ => none
  | o :: _, 0 => some o
  | _ :: l, n + 1 => opAt l n

theorem opAt_eq (l : List Oper) (n : Nat) : l[n]? = opAt l n := by
  induction l generalizing n with
  | nil => simp [opAt]
  | cons o l ih => cases n with
    | zero => simp [opAt]
    | succ n => simpa [opAt] using ih n

/-- One operation in the walk of a region that draws: pure, reading, or acting. -/
def vdop (P : Program) (st0 stR tails : List Nat) (i : Nat) (op : Op) (ty : TypeId) (D : List Nat) (s : List Value) (h : Heap) (K : KK) (Q : QQ) : Prop :=
  bif mem st0 i then vopS true P op ty D s h K
  else bif mem stR i then vopS false P op ty D s h K
  else bif mem tails i then vop P op ty D s h K Q
  else vop P op ty D s h (fun v l h' => Ext h h' ∧ K v l h') Q

def vostep (P : Program) (L : List Oper) (st0 stR tails : List Nat) (i : Nat) (ih : List Nat → List Value → Heap → QQ → Prop) (D : List Nat) (s : List Value) (h : Heap) (Q : QQ) : Prop :=
    match opAt L i with
    | none => False
    | some ⟨dst, op, ty, _, _, none⟩ =>
      vdop P st0 stR tails i op ty D s h (fun v l h' => ssetO s dst v fun s' => ih (updD D dst l) s' h' Q) Q
    | some ⟨dst, op, ty, _, _, some (j, want)⟩ =>
      match dstOf L j with
      | none => False
      | some g =>
        match mem D g with
        | true =>
          (match sget s g with
          | .bool true =>
            (match want with
            | true => vdop P st0 stR tails i op ty D s h (fun v l h' => ssetO s dst v fun s' => ih (updD D dst l) s' h' Q) Q
            | false => ssetO s dst undef fun s' => ih (updD D dst false) s' h Q)
          | .bool false =>
            (match want with
            | true => ssetO s dst undef fun s' => ih (updD D dst false) s' h Q
            | false => vdop P st0 stR tails i op ty D s h (fun v l h' => ssetO s dst v fun s' => ih (updD D dst l) s' h' Q) Q)
          | _ => ssetO s dst undef fun s' => ih (updD D dst false) s' h Q)
        | false =>
          (match sget s g with
          | .bool t =>
            Br t
              (ssetK s g (.bool true) fun s =>
                match want with
                | true => vdop P st0 stR tails i op ty (g :: D) s h (fun v l h' => ssetO s dst v fun s' => ih (updD (g :: D) dst l) s' h' Q) Q
                | false => ssetO s dst undef fun s' => ih (updD (g :: D) dst false) s' h Q)
              (ssetK s g (.bool false) fun s =>
                match want with
                | true => ssetO s dst undef fun s' => ih (updD (g :: D) dst false) s' h Q
                | false => vdop P st0 stR tails i op ty (g :: D) s h (fun v l h' => ssetO s dst v fun s' => ih (updD (g :: D) dst l) s' h' Q) Q)
          | _ => ssetO s dst undef fun s' => ih (updD D dst false) s' h Q)

def vord (P : Program) (L : List Oper) (st0 stR tails : List Nat) (l : List Nat) : List Nat → List Value → Heap → QQ → Prop :=
  List.rec (motive := fun _ => List Nat → List Value → Heap → QQ → Prop) (fun _ s h Q => Q .normal s h) (fun i _ ih => vostep P L st0 stR tails i ih) l

theorem vord_cons (P : Program) (L : List Oper) (st0 stR tails : List Nat) (i : Nat) (rest D : List Nat) (s : List Value) (h : Heap) (Q : QQ) : vord P L st0 stR tails (i :: rest) D s h Q = vostep P L st0 stR tails i (vord P L st0 stR tails rest) D s h Q := rfl

/-- The check of an order, by computation. -/
def ordOk (ops : Array Oper) (st0 stR : List Nat) : List Nat → Array Bool → Bool
  | [], listed => (Region.ready .any ops listed).isEmpty
  | i :: rest, listed =>
    ((bif mem st0 i || mem stR i then (Region.ready .any ops listed).contains i && Region.free .any ops listed i else (Region.ready .any ops listed) == [i]) &&
      ordOk ops st0 stR rest (listed.setIfInBounds i true))

def tailsOk (ops : Array Oper) (stR tails : List Nat) : Bool :=
  tails.all fun j => stR.all fun i => i == j || (clo ops ops.size (edges ops j)).contains i

def drawOk (ops : Array Oper) (st0 stR tails ord : List Nat) : Bool :=
  Region.noSelect ops && tailsOk ops stR tails && ordOk ops st0 stR ord (Array.replicate ops.size false)

section
variable {P : Program} {ops : Array Oper} {Q : QQ} {w0 : World} {ds : List Deferred} {st0 stR tails : List Nat}

theorem mem_iff (l : List Nat) (n : Nat) : mem l n = true ↔ n ∈ l := by
  induction l with
  | nil => simp [mem]
  | cons x l ih =>
    simp only [mem, List.mem_cons]
    cases hb : Nat.beq x n with
    | true => have := Nat.eq_of_beq_eq_true hb; simp [this]
    | false => have := Nat.ne_of_beq_eq_false hb; simp [ih, Ne.symm this]

theorem lift_hQ (hp : ∀ c s s' h, Q (.panic c) s h → Q (.panic c) s' h) (d : Option Tmp) (v : Value) : ∀ c a w, lift w0 ds Q (.panic c) (Act.put a d v) w → lift w0 ds Q (.panic c) a w := by
  rintro c a w ⟨s, ha, hs, hq⟩
  refine ⟨a.tmps.toList, ?_, hs, hp c _ _ _ hq⟩
  have hd : (a.put d v).defers = ds := by rw [ha]; rfl
  have hd' : a.defers = ds := by cases d <;> exact hd
  cases a; simp only at hd'; subst hd'; simp [act]

theorem step_skip {listed : Array Bool} {i n : Nat} {o : Oper} {s : List Value} {w : World} (hp : ∀ c s s' h, Q (.panic c) s h → Q (.panic c) s' h) (hsel : Region.noSelect ops = true)
    (hi : ops[i]? = some o) (hw : Region.wanted o (yielded ops (act s ds).tmps) = false) (hcl : Closed ops listed)
    (hok : (bif mem st0 i || mem stR i then (Region.ready .any ops listed).contains i && Region.free .any ops listed i else (Region.ready .any ops listed) == [i]) = true)
    (ih : wpE P ops (lift w0 ds Q) (fun j => !mem tails j) n (listed.setIfInBounds i true) ((act s ds).put o.dst undef) w) :
    wpE P ops (lift w0 ds Q) (fun j => !mem tails j) (n + 1) listed (act s ds) w := by
  cases hc : (mem st0 i || mem stR i) with
  | true =>
    rw [hc] at hok
    simp only [cond_true, Bool.and_eq_true] at hok
    exact wpE_first hi (Region.noSelect_spec hsel) (lift_hQ hp _ _) (.inl rfl) n listed _ w hcl (Region.free_spec hi hok.2) (by simpa using hok.1) (.inr ⟨hw, rfl⟩) (by simp) ih
  | false =>
    rw [hc] at hok
    simp only [cond_false, beq_iff_eq] at hok
    refine ⟨fun h => (by rw [h] at hok; cases hok), fun j hj => ?_⟩
    rw [hok] at hj
    simp only [List.mem_singleton] at hj; subst hj
    unfold wpOp
    simp only [hi, hw, Bool.false_eq_true, if_false]
    exact ⟨fun _ => .refl _, ih⟩

theorem step_run {listed : Array Bool} {i n : Nat} {dst : Option Tmp} {op : Op} {ty : TypeId} {pos : String} {after : Array Edge} {guard : Option (Nat × Bool)} {D : List Nat} {s : List Value} {w : World} {K : KK}
    (hp : ∀ c s s' h, Q (.panic c) s h → Q (.panic c) s' h) (hsel : Region.noSelect ops = true) (htails : tailsOk ops stR tails = true)
    (hi : ops[i]? = some ⟨dst, op, ty, pos, after, guard⟩) (hw : Region.wanted ⟨dst, op, ty, pos, after, guard⟩ (yielded ops (act s ds).tmps) = true) (hcl : Closed ops listed) (hs : Same w0 w)
    (hok : (bif mem st0 i || mem stR i then (Region.ready .any ops listed).contains i && Region.free .any ops listed i else (Region.ready .any ops listed) == [i]) = true)
    (hv : vdop P st0 stR tails i op ty D s w.heap K Q)
    (ih : ∀ v l w', Same w0 w' → K v l w'.heap → wpE P ops (lift w0 ds Q) (fun j => !mem tails j) n (listed.setIfInBounds i true) ((act s ds).put dst v) w') :
    wpE P ops (lift w0 ds Q) (fun j => !mem tails j) (n + 1) listed (act s ds) w := by
  have still : ∀ pr : Bool, (mem st0 i || mem stR i) = true → (pr = true ∨ mem stR i = true) → vopS pr P op ty D s w.heap K → wpE P ops (lift w0 ds Q) (fun j => !mem tails j) (n + 1) listed (act s ds) w := by
    intro pr hc hpr hv
    rw [hc] at hok
    simp only [cond_true, Bool.and_eq_true] at hok
    obtain ⟨v, l, reads, hre, hr, hrun, hk⟩ := (vopS_sound hv).ex
    refine wpE_first (oi := ⟨dst, op, ty, pos, after, guard⟩) (v := v) (reads := reads) hi (Region.noSelect_spec hsel) (lift_hQ hp _ _) ?_ n listed _ w hcl (Region.free_spec hi hok.2) (by simpa using hok.1) (.inl ⟨hw, fun w hw' => ?_⟩) (fun r hm => hr r hm) (ih v l w hs hk)
    · rcases hpr with rfl | hm
      · exact .inl (hre rfl)
      · right
        intro j hne hf
        have hjt : j ∈ tails := by rw [← mem_iff]; simpa using hf
        have := List.all_eq_true.1 (List.all_eq_true.1 htails j hjt) i ((mem_iff _ _).1 hm)
        simp only [Bool.or_eq_true, beq_iff_eq] at this
        rcases this with h | h
        · exact absurd h.symm hne
        · simpa using h
    · rw [act_eval, execOp_head]; exact hrun w hw'
  unfold vdop at hv
  cases h0 : mem st0 i with
  | true => rw [h0] at hv; exact still true (by simp [h0]) (.inl rfl) hv
  | false =>
    rw [h0] at hv
    simp only [cond_false] at hv
    cases hR : mem stR i with
    | true => rw [hR] at hv; exact still false (by simp [hR]) (.inr hR) hv
    | false =>
      rw [hR] at hv
      simp only [cond_false] at hv
      rw [h0, hR] at hok
      simp only [Bool.or_false, cond_false, beq_iff_eq] at hok
      have fin : ∀ K' : KK, (∀ v l h', K' v l h' → (mem tails i = false → Ext w.heap h') ∧ K v l h') → vop P op ty D s w.heap K' Q → wpE P ops (lift w0 ds Q) (fun j => !mem tails j) (n + 1) listed (act s ds) w := by
        intro K' hK' hv'
        refine ⟨fun h => (by rw [h] at hok; cases hok), fun j hj => ?_⟩
        rw [hok] at hj
        simp only [List.mem_singleton] at hj; subst hj
        unfold wpOp
        simp only [hi, hw, if_true]
        exact .inl ((vop_sound hv').run w rfl ds dst pos after guard _ _
          (fun v l w' hw' hk => ⟨fun hf => (hK' v l _ hk).1 (by simpa using hf), ih v l w' (hs.trans hw') (hK' v l _ hk).2⟩)
          (fun c w' hw' hq => ⟨s, rfl, hs.trans hw', hq⟩))
      cases ht : mem tails i with
      | true => rw [ht] at hv; exact fin K (fun v l h' hk => ⟨fun h => (by rw [ht] at h; cases h), hk⟩) hv
      | false => rw [ht] at hv; exact fin _ (fun v l h' hk => ⟨fun _ => hk.1, hk.2⟩) hv

theorem vord_sound (hp : ∀ c s s' h, Q (.panic c) s h → Q (.panic c) s' h) (hsel : Region.noSelect ops = true) (htails : tailsOk ops stR tails = true) :
    ∀ (ord : List Nat) (D : List Nat) (s : List Value) (w : World) (listed : Array Bool), Same w0 w → Closed ops listed → ordOk ops st0 stR ord listed = true → vord P ops.toList st0 stR tails ord D s w.heap Q →
      wpE P ops (lift w0 ds Q) (fun j => !mem tails j) ord.length listed (act s ds) w
  | [], D, s, w, listed, hs, _, hok, hv => ⟨by simpa [ordOk] using hok, s, rfl, hs, hv⟩
  | i :: rest, D, s, w, listed, hs, hcl, hok, hv => by
    simp only [ordOk, Bool.and_eq_true] at hok
    obtain ⟨hok, hrest⟩ := hok
    have hready : i ∈ Region.ready .any ops listed := by
      cases hc : (mem st0 i || mem stR i) with
      | true => rw [hc] at hok; simp only [cond_true, Bool.and_eq_true] at hok; simpa using hok.1
      | false => rw [hc] at hok; simp only [cond_false, beq_iff_eq] at hok; rw [hok]; simp
    have hcl' := hcl.set hready
    have goOn : ∀ D s (w : World), Same w0 w → vord P ops.toList st0 stR tails rest D s w.heap Q → wpE P ops (lift w0 ds Q) (fun j => !mem tails j) rest.length (listed.setIfInBounds i true) (act s ds) w :=
      fun D s w hs hv => vord_sound hp hsel htails rest D s w _ hs hcl' hrest hv
    simp only [vord_cons, vostep] at hv
    cases ho : opAt ops.toList i with
    | none => simp [ho] at hv
    | some o =>
      have hi : ops[i]? = some o := by rw [← ho, ← opAt_eq]; simp
      obtain ⟨dst, op, ty, pos, after, guard⟩ := o
      have run : ∀ D D' s, Region.wanted ⟨dst, op, ty, pos, after, guard⟩ (yielded ops (act s ds).tmps) = true →
          vdop P st0 stR tails i op ty D s w.heap (fun v l h' => ssetO s dst v fun s' => vord P ops.toList st0 stR tails rest (updD D' dst l) s' h' Q) Q →
          wpE P ops (lift w0 ds Q) (fun j => !mem tails j) (rest.length + 1) listed (act s ds) w := fun D D' s hw hv =>
        step_run hp hsel htails hi hw hcl hs hok hv fun v l w' hs' hk => by rw [act_sput]; rw [ssetO_eq] at hk; exact goOn _ _ _ hs' hk
      have skip : ∀ D s, Region.wanted ⟨dst, op, ty, pos, after, guard⟩ (yielded ops (act s ds).tmps) = false →
          (ssetO s dst undef fun s' => vord P ops.toList st0 stR tails rest D s' w.heap Q) →
          wpE P ops (lift w0 ds Q) (fun j => !mem tails j) (rest.length + 1) listed (act s ds) w := fun D s hw hk =>
        step_skip hp hsel hi hw hcl hok (by rw [act_sput]; rw [ssetO_eq] at hk; exact goOn _ _ _ hs hk)
      cases guard with
      | none => simp only [ho] at hv; exact run _ _ _ (by simp [Region.wanted]) hv
      | some gw =>
        obtain ⟨j, want⟩ := gw
        simp only [ho] at hv
        cases hd : dstOf ops.toList j with
        | none => simp [hd] at hv
        | some g =>
          simp only [hd] at hv
          cases hm : mem D g with
          | true =>
            simp only [hm] at hv
            split at hv
            · rename_i hg
              have hy := yielded_of (ds := ds) hd hg
              cases want with
              | true => exact run _ _ _ (by simp [Region.wanted, hy]) hv
              | false => exact skip _ _ (by simp [Region.wanted, hy]) hv
            · rename_i hg
              have hy := yielded_of (ds := ds) hd hg
              cases want with
              | false => exact run _ _ _ (by simp [Region.wanted, hy]) hv
              | true => exact skip _ _ (by simp [Region.wanted, hy]) hv
            · rename_i h1 h2
              have hy := yielded_none (ds := ds) (s := s) hd (fun t e => match t, e with | true, e => h1 e | false, e => h2 e)
              exact skip _ _ (by simp [Region.wanted, hy]) hv
          | false =>
            simp only [hm] at hv
            split at hv
            · rename_i t hg
              have hy := yielded_of (ds := ds) hd hg
              cases t with
              | true =>
                have hv := hv.y rfl
                rw [ssetK_eq, sset_same s g _ hg] at hv
                cases want with
                | true => exact run _ _ _ (by simp [Region.wanted, hy]) hv
                | false => exact skip _ _ (by simp [Region.wanted, hy]) hv
              | false =>
                have hv := hv.n rfl
                rw [ssetK_eq, sset_same s g _ hg] at hv
                cases want with
                | false => exact run _ _ _ (by simp [Region.wanted, hy]) hv
                | true => exact skip _ _ (by simp [Region.wanted, hy]) hv
            · rename_i h1
              have hy := yielded_none (ds := ds) (s := s) hd (fun t e => h1 t e)
              exact skip _ _ (by simp [Region.wanted, hy]) hv

/-- A region that draws: the pure operations, the reading ones, those behind which the heap need not have grown only, and the order of the walk. -/
theorem DrawVC.intro {id : Nat} {s : List Value} {h : Heap} (st0 stR tails ord : List Nat) (hm : P.follows .mixedOrders = true) (hok : drawOk ops st0 stR tails ord = true) (hlen : ord.length = ops.size)
    (hp : ∀ c s s' h, Q (.panic c) s h → Q (.panic c) s' h) (hv : vord P ops.toList st0 stR tails ord [] s h Q) : DrawVC P id ops s h Q where
  wp w0 w ds hw hs := by
    subst hw
    simp only [drawOk, Bool.and_eq_true] at hok
    refine wp_region_any hm (wpE_any (fl := fun j => !mem tails j) _ _ _ _ ?_)
    have hcl : Closed ops (Array.replicate ops.size false) := by
      intro j hj
      exfalso
      by_cases hlt : j < ops.size <;> simp [hlt] at hj
    have := vord_sound (P := P) (w0 := w0) (ds := ds) hp hok.1.1 hok.1.2 ord [] s { w with drawn := w.drawn + 1 } _ (hs.trans ⟨rfl, rfl, rfl, by simp⟩) hcl hok.2 hv
    rw [hlen] at this
    exact this

end
end Go.Proofs.YtfjajkgfgigodaaGreatDoor
