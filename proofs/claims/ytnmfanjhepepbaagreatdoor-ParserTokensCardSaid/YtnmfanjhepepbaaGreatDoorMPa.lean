/-
  Program texts, plainly: the trees, and what the parser makes of tokens. The parser's reading of tokens: how its functions end, and those that read one token. The parser's reading of tokens: names and symbols that are taken, needed, or chosen from. The parser's choice of one of some words. The parser's lists with separators.
-/
import Derived.Test.YtnmfanjhepepbaaGreatDoorStructs
import Derived.Test.YtnmfanjhepepbaaGreatDoorMLex
set_option linter.all false
/- Program texts, plainly: the trees, and what the parser makes of tokens. -/
namespace Go.Proofs.YtnmfanjhepepbaaGreatDoor
open Go

/- TREES -/
structure Vl where
  k : Int
  n : Int
  t : List UInt8

structure Opd where
  var : List UInt8
  attr : List UInt8
  con : Bool
  val : Vl

structure Cnd where
  left : Opd
  op : Int
  right : Opd
  add : Int

structure Col where
  name : List UInt8
  kind : Int
  dflt : Vl

structure Trm where
  attr : List UInt8
  measure : Int
  tol : Int
  num : Int
  den : Int
  gives : Int
  takes : Int

structure Nmd where
  name : List UInt8
  val : Vl

structure Vr where
  name : List UInt8
  table : List UInt8

inductive Ex where
  | mk (kind : Int) (table : List UInt8) (kids : List Ex) (conds : List Cnd) (names : List (List UInt8)) (attr : List UInt8) (as_ : List UInt8) (agg : Int) (off : Nat)

structure It where
  kind : Int
  name : List UInt8
  off : Nat
  table : List UInt8
  attr : List UInt8
  cols : List Col
  names : List (List UInt8)
  by_ : Int
  n : Int
  m : Int
  terms : List Trm
  other : List UInt8
  oattr : List UInt8
  fixed : List Nmd
  vars : List Vr
  conds : List Cnd
  expr : Ex

def vl0 : Vl := ⟨0, 0, []⟩
def ex0 : Ex := .mk 0 [] [] [] [] [] [] 0 0
def it0 : It := ⟨0, [], 0, [], [], [], [], 0, 0, 0, [], [], [], [], [], [], ex0⟩

/- READING -/
def PM (α : Type) := List Tok → Except (Int × Nat) (α × List Tok)

instance : Monad PM where
  pure a := fun ts => .ok (a, ts)
  bind m f := fun ts => match m ts with
    | .error e => .error e
    | .ok (a, r) => f a r

/-- Something that is read only on a condition. -/
def ifP {α : Type} (c : Bool) (m : PM α) (d : α) : PM α := if c = true then m else pure d

theorem ifP_yes {α : Type} {c : Bool} {m : PM α} {d : α} (h : c = true) : ifP c m d = m := if_pos h
theorem ifP_no {α : Type} {c : Bool} {m : PM α} {d : α} (h : c = false) : ifP c m d = pure d := if_neg (by rw [h]; decide)

section
variable (z : Nat)

def stopE (e : Int) (ts : List Tok) : Int × Nat := match ts with
  | [] => (7, z)
  | t :: _ => (e, t.off)

def failP {α : Type} (e : Int) : PM α := fun ts => .error (stopE z e ts)

def wordB (t : Tok) (s : List UInt8) : Bool := decide (t.text = s ∧ (t.kind = 1 ∨ t.kind = 4))

/-- The next tokens are these names or symbols. -/
def seesB : List (List UInt8) → List Tok → Bool
  | [], _ => true
  | _ :: _, [] => false
  | s :: ss, t :: ts => wordB t s && seesB ss ts

def takeB (s : List UInt8) : PM Bool := fun ts => if seesB [s] ts then .ok (true, ts.tail) else .ok (false, ts)

def need1 (s : List UInt8) : PM Unit := do
  if ← takeB s then pure () else failP z 4

def needP : List (List UInt8) → PM Unit
  | [] => pure ()
  | s :: r => do
    need1 z s
    needP r

def kindP (k : Int) : PM Tok := fun ts => match ts with
  | [] => .error (7, z)
  | t :: r => if t.kind = k then .ok (t, r) else .error (4, t.off)

def nameP : PM (List UInt8) := do
  let t ← kindP z 1
  pure t.text

def numP : PM Int := do
  let t ← kindP z 2
  pure t.num

/-- One of some words: its place. -/
def wordP : List (List UInt8) → Int → PM Int
  | [], _ => failP z 4
  | s :: r, i => do
    if ← takeB s then pure i else wordP r (i + 1)

/-- Things with a separator: those that are there already, and the others. -/
def listA {α : Type} (sep : List UInt8) (one : PM α) : Nat → List α → PM (List α)
  | 0, acc => pure acc
  | f + 1, acc => do
    if ← takeB sep then
      let a ← one
      listA sep one f (acc ++ [a])
    else pure acc

def listP {α : Type} (sep : List UInt8) (one : PM α) : PM (List α) := do
  let a ← one
  fun ts => listA sep one (ts.length + 1) [a] ts

def namesP : PM (List (List UInt8)) := listP [44] (nameP z)

/-- A value that begins with a symbol or a word. -/
def litE : PM (Option Vl) := do
  if ← takeB [45] then
    let n ← numP z
    pure (some ⟨2, -n, []⟩)
  else if ← takeB [64] then
    let n ← numP z
    pure (some ⟨3, n, []⟩)
  else if ← takeB [116, 114, 117, 101] then pure (some ⟨4, 1, []⟩)
  else if ← takeB [102, 97, 108, 115, 101] then pure (some ⟨4, 0, []⟩)
  else if ← takeB [110, 117, 108, 108] then pure (some vl0)
  else pure none

/-- Names, unless this comes next. -/
def namesU (s : List UInt8) : PM (List (List UInt8)) := fun ts => if seesB [s] ts = true then .ok ([], ts) else namesP z ts

def literalP : PM (Option Vl) := fun ts => match ts with
  | [] => .ok (none, [])
  | t :: r =>
    if t.kind = 3 then .ok (some ⟨1, 0, t.text⟩, r)
    else if t.kind = 2 then .ok (some ⟨2, t.num, []⟩, r)
    else litE z (t :: r)

def valueP : PM Vl := do
  match ← literalP z with
  | some v => pure v
  | none => failP z 4

def sideP : PM Opd := do
  match ← literalP z with
  | some v => pure ⟨[], [], true, v⟩
  | none =>
    let first ← nameP z
    if ← takeB [46] then
      let a ← nameP z
      pure ⟨first, a, false, vl0⟩
    else pure ⟨[], first, false, vl0⟩

def condP : PM Cnd := do
  let l ← sideP z
  let op ← wordP z [[61], [33, 61], [60], [60, 61]] 1
  let r ← sideP z
  if ← takeB [43] then
    let n ← numP z
    pure ⟨l, op, r, n⟩
  else if ← takeB [45] then
    let n ← numP z
    pure ⟨l, op, r, -n⟩
  else pure ⟨l, op, r, 0⟩

def condsP : PM (List Cnd) := do
  needP z [[119, 104, 101, 114, 101]]
  listP [97, 110, 100] (condP z)

/-- The operations: their names. -/
def opNames : List (List UInt8) := [[115, 101, 108, 101, 99, 116], [112, 114, 111, 106, 101, 99, 116], [106, 111, 105, 110], [117, 110, 105, 111, 110], [109, 105, 110, 117, 115], [114, 101, 110, 97, 109, 101], [103, 114, 111, 117, 112]]

def opIdx (ts : List Tok) : Option Nat := (List.range 7).find? fun i => seesB [opNames.getD i [], [40]] ts

def exTable (off : Nat) (t : List UInt8) : Ex := .mk 1 t [] [] [] [] [] 0 off

/-- What follows the kids of an operation. -/
def opRest (i : Nat) (off : Nat) (kids : List Ex) : PM Ex :=
  match i with
  | 0 => do
    let c ← condsP z
    pure (.mk 2 [] kids c [] [] [] 0 off)
  | 1 => do
    needP z [[111, 110]]
    let l ← namesU z [41]
    pure (.mk 3 [] kids [] l [] [] 0 off)
  | 5 => do
    needP z [[44]]
    let a ← nameP z
    needP z [[97, 115]]
    let b ← nameP z
    pure (.mk 7 [] kids [] [] a b 0 off)
  | 6 => do
    needP z [[111, 110]]
    let l ← namesU z [119, 105, 116, 104]
    needP z [[119, 105, 116, 104]]
    let g ← wordP z [[99, 111, 117, 110, 116], [115, 117, 109], [108, 101, 97, 115, 116], [103, 114, 101, 97, 116, 101, 115, 116]] 1
    let a ← ifP (g != 1) (nameP z) []
    needP z [[97, 115]]
    let b ← nameP z
    pure (.mk 8 [] kids [] l a b g off)
  | i => pure (.mk (2 + i) [] kids [] [] [] [] 0 off)

def twoB (i : Nat) : Bool := i == 2 || i == 3 || i == 4

def headOff : List Tok → Nat
  | [] => 0
  | t :: _ => t.off

def exprP : Nat → PM Ex
  | 0 => failP z 3
  | n + 1 => fun ts => match opIdx ts with
    | none => (do
      let t ← nameP z
      pure (exTable (headOff ts) t) : PM Ex) ts
    | some i => (do
      needP z [opNames.getD i [], [40]]
      let a ← exprP n
      let kids ← ifP (twoB i) (do
        needP z [[44]]
        let b ← exprP n
        pure [a, b]) [a]
      let x ← opRest z i (headOff ts) kids
      needP z [[41]]
      pure x : PM Ex) ts

def columnP : PM Col := do
  let a ← nameP z
  let k ← wordP z [[116, 101, 120, 116], [110, 117, 109, 98, 101, 114], [100, 97, 121], [102, 108, 97, 103]] 1
  if ← takeB [61] then
    let v ← valueP z
    pure ⟨a, k, v⟩
  else pure ⟨a, k, vl0⟩

def termP : PM Trm := do
  let a ← nameP z
  let m ← wordP z [[101, 113, 117, 97, 108], [101, 100, 105, 116], [106, 97, 99, 99, 97, 114, 100], [106, 97, 114, 111], [110, 101, 97, 114]] 1
  let tol ← ifP (m == 5) (numP z) 0
  needP z [[108, 101, 97, 115, 116]]
  let num ← numP z
  let den ← (do if ← takeB [47] then numP z else pure 1 : PM Int)
  needP z [[103, 105, 118, 101, 115]]
  let g ← numP z
  let tk ← (do if ← takeB [116, 97, 107, 101, 115] then numP z else pure 0 : PM Int)
  needP z [[59]]
  pure ⟨a, m, tol, num, den, g, tk⟩

def placeP : PM (List UInt8 × List UInt8) := do
  let t ← nameP z
  needP z [[46]]
  let a ← nameP z
  pure (t, a)

def fixedP : PM Nmd := do
  let n ← nameP z
  needP z [[61]]
  let v ← valueP z
  pure ⟨n, v⟩

def varP : PM Vr := do
  let t ← nameP z
  let n ← nameP z
  pure ⟨n, t⟩

def tableP (x : It) : PM It := do
  needP z [[40]]
  let c ← listP [44] (columnP z)
  needP z [[41], [107, 101, 121]]
  let l ← namesP z
  pure { x with cols := c, names := l }

def sourceP (x : It) : PM It := do
  needP z [[116, 114, 117, 115, 116]]
  let n ← numP z
  pure { x with n := n }

def blockP (x : It) : PM It := do
  needP z [[111, 110]]
  let p ← placeP z
  needP z [[98, 121]]
  let b ← wordP z [[101, 120, 97, 99, 116], [116, 111, 107, 101, 110], [112, 114, 101, 102, 105, 120], [115, 107, 101, 116, 99, 104]] 1
  if b = 3 then
    let n ← numP z
    pure { x with table := p.1, attr := p.2, by_ := b, n := n }
  else if b = 4 then
    let n ← numP z
    let m ← numP z
    pure { x with table := p.1, attr := p.2, by_ := b, n := n, m := m }
  else pure { x with table := p.1, attr := p.2, by_ := b }

/-- Terms up to a brace: those that are there already, and the others. -/
def termsA : Nat → List Trm → PM (List Trm)
  | 0, acc => pure acc
  | f + 1, acc => fun ts => (if seesB [[125]] ts then pure acc else do
    let a ← termP z
    termsA f (acc ++ [a]) : PM (List Trm)) ts

def matchP (x : It) : PM It := do
  needP z [[111, 110]]
  let t ← nameP z
  needP z [[97, 116]]
  let n ← numP z
  needP z [[123]]
  let l ← (fun ts => termsA z (ts.length + 1) [] ts)
  pure { x with table := t, n := n, terms := l }

def keepP (x : It) : PM It := do
  let p ← placeP z
  needP z [[98, 121]]
  let b ← wordP z [[108, 97, 116, 101, 115, 116], [109, 111, 115, 116], [116, 114, 117, 115, 116, 101, 100], [108, 111, 110, 103, 101, 115, 116], [108, 101, 97, 115, 116], [103, 114, 101, 97, 116, 101, 115, 116]] 1
  pure { x with table := p.1, attr := p.2, by_ := b }

def uniqueP (x : It) : PM It := do
  needP z [[111, 110]]
  let t ← nameP z
  needP z [[40]]
  let l ← namesP z
  needP z [[41]]
  pure { x with table := t, names := l }

def dependP (x : It) : PM It := do
  let y ← uniqueP z x
  needP z [[116, 111]]
  let a ← nameP z
  if ← takeB [119, 104, 101, 114, 101] then
    let f ← listP [44] (fixedP z)
    pure { y with attr := a, fixed := f }
  else pure { y with attr := a }

def includeP (x : It) : PM It := do
  let p ← placeP z
  needP z [[105, 110]]
  let q ← placeP z
  pure { x with table := p.1, attr := p.2, other := q.1, oattr := q.2 }

def denyP (x : It) : PM It := do
  let v ← listP [44] (varP z)
  let c ← condsP z
  pure { x with vars := v, conds := c }

def queryP (x : It) : PM It := do
  needP z [[61]]
  let e ← exprP z 12
  pure { x with expr := e }

/-- The key words of items. -/
def itWords : List (List UInt8) := [[116, 97, 98, 108, 101], [115, 111, 117, 114, 99, 101], [98, 108, 111, 99, 107], [109, 97, 116, 99, 104], [107, 101, 101, 112], [117, 110, 105, 113, 117, 101], [100, 101, 112, 101, 110, 100], [105, 110, 99, 108, 117, 100, 101], [100, 101, 110, 121], [113, 117, 101, 114, 121]]

def partP (k : Int) (x : It) : PM It :=
  if k = 1 then tableP z x else if k = 2 then sourceP z x else if k = 3 then blockP z x else if k = 4 then matchP z x else if k = 5 then keepP z x
  else if k = 6 then uniqueP z x else if k = 7 then dependP z x else if k = 8 then includeP z x else if k = 9 then denyP z x else queryP z x

def itemP : PM It := fun ts => (do
  let k ← wordP z itWords 1
  let nm ← ifP (k != 5) (nameP z) []
  let x ← partP z k { it0 with kind := k, name := nm, off := headOff ts }
  if k = 4 then needP z [[125]] else needP z [[59]]
  pure x : PM It) ts

/-- Items: those that are there already, and the others. -/
def itemsA : Nat → List It → List Tok → Except (Int × Nat) (List It)
  | 0, acc, _ => .ok acc
  | f + 1, acc, ts => match ts with
    | [] => .ok acc
    | t :: r => if acc.length = 200 then .error (3, t.off) else match itemP z (t :: r) with
      | .error e => .error e
      | .ok (x, q) => itemsA f (acc ++ [x]) q

end

/-- What Parse makes of a text of at most 20000 bytes. -/
def parseM (s : List UInt8) : Except (Int × Nat) (List It) := match lexM s with
  | .error e => .error e
  | .ok ts => itemsA s.length (ts.length + 1) [] ts

/- LAWS OF READING -/
theorem PM.bind_ok {α β : Type} {m : PM α} {f : α → PM β} {ts r : List Tok} {a : α} (h : m ts = .ok (a, r)) : (m >>= f) ts = f a r := by
  show (match m ts with | Except.error e => Except.error e | Except.ok (a, r) => f a r) = _
  rw [h]

theorem PM.bind_err {α β : Type} {m : PM α} {f : α → PM β} {ts : List Tok} {e : Int × Nat} (h : m ts = .error e) : (m >>= f) ts = .error e := by
  show (match m ts with | Except.error e => Except.error e | Except.ok (a, r) => f a r) = _
  rw [h]

theorem PM.pure_eq {α : Type} (a : α) (ts : List Tok) : (pure a : PM α) ts = .ok (a, ts) := rfl

theorem namesU_yes {z : Nat} {s : List UInt8} {ts : List Tok} (h : seesB [s] ts = true) : namesU z s ts = .ok ([], ts) := if_pos h
theorem namesU_no {z : Nat} {s : List UInt8} {ts : List Tok} (h : seesB [s] ts = false) : namesU z s ts = namesP z ts := if_neg (by rw [h]; decide)

theorem takeB_yes {s : List UInt8} {ts : List Tok} (h : seesB [s] ts = true) : takeB s ts = .ok (true, ts.tail) := by unfold takeB; rw [if_pos h]
theorem takeB_no {s : List UInt8} {ts : List Tok} (h : seesB [s] ts = false) : takeB s ts = .ok (false, ts) := by unfold takeB; rw [h]; rfl

end Go.Proofs.YtnmfanjhepepbaaGreatDoor

/- The parser's reading of tokens: how its functions end, and those that read one token. -/
namespace Go.Proofs.YtnmfanjhepepbaaGreatDoor
open Go

/-- The panic by which an error ends the parsing. -/
def failC (e : Int × Nat) : List PanicEntry := [{ v := .iface 64 (.agg ⟨[.int .i64 e.1, .int .i64 e.2]⟩), recovered := false }]

/-- The parser's state, and the tokens that it reads. -/
abbrev PSt (bp z : Nat) (w : Value) (tk : Item) : List Item := [box bp [w, .int .i64 z] 68, tk]

/-- The tokens' numbers are within the lexer's limits. -/
def TokOK (ts : List Tok) : Prop := ∀ t ∈ ts, 0 ≤ t.num ∧ t.num ≤ 10000000000

def TokR (tk : Item) (w : Value) (ts : List Tok) : Prop := Reads tk 4 w ts.length (ts.flatMap tokC) ∧ TokOK ts

/-- How a function of the parser ends. -/
def PEnd {α : Type} (B : Base) (bp z : Nat) (tk : Item) (n : Nat) (res : Except (Int × Nat) (α × List Tok)) (V : α → Value → Prop) : Ending → Heap → Prop :=
  Ends (fun v h' => ∃ a r w, res = .ok (a, r) ∧ V a v ∧ r.length ≤ n ∧ TokR tk w r ∧ Own B (PSt bp z w tk) h')
    (fun c h' => ∃ e w, res = .error e ∧ c = failC e ∧ Own B (PSt bp z w tk) h')

/-- What a function of the parser does, by the plain reading. -/
def PSpec {α : Type} (g : FuncId) (args : Nat → List Value) (m : Nat → PM α) (V : α → Value → Prop) : Prop :=
  ∀ (B : Base) (bp z : Nat) (tk : Item) (w : Value) (ts : List Tok) (h : Heap), Own B (PSt bp z w tk) h → TokR tk w ts → ts.length ≤ 5000 → Spec Tryz.prog g (args bp) h (PEnd B bp z tk ts.length (m z ts) V)

theorem PSpec.call {α : Type} {g : FuncId} {args : Nat → List Value} {m : Nat → PM α} {V : α → Value → Prop} (sp : PSpec g args m V) {s : List Value} {h : Heap} {K : KK} {Q : QQ} {B : Base} {bp z : Nat} {tk : Item} {w : Value} {ts : List Tok}
    (o : Own B (PSt bp z w tk) h) (hR : TokR tk w ts) (hl : ts.length ≤ 5000)
    (hret : ∀ a r w' v h', m z ts = .ok (a, r) → V a v → r.length ≤ ts.length → TokR tk w' r → Own B (PSt bp z w' tk) h' → K v false h')
    (hpan : ∀ e w' h', m z ts = .error e → Own B (PSt bp z w' tk) h' → Q (.panic (failC e)) s h') : CallVC Tryz.prog g (args bp) s h K Q :=
  CallVC.ends (sp B bp z tk w ts h o hR hl) (fun _ _ ⟨_, _, _, h1, h2, h3, h4, h5⟩ => hret _ _ _ _ _ h1 h2 h3 h4 h5) (fun _ _ ⟨_, _, h1, h2, h3⟩ => by subst h2; exact hpan _ _ _ h1 h3)

set_option maxHeartbeats 4000000 in
set_option maxRecDepth 100000 in
theorem stop_spec (e : Int) (bp z : Nat) (w : Value) (ts : List Tok) (h : Heap) (h0 : cellAt h ⟨bp, 0, none⟩ = some w) (h1 : cellAt h ⟨bp, 1, none⟩ = some (.int .i64 z)) (hA : ArrN 4 h w ts.length (ts.flatMap tokC)) :
    Spec Tryz.prog 15 [.pointer (some ⟨bp, 0, none⟩), .int .i64 e] h (Ends (fun _ _ => False) fun c h' => c = failC (stopE z e ts) ∧ Own h [] h') := by
  refine Spec.enter Tryz.func15 rfl Tryz.ntmps15 (by kernel_rfl) ?_
  have o0 := Own.refl h
  cases ts with
  | nil =>
    refine StillVC.run (StillVC.nilCheck rfl ?_)
    refine StillVC.run (StillVC.fieldAddr st68 rfl rfl rfl ?_)
    refine StillVC.run (StillVC.load1 ty31 rfl (by assumption) ?_)
    refine StillVC.run (StillVC.lenN hA sl31 ?_)
    refine Br.tt ?_
    refine StillVC.run (StillVC.nilCheck rfl ?_)
    refine StillVC.run (StillVC.fieldAddr st68 rfl rfl rfl ?_)
    refine StillVC.run (StillVC.load1 ty3 rfl (by assumption) ?_)
    refine StillVC.run (StillVC.buildK st64 ?_)
    refine And.intro rfl ?_
    refine And.intro rfl ?_
    refine StillVC.run (StillVC.mkIface con64 rfl ?_)
    refine RunVC.panicI rfl ?_
    exact ⟨rfl, o0⟩
  | cons t r =>
    have hx : (t :: r)[0]? = some t := rfl
    have hln : (t :: r).length = r.length + 1 := rfl
    refine StillVC.run (StillVC.nilCheck rfl ?_)
    refine StillVC.run (StillVC.fieldAddr st68 rfl rfl rfl ?_)
    refine StillVC.run (StillVC.load1 ty31 rfl (by assumption) ?_)
    refine StillVC.run (StillVC.lenN hA sl31 ?_)
    refine Br.dec (fun hc => absurd hc (by omega)) (fun c24 => ?_)
    refine StillVC.run (StillVC.nilCheck rfl ?_)
    refine StillVC.run (StillVC.fieldAddr st68 rfl rfl rfl ?_)
    refine StillVC.run (StillVC.load1 ty31 rfl (by assumption) ?_)
    refine StillVC.run (StillVC.idxN sl31 ty38 hA rfl (by omega) (by omega) ?_)
    refine StillVC.run (StillVC.fieldAdr hA (by omega) st38 rfl rfl rfl ?_)
    refine StillVC.run (StillVC.loadFF hA ty3 (fun _ => rfl) rfl (by assumption) rfl ?_)
    refine StillVC.run (StillVC.buildK st64 ?_)
    refine And.intro rfl ?_
    refine And.intro rfl ?_
    refine StillVC.run (StillVC.mkIface con64 rfl ?_)
    refine RunVC.panicI rfl ?_
    exact ⟨rfl, o0⟩

theorem seesB_short : ∀ (ss : List (List UInt8)) (ts : List Tok), ts.length < ss.length → seesB ss ts = false
  | [], _, h => absurd h (Nat.not_lt_zero _)
  | _ :: _, [], _ => rfl
  | s :: ss, t :: ts, h => by
    rw [seesB, seesB_short ss ts (by simpa using h), Bool.and_false]

theorem seesB_step {ss : List (List UInt8)} {ts : List Tok} {i : Nat} {s : List UInt8} {t : Tok} (hs : ss[i]? = some s) (ht : ts[i]? = some t) : seesB (ss.drop i) (ts.drop i) = (wordB t s && seesB (ss.drop (i + 1)) (ts.drop (i + 1))) := by
  obtain ⟨h1, rfl⟩ := List.getElem?_eq_some_iff.1 hs
  obtain ⟨h2, rfl⟩ := List.getElem?_eq_some_iff.1 ht
  rw [List.drop_eq_getElem_cons h1, List.drop_eq_getElem_cons h2, seesB]

set_option maxHeartbeats 4000000 in
set_option maxRecDepth 100000 in
theorem peek_spec (ss : List (List UInt8)) (vs : Value) (bp : Nat) (w : Value) (ts : List Tok) (h : Heap) (h0 : cellAt h ⟨bp, 0, none⟩ = some w) (hA : ArrN 4 h w ts.length (ts.flatMap tokC)) (hS : Arr h vs (strs ss)) (hl : ts.length ≤ 5000) :
    SpecR Tryz.prog 80 [.pointer (some ⟨bp, 0, none⟩), vs] h fun v h' => v = .bool (seesB ss ts) ∧ Own h [] h' := by
  refine Spec.enter Tryz.func80 rfl Tryz.ntmps80 (by kernel_rfl) ?_
  have o0 := Own.refl h
  by_cases hlt : ts.length < ss.length
  · rw [seesB_short ss ts hlt]
    have hsl : (strs ss).length = ss.length := by simp [strs]
    refine StillVC.run (StillVC.nilCheck rfl ?_)
    refine StillVC.run (StillVC.fieldAddr st68 rfl rfl rfl ?_)
    refine StillVC.run (StillVC.load1 ty31 rfl (by assumption) ?_)
    refine StillVC.run (StillVC.lenN hA sl31 ?_)
    refine StillVC.run (StillVC.lenAn hS (by assumption) sl42 ?_)
    refine Br.dec (fun c15 => ?_) (fun hc => absurd (by omega) hc)
    refine RetVC.one rfl ?_
    exact ⟨rfl, o0⟩
  have hsl : (strs ss).length = ss.length := by simp [strs]
  refine StillVC.run (StillVC.nilCheck rfl ?_)
  refine StillVC.run (StillVC.fieldAddr st68 rfl rfl rfl ?_)
  refine StillVC.run (StillVC.load1 ty31 rfl (by assumption) ?_)
  refine StillVC.run (StillVC.lenN hA sl31 ?_)
  refine StillVC.run (StillVC.lenAn hS (by assumption) sl42 ?_)
  refine Br.dec (fun hc => absurd hc (by omega)) (fun c25 => ?_)
  refine StillVC.run (StillVC.lenAn hS (by assumption) sl42 ?_)
  refine LoopVC.intro [4, 5, 6, 7, 18, 19, 20, 21, 22, 23, 24, 25, 26, 27, 28, 29, 30, 31, 32, 33, 34, 35, 36, 37, 38, 39, 40, 41, 42, 43, 44] [18] (fun vs hh => ∃ (i : Nat), i ≤ ss.length ∧ vs = [.int .i64 i] ∧ seesB (ss.drop i) (ts.drop i) = seesB ss ts ∧ Own h [] hh) (fun vs _ => match vs with | [.int _ i] => ss.length - i.toNat | _ => 0) ?_ ?_
  · exact ⟨0, by omega, rfl, rfl, o0⟩
  · rintro vs junk hh ⟨i, hi, rfl, hE, oh⟩
    by_cases hlt2 : i < ss.length
    · obtain ⟨s, hs⟩ := getx hlt2
      obtain ⟨t, ht⟩ := getx (show i < ts.length by omega)
      have hss : (strs ss)[i]? = some (.string ⟨⟨s⟩⟩) := by simp [strs, hs]
      rw [seesB_step hs ht] at hE
      by_cases hw : t.text = s
      · by_cases hk : t.kind = 1 ∨ t.kind = 4
        · have hb : wordB t s = true := decide_eq_true ⟨hw, hk⟩
          rw [hb, Bool.true_and] at hE
          refine Br.dec (fun c30 => ?_) (fun hc => absurd (by omega) hc)
          refine StillVC.run (StillVC.idx sl42 ty9 (hS.ext oh.ext) rfl (by omega) (by omega) ?_)
          refine StillVC.run (StillVC.loadM (hS.ext oh.ext) ty9 rfl (by first | assumption | rfl) ?_)
          refine StillVC.run (StillVC.nilCheck rfl ?_)
          refine StillVC.run (StillVC.fieldAddr st68 rfl rfl rfl ?_)
          refine StillVC.run (StillVC.load1 ty31 rfl (oh.old h0) ?_)
          refine StillVC.run (StillVC.idxN sl31 ty38 (hA.ext oh.ext) rfl (by omega) (by omega) ?_)
          refine StillVC.run (StillVC.loadFT ty38 (hA.ext oh.ext) (fun _ => rfl) (by decide) rfl (by assumption) ?_)
          (refine RunVC.alloc oh ty38 ?_; intro b38 m38 o38)
          (refine RunVC.storeL o38 0 rfl ty38 rfl (by decide) (And.intro ⟨rfl, rfl⟩ ?_); intro m39 o39)
          refine StillVC.run (StillVC.fieldAddr st38 rfl rfl rfl ?_)
          refine StillVC.run (StillVC.loadO o39 0 rfl ty9 rfl rfl ?_)
          refine Br.ndec (fun hc => absurd (by first | omega | assumption | decide | exact rfl) hc) (fun c42 => ?_)
          refine StillVC.run (StillVC.fieldAddr st38 rfl rfl rfl ?_)
          refine StillVC.run (StillVC.loadO o39 0 rfl ty3 rfl rfl ?_)
          refine Br.ndec (fun c45 => ?_) (fun c45 => ?_)
          refine StillVC.run (StillVC.fieldAddr st38 rfl rfl rfl ?_)
          refine StillVC.run (StillVC.loadO o39 0 rfl ty3 rfl rfl ?_)
          refine Br.ndec (fun hc => absurd (by first | omega | assumption | decide | exact rfl) hc) (fun c48 => ?_)
          refine Ar.i64 (by omega) (by omega) ?_
          refine ⟨rfl, ?_⟩
          rotate_left
          refine Br.ff ?_
          refine Ar.i64 (by omega) (by omega) ?_
          refine ⟨rfl, ?_⟩
          all_goals exact ⟨⟨i + 1, by omega, rfl, hE, Own.sel (by assumption) [] rfl⟩, by simp; omega⟩
        · have hb : wordB t s = false := decide_eq_false (fun e => hk e.2)
          rw [hb, Bool.false_and] at hE
          rw [← hE]
          refine Br.dec (fun c50 => ?_) (fun hc => absurd (by omega) hc)
          refine StillVC.run (StillVC.idx sl42 ty9 (hS.ext oh.ext) rfl (by omega) (by omega) ?_)
          refine StillVC.run (StillVC.loadM (hS.ext oh.ext) ty9 rfl (by first | assumption | rfl) ?_)
          refine StillVC.run (StillVC.nilCheck rfl ?_)
          refine StillVC.run (StillVC.fieldAddr st68 rfl rfl rfl ?_)
          refine StillVC.run (StillVC.load1 ty31 rfl (oh.old h0) ?_)
          refine StillVC.run (StillVC.idxN sl31 ty38 (hA.ext oh.ext) rfl (by omega) (by omega) ?_)
          refine StillVC.run (StillVC.loadFT ty38 (hA.ext oh.ext) (fun _ => rfl) (by decide) rfl (by assumption) ?_)
          (refine RunVC.alloc oh ty38 ?_; intro b58 m58 o58)
          (refine RunVC.storeL o58 0 rfl ty38 rfl (by decide) (And.intro ⟨rfl, rfl⟩ ?_); intro m59 o59)
          refine StillVC.run (StillVC.fieldAddr st38 rfl rfl rfl ?_)
          refine StillVC.run (StillVC.loadO o59 0 rfl ty9 rfl rfl ?_)
          refine Br.ndec (fun hc => absurd (by first | omega | assumption | decide | exact rfl) hc) (fun c62 => ?_)
          refine StillVC.run (StillVC.fieldAddr st38 rfl rfl rfl ?_)
          refine StillVC.run (StillVC.loadO o59 0 rfl ty3 rfl rfl ?_)
          refine Br.ndec (fun c65 => ?_) (fun hc => absurd hc (by first | omega | assumption | decide | exact rfl))
          refine StillVC.run (StillVC.fieldAddr st38 rfl rfl rfl ?_)
          refine StillVC.run (StillVC.loadO o59 0 rfl ty3 rfl rfl ?_)
          refine Br.ndec (fun c68 => ?_) (fun hc => absurd hc (by first | omega | assumption | decide | exact rfl))
          refine RetVC.one rfl ?_
          exact ⟨rfl, Own.sel (by assumption) [] rfl⟩
      · have hb : wordB t s = false := decide_eq_false (fun e => hw e.1)
        rw [hb, Bool.false_and] at hE
        rw [← hE]
        refine Br.dec (fun c70 => ?_) (fun hc => absurd (by omega) hc)
        refine StillVC.run (StillVC.idx sl42 ty9 (hS.ext oh.ext) rfl (by omega) (by omega) ?_)
        refine StillVC.run (StillVC.loadM (hS.ext oh.ext) ty9 rfl (by first | assumption | rfl) ?_)
        refine StillVC.run (StillVC.nilCheck rfl ?_)
        refine StillVC.run (StillVC.fieldAddr st68 rfl rfl rfl ?_)
        refine StillVC.run (StillVC.load1 ty31 rfl (oh.old h0) ?_)
        refine StillVC.run (StillVC.idxN sl31 ty38 (hA.ext oh.ext) rfl (by omega) (by omega) ?_)
        refine StillVC.run (StillVC.loadFT ty38 (hA.ext oh.ext) (fun _ => rfl) (by decide) rfl (by assumption) ?_)
        (refine RunVC.alloc oh ty38 ?_; intro b78 m78 o78)
        (refine RunVC.storeL o78 0 rfl ty38 rfl (by decide) (And.intro ⟨rfl, rfl⟩ ?_); intro m79 o79)
        refine StillVC.run (StillVC.fieldAddr st38 rfl rfl rfl ?_)
        refine StillVC.run (StillVC.loadO o79 0 rfl ty9 rfl rfl ?_)
        refine Br.ndec (fun c82 => ?_) (fun hc => absurd hc (by first | omega | assumption | decide | exact rfl))
        refine Br.tt ?_
        refine RetVC.one rfl ?_
        exact ⟨rfl, Own.sel (by assumption) [] rfl⟩
    · have hb : ss.drop i = [] := List.drop_of_length_le (by omega)
      rw [hb] at hE
      rw [← hE]
      refine Br.dec (fun hc => absurd hc (by omega)) (fun c90 => ?_)
      refine RetVC.one rfl ?_
      exact ⟨rfl, oh⟩

end Go.Proofs.YtnmfanjhepepbaaGreatDoor

/- The parser's reading of tokens: names and symbols that are taken, needed, or chosen from. -/
namespace Go.Proofs.YtnmfanjhepepbaaGreatDoor
open Go

theorem TokR.tail {tk : Item} {v : Value} {t : Tok} {r : List Tok} (a : Reads tk 4 v ((t :: r).length - 1) (((t :: r).flatMap tokC).drop 4)) (k : TokOK (t :: r)) : TokR tk v r := ⟨a, fun x hx => k x (List.mem_cons_of_mem _ hx)⟩

theorem Own.satT {h0 : Heap} {T L : List Item} {h : Heap} (o : Own ⟨h0, T⟩ L h) (k : Nat) {x : Item} (hk : T[k]? = some x) : x.sat h := OwnR.sat o x (List.mem_append_right _ (List.mem_of_getElem? hk))

/-- A list of texts that a caller keeps. -/
def KeepS (B : Base) (v : Value) (ss : List (List UInt8)) : Prop := ∀ L h, Own B L h → Arr h v (strs ss)

set_option maxHeartbeats 4000000 in
set_option maxRecDepth 100000 in
theorem ptake_spec (s : List UInt8) : PSpec 73 (fun bp => [.pointer (some ⟨bp, 0, none⟩), .string ⟨⟨s⟩⟩]) (fun _ => takeB s) (fun b v => v = .bool b) := by
  intro B bp z tk w ts h o hR hl
  obtain ⟨hR, hK⟩ := hR
  refine Spec.enter Tryz.func73 rfl Tryz.ntmps73 (by kernel_rfl) ?_
  (refine RunVC.lit o sl42 ty9 rfl rfl (by decide) (And.intro rfl ?_); intro b10 m10 o10)
  refine CallVC.ret (peek_spec [s] _ bp w ts _ (Own.cellB (by assumption) 0 rfl 0) (Own.reads (by assumption) 1 hR rfl) (Own.boxArr (by assumption) 2 rfl rfl (by decide)) hl) ?_
  rintro _ h1 ⟨rfl, oc⟩
  have o1 := oc.thenE (by assumption)
  clear oc
  cases hb : seesB [s] ts with
  | false =>
    refine Br.tt ?_
    refine RetVC.one rfl ?_
    exact ⟨false, ts, w, takeB_no hb, rfl, Nat.le_refl _, ⟨hR, hK⟩, Own.sel (by assumption) [0, 1] rfl⟩
  | true =>
    have ht := takeB_yes hb
    cases ts with
    | nil => cases hb
    | cons t r =>
      have hln : (t :: r).length = r.length + 1 := rfl
      refine Br.ff ?_
      refine StillVC.run (StillVC.nilCheck rfl ?_)
      refine StillVC.run (StillVC.fieldAddr st68 rfl rfl rfl ?_)
      refine StillVC.run (StillVC.loadO o1 0 rfl ty31 rfl rfl ?_)
      (refine StillVC.run (StillVC.sliceTok sl31 ty38 hR (o1.satK 1 rfl) rfl (by omega) (by omega) ?_); intro v33 a33)
      refine StillVC.run (StillVC.nilCheck rfl ?_)
      refine StillVC.run (StillVC.fieldAddr st68 rfl rfl rfl ?_)
      obtain ⟨va, vc, rfl⟩ := Reads.isS (by assumption) (Own.satK o1 1 rfl)
      (refine RunVC.store o1 0 rfl ty31 rfl (by simp) (And.intro ⟨rfl, rfl⟩ ?_); intro m40 o40)
      refine RetVC.one rfl ?_
      exact ⟨true, r, _, ht, rfl, by omega, TokR.tail (by assumption) hK, Own.sel (by assumption) [0, 1] rfl⟩

set_option maxHeartbeats 4000000 in
set_option maxRecDepth 100000 in
theorem pkind_spec (k : Int) : PSpec 74 (fun bp => [.pointer (some ⟨bp, 0, none⟩), .int .i64 k]) (fun z => kindP z k) (fun t v => v = .agg ⟨tokC t⟩ ∧ 0 ≤ t.num ∧ t.num ≤ 10000000000) := by
  intro B bp z tk w ts h o hR hl
  obtain ⟨hR, hK⟩ := hR
  refine Spec.enter Tryz.func74 rfl Tryz.ntmps74 (by kernel_rfl) ?_
  cases ts with
  | nil =>
    (refine RunVC.alloc o ty38 ?_; intro b10 m10 o10)
    refine StillVC.run (StillVC.nilCheck rfl ?_)
    refine StillVC.run (StillVC.fieldAddr st68 rfl rfl rfl ?_)
    refine StillVC.run (StillVC.loadO o10 0 rfl ty31 rfl rfl ?_)
    refine StillVC.run (StillVC.lenN (o10.reads 1 hR rfl) sl31 ?_)
    refine Br.tt ?_
    refine Br.tt ?_
    refine CallVC.ends (stop_spec 4 bp z w [] _ (Own.cellB (by assumption) 0 rfl 0) (Own.cellB (by assumption) 0 rfl 1) (Own.reads (by assumption) 1 hR rfl)) (fun _ _ h => h.elim) (fun c h4 ⟨hc, ho⟩ => ?_)
    exact ⟨(7, z), w, rfl, hc, (ho.thenE (by assumption)).sel [0, 1] rfl⟩
  | cons t r =>
    have hx : (t :: r)[0]? = some t := rfl
    have hln : (t :: r).length = r.length + 1 := rfl
    by_cases hk : t.kind = k
    · have hm : kindP z k (t :: r) = .ok (t, r) := if_pos hk
      (refine RunVC.alloc o ty38 ?_; intro b30 m30 o30)
      refine StillVC.run (StillVC.nilCheck rfl ?_)
      refine StillVC.run (StillVC.fieldAddr st68 rfl rfl rfl ?_)
      refine StillVC.run (StillVC.loadO o30 0 rfl ty31 rfl rfl ?_)
      refine StillVC.run (StillVC.lenN (o30.reads 1 hR rfl) sl31 ?_)
      refine Br.dec (fun hc => absurd hc (by omega)) (fun c35 => ?_)
      refine StillVC.run (StillVC.nilCheck rfl ?_)
      refine StillVC.run (StillVC.fieldAddr st68 rfl rfl rfl ?_)
      refine StillVC.run (StillVC.loadO o30 0 rfl ty31 rfl rfl ?_)
      refine StillVC.run (StillVC.idxN sl31 ty38 (o30.reads 1 hR rfl) rfl (by omega) (by omega) ?_)
      refine StillVC.run (StillVC.fieldAdr (o30.reads 1 hR rfl) (by omega) st38 rfl rfl rfl ?_)
      refine StillVC.run (StillVC.loadFF (o30.reads 1 hR rfl) ty3 (fun _ => rfl) rfl (by assumption) rfl ?_)
      refine Br.ndec (fun hc => absurd (by first | omega | assumption | decide | exact rfl) hc) (fun c42 => ?_)
      refine StillVC.run (StillVC.nilCheck rfl ?_)
      refine StillVC.run (StillVC.fieldAddr st68 rfl rfl rfl ?_)
      refine StillVC.run (StillVC.loadO o30 0 rfl ty31 rfl rfl ?_)
      refine StillVC.run (StillVC.idxN sl31 ty38 (o30.reads 1 hR rfl) rfl (by omega) (by omega) ?_)
      refine StillVC.run (StillVC.loadFT ty38 (o30.reads 1 hR rfl) (fun _ => rfl) (by decide) rfl (by assumption) ?_)
      (refine RunVC.alloc o30 ty38 ?_; intro b48 m48 o48)
      (refine RunVC.storeL o48 3 rfl ty38 rfl (by decide) (And.intro ⟨rfl, rfl⟩ ?_); intro m49 o49)
      refine StillVC.run (StillVC.nilCheck rfl ?_)
      refine StillVC.run (StillVC.fieldAddr st68 rfl rfl rfl ?_)
      refine StillVC.run (StillVC.loadO o49 0 rfl ty31 rfl rfl ?_)
      (refine StillVC.run (StillVC.sliceTok sl31 ty38 hR (o49.satK 1 rfl) rfl (by omega) (by omega) ?_); intro v53 a53)
      refine StillVC.run (StillVC.nilCheck rfl ?_)
      refine StillVC.run (StillVC.fieldAddr st68 rfl rfl rfl ?_)
      obtain ⟨va, vc, rfl⟩ := Reads.isS (by assumption) (Own.satK o 1 rfl)
      (refine RunVC.store o49 0 rfl ty31 rfl (by simp) (And.intro ⟨rfl, rfl⟩ ?_); intro m60 o60)
      refine StillVC.run (StillVC.loadON o60 3 rfl ty38 rfl rfl rfl ?_)
      (refine RunVC.storeL o60 2 rfl ty38 rfl (by decide) (And.intro ⟨rfl, rfl⟩ ?_); intro m62 o62)
      first | refine RetVC.cell2 rfl o62 2 rfl ty38 rfl rfl ?_ | refine RetVC.cell1 rfl o62 2 rfl ty38 rfl rfl ?_ | refine RetVC.cellTT rfl o62 2 rfl ty38 rfl rfl ?_
      exact ⟨t, r, _, hm, ⟨rfl, hK t (by simp)⟩, by omega, TokR.tail (by assumption) hK, Own.sel (by assumption) [0, 1] rfl⟩
    · have hm : kindP z k (t :: r) = .error (4, t.off) := if_neg hk
      (refine RunVC.alloc o ty38 ?_; intro b70 m70 o70)
      refine StillVC.run (StillVC.nilCheck rfl ?_)
      refine StillVC.run (StillVC.fieldAddr st68 rfl rfl rfl ?_)
      refine StillVC.run (StillVC.loadO o70 0 rfl ty31 rfl rfl ?_)
      refine StillVC.run (StillVC.lenN (o70.reads 1 hR rfl) sl31 ?_)
      refine Br.dec (fun hc => absurd hc (by omega)) (fun c75 => ?_)
      refine StillVC.run (StillVC.nilCheck rfl ?_)
      refine StillVC.run (StillVC.fieldAddr st68 rfl rfl rfl ?_)
      refine StillVC.run (StillVC.loadO o70 0 rfl ty31 rfl rfl ?_)
      refine StillVC.run (StillVC.idxN sl31 ty38 (o70.reads 1 hR rfl) rfl (by omega) (by omega) ?_)
      refine StillVC.run (StillVC.fieldAdr (o70.reads 1 hR rfl) (by omega) st38 rfl rfl rfl ?_)
      refine StillVC.run (StillVC.loadFF (o70.reads 1 hR rfl) ty3 (fun _ => rfl) rfl (by assumption) rfl ?_)
      refine Br.ndec (fun c82 => ?_) (fun hc => absurd hc (by first | omega | assumption | decide | exact rfl))
      refine CallVC.ends (stop_spec 4 bp z w (t :: r) _ (Own.cellB (by assumption) 0 rfl 0) (Own.cellB (by assumption) 0 rfl 1) (Own.reads (by assumption) 1 hR rfl)) (fun _ _ h => h.elim) (fun c h4 ⟨hc, ho⟩ => ?_)
      exact ⟨(4, t.off), w, hm, hc, (ho.thenE (by assumption)).sel [0, 1] rfl⟩

theorem needP_step {z : Nat} {ss : List (List UInt8)} {i : Nat} {s : List UInt8} (hs : ss[i]? = some s) : needP z (ss.drop i) = (need1 z s >>= fun _ => needP z (ss.drop (i + 1))) := by
  obtain ⟨h1, rfl⟩ := List.getElem?_eq_some_iff.1 hs
  rw [List.drop_eq_getElem_cons h1]
  rfl

theorem need1_yes (z : Nat) {s : List UInt8} {ts r : List Tok} (h : takeB s ts = .ok (true, r)) : need1 z s ts = .ok ((), r) := PM.bind_ok h
theorem need1_no (z : Nat) {s : List UInt8} {ts r : List Tok} (h : takeB s ts = .ok (false, r)) : need1 z s ts = .error (stopE z 4 r) := PM.bind_ok h
theorem takeB_ok (s : List UInt8) (ts : List Tok) (e : Int × Nat) : takeB s ts ≠ .error e := by
  unfold takeB
  split <;> simp
theorem takeB_same {s : List UInt8} {ts r : List Tok} (h : takeB s ts = .ok (false, r)) : ts = r := by
  unfold takeB at h
  split at h
  · cases h
  · injection h with h; injection h

set_option maxHeartbeats 4000000 in
set_option maxRecDepth 100000 in
theorem pneed_spec (ss : List (List UInt8)) (vs : Value) (B : Base) (bp z : Nat) (tk : Item) (w : Value) (ts : List Tok) (h : Heap) (hS : KeepS B vs ss) (o : Own B (PSt bp z w tk) h) (hR : TokR tk w ts) (hl : ts.length ≤ 5000) (hsl : ss.length ≤ 100) :
    Spec Tryz.prog 41 [.pointer (some ⟨bp, 0, none⟩), vs] h (PEnd B bp z tk ts.length (needP z ss ts) (fun _ v => v = .tuple ⟨[]⟩)) := by
  refine Spec.enter Tryz.func41 rfl Tryz.ntmps41 (by kernel_rfl) ?_
  have hA := hS _ _ o
  have hln : (strs ss).length = ss.length := by simp [strs]
  refine StillVC.run (StillVC.lenAn hA (by assumption) sl42 ?_)
  refine LoopVC.intro [5, 8, 9, 10, 11, 12, 13, 14, 15, 16, 17, 18] [8] (fun vs hh => ∃ (i : Nat) (w' : Value) (ts' : List Tok), i ≤ ss.length ∧ vs = [.int .i64 i] ∧ ts'.length ≤ ts.length ∧ needP z (ss.drop i) ts' = needP z ss ts ∧ TokR tk w' ts' ∧ Own B (PSt bp z w' tk) hh) (fun vs _ => match vs with | [.int _ i] => ss.length - i.toNat | _ => 0) ?_ ?_
  · exact ⟨0, w, ts, by omega, rfl, Nat.le_refl _, rfl, hR, o⟩
  · rintro vs junk hh ⟨i, w', ts', hi, rfl, hle, hE, hR', oh⟩
    have hA := hS _ _ oh
    by_cases hlt : i < ss.length
    · obtain ⟨s, hs⟩ := getx hlt
      have hss : (strs ss)[i]? = some (.string ⟨⟨s⟩⟩) := by simp [strs, hs]
      rw [needP_step hs] at hE
      refine Br.dec (fun c20 => ?_) (fun hc => absurd (by omega) hc)
      refine StillVC.run (StillVC.idx sl42 ty9 hA rfl (by omega) (by omega) ?_)
      refine StillVC.run (StillVC.loadM hA ty9 rfl (by first | assumption | rfl) ?_)
      refine (ptake_spec s).call oh hR' (by omega) (fun a r w2 v h2 hm hv hle2 hR2 o2 => ?_) (fun e w2 h2 hm o2 => ?_)
      · subst hv
        cases a with
        | true =>
          rw [PM.bind_ok (need1_yes z hm)] at hE
          refine Br.ff ?_
          refine Ar.i64 (by omega) (by omega) ?_
          refine ⟨rfl, ?_⟩
          exact ⟨⟨i + 1, w2, r, by omega, rfl, by omega, hE, hR2, o2⟩, by simp; omega⟩
        | false =>
          obtain rfl := takeB_same hm
          rw [PM.bind_err (need1_no z hm)] at hE
          refine Br.tt ?_
          refine CallVC.ends (stop_spec 4 bp z w2 ts' _ (Own.cellB (by assumption) 0 rfl 0) (Own.cellB (by assumption) 0 rfl 1) (Own.reads (by assumption) 1 hR2.1 rfl)) (fun _ _ h => h.elim) (fun c h4 ⟨hc, ho⟩ => ?_)
          exact ⟨_, w2, hE.symm, hc, (ho.thenE o2).sel [0, 1] rfl⟩
      · exact absurd hm (takeB_ok s ts' e)
    · have hd : ss.drop i = [] := List.drop_of_length_le (by omega)
      rw [hd] at hE
      refine Br.dec (fun hc => absurd hc (by omega)) (fun c60 => ?_)
      refine RetVC.zero rfl ?_
      exact ⟨(), ts', w', hE.symm, rfl, hle, hR', oh⟩

set_option maxHeartbeats 4000000 in
set_option maxRecDepth 100000 in
theorem pname_spec : PSpec 30 (fun bp => [.pointer (some ⟨bp, 0, none⟩)]) (fun z => nameP z) (fun t v => v = .string ⟨⟨t⟩⟩) := by
  intro B bp z tk w ts h o hR hl
  refine Spec.enter Tryz.func30 rfl Tryz.ntmps30 (by kernel_rfl) ?_
  refine (pkind_spec 1).call o hR hl (fun a r w' v h' hm hv hle hR' o' => ?_) (fun e w' h' hm o' => ?_)
  · obtain ⟨rfl, hv⟩ := hv
    refine StillVC.run (StillVC.fieldV st38 rfl rfl rfl rfl ?_)
    refine RetVC.one rfl ?_
    exact ⟨_, r, w', PM.bind_ok hm, rfl, hle, hR', Own.sel (by assumption) [0, 1] rfl⟩
  · exact ⟨e, w', PM.bind_err hm, rfl, o'⟩

set_option maxHeartbeats 4000000 in
set_option maxRecDepth 100000 in
theorem pnumber_spec : PSpec 78 (fun bp => [.pointer (some ⟨bp, 0, none⟩)]) (fun z => numP z) (fun n v => v = .int .i64 n ∧ 0 ≤ n ∧ n ≤ 10000000000) := by
  intro B bp z tk w ts h o hR hl
  refine Spec.enter Tryz.func78 rfl Tryz.ntmps78 (by kernel_rfl) ?_
  refine (pkind_spec 2).call o hR hl (fun a r w' v h' hm hv hle hR' o' => ?_) (fun e w' h' hm o' => ?_)
  · obtain ⟨rfl, hv⟩ := hv
    refine StillVC.run (StillVC.fieldV st38 rfl rfl rfl rfl ?_)
    refine RetVC.one rfl ?_
    exact ⟨_, r, w', PM.bind_ok hm, ⟨rfl, hv⟩, hle, hR', Own.sel (by assumption) [0, 1] rfl⟩
  · exact ⟨e, w', PM.bind_err hm, rfl, o'⟩

end Go.Proofs.YtnmfanjhepepbaaGreatDoor

/- The parser's choice of one of some words. -/
namespace Go.Proofs.YtnmfanjhepepbaaGreatDoor
open Go

theorem wordP_step {z : Nat} {ss : List (List UInt8)} {i : Nat} {s : List UInt8} {k : Int} (hs : ss[i]? = some s) : wordP z (ss.drop i) k = (takeB s >>= fun b => if b = true then pure k else wordP z (ss.drop (i + 1)) (k + 1)) := by
  obtain ⟨h1, rfl⟩ := List.getElem?_eq_some_iff.1 hs
  rw [List.drop_eq_getElem_cons h1]
  rfl

theorem KeepS.own {B : Base} {v : Value} {ss : List (List UInt8)} {J : List Item} (hS : KeepS B v ss) : KeepS ⟨B.h, J ++ B.T⟩ v ss := fun L h o => hS (L ++ J) h o.back

set_option maxHeartbeats 4000000 in
set_option maxRecDepth 100000 in
theorem word1_spec (s : List UInt8) (pb : Nat) (B : Base) (bp z : Nat) (tk : Item) (w : Value) (ts : List Tok) (h : Heap) (o : Own B [box bp [w, .int .i64 z] 68, tk, box pb [.pointer (some ⟨bp, 0, none⟩)] 66] h) (hR : TokR tk w ts) (hl : ts.length ≤ 5000) :
    SpecR Tryz.prog 72 [.string ⟨⟨s⟩⟩, .pointer (some ⟨pb, 0, none⟩)] h fun v h' => ∃ b r w', takeB s ts = .ok (b, r) ∧ v = .bool b ∧ r.length ≤ ts.length ∧ TokR tk w' r ∧ Own B [box bp [w', .int .i64 z] 68, tk, box pb [.pointer (some ⟨bp, 0, none⟩)] 66] h' := by
  refine Spec.enter Tryz.func72 rfl Tryz.ntmps72 (by kernel_rfl) ?_
  refine StillVC.run (StillVC.loadO o 2 rfl ty66 rfl rfl ?_)
  refine (ptake_spec s).call (o.lend [0, 1] [2] rfl) hR hl (fun a r w2 v h2 hm hv hle hR2 o2 => ?_) (fun e w2 h2 hm o2 => ?_)
  · subst hv
    have o3 := o2.back
    refine RetVC.one rfl ?_
    exact ⟨a, r, w2, hm, rfl, hle, hR2, o3.sel [0, 1, 2] rfl⟩
  · exact absurd hm (takeB_ok s ts e)

set_option maxHeartbeats 4000000 in
set_option maxRecDepth 100000 in
theorem indexW_spec (ss : List (List UInt8)) (vs : Value) (pb : Nat) (B : Base) (bp z : Nat) (tk : Item) (w : Value) (ts : List Tok) (h : Heap) (hS : KeepS B vs ss) (o : Own B [box bp [w, .int .i64 z] 68, tk, box pb [.pointer (some ⟨bp, 0, none⟩)] 66] h) (hR : TokR tk w ts) (hl : ts.length ≤ 5000) (hsl : ss.length ≤ 100) :
    SpecR Tryz.prog 71 [vs, .func (.func 72) ⟨[]⟩ ⟨[.pointer (some ⟨pb, 0, none⟩)]⟩] h fun v h' => ∃ (j : Int) (r : List Tok) (w' : Value), v = .int .i64 j ∧ r.length ≤ ts.length ∧ TokR tk w' r ∧
      ((0 ≤ j ∧ j ≤ 100 ∧ wordP z ss 1 ts = .ok (j + 1, r)) ∨ (j = -1 ∧ wordP z ss 1 ts = .error (stopE z 4 r))) ∧ Own B [box bp [w', .int .i64 z] 68, tk, box pb [.pointer (some ⟨bp, 0, none⟩)] 66] h' := by
  refine Spec.enter Tryz.func71 rfl Tryz.ntmps71 (by kernel_rfl) ?_
  have hA := hS _ _ o
  have hln : (strs ss).length = ss.length := by simp [strs]
  refine StillVC.run (StillVC.lenAn hA (by assumption) sl42 ?_)
  refine LoopVC.intro [4, 5, 8, 9, 10, 11, 12, 13, 14, 15, 16, 17, 18] [8] (fun vs hh => ∃ (i : Nat) (w' : Value), i ≤ ss.length ∧ vs = [.int .i64 i] ∧ wordP z (ss.drop i) (i + 1) ts = wordP z ss 1 ts ∧ TokR tk w' ts ∧ Own B [box bp [w', .int .i64 z] 68, tk, box pb [.pointer (some ⟨bp, 0, none⟩)] 66] hh) (fun vs _ => match vs with | [.int _ i] => ss.length - i.toNat | _ => 0) ?_ ?_
  · exact ⟨0, w, by omega, rfl, rfl, hR, o⟩
  · rintro vs' junk hh ⟨i, w', hi, rfl, hE, hR', oh⟩
    have hA := hS _ _ oh
    by_cases hlt : i < ss.length
    · obtain ⟨s, hs⟩ := getx hlt
      have hss : (strs ss)[i]? = some (.string ⟨⟨s⟩⟩) := by simp [strs, hs]
      rw [wordP_step hs] at hE
      refine Br.dec (fun c20 => ?_) (fun hc => absurd (by omega) hc)
      refine RegVC.plain ?_
      refine StillVC.run (StillVC.idx sl42 ty9 hA rfl (by omega) (by omega) ?_)
      refine StillVC.run (StillVC.loadM hA ty9 rfl (by first | assumption | rfl) ?_)
      refine CallVC.ret (word1_spec s pb B bp z tk w' ts _ oh hR' hl) ?_
      rintro _ h2 ⟨b, r, w2, hm, rfl, hle, hR2, o2⟩
      rw [PM.bind_ok hm] at hE
      cases b with
      | true =>
        refine Br.tt ?_
        refine RetVC.one rfl ?_
        exact ⟨i, r, w2, rfl, hle, hR2, .inl ⟨by omega, by omega, hE.symm⟩, o2⟩
      | false =>
        obtain rfl := takeB_same hm
        refine Br.ff ?_
        refine Ar.i64 (by omega) (by omega) ?_
        refine ⟨rfl, ?_⟩
        exact ⟨⟨i + 1, w2, by omega, rfl, hE, hR2, o2⟩, by simp; omega⟩
    · have hd : ss.drop i = [] := List.drop_of_length_le (by omega)
      rw [hd] at hE
      refine Br.dec (fun hc => absurd hc (by omega)) (fun c60 => ?_)
      refine RetVC.one rfl ?_
      exact ⟨-1, ts, w', rfl, Nat.le_refl _, hR', .inr ⟨rfl, hE.symm⟩, oh⟩

set_option maxHeartbeats 4000000 in
set_option maxRecDepth 100000 in
theorem pword_spec (ss : List (List UInt8)) (vs : Value) (B : Base) (bp z : Nat) (tk : Item) (w : Value) (ts : List Tok) (h : Heap) (hS : KeepS B vs ss) (o : Own B (PSt bp z w tk) h) (hR : TokR tk w ts) (hl : ts.length ≤ 5000) (hsl : ss.length ≤ 100) :
    Spec Tryz.prog 29 [.pointer (some ⟨bp, 0, none⟩), vs] h (PEnd B bp z tk ts.length (wordP z ss 1 ts) (fun i v => v = .int .i64 i)) := by
  refine Spec.enter Tryz.func29 rfl Tryz.ntmps29 (by kernel_rfl) ?_
  (refine RunVC.boxO o rfl ?_; intro b10 m10 o10)
  refine StillVC.run (StillVC.makeFn ?_)
  refine CallVC.ret (indexW_spec ss vs b10 B bp z tk w ts _ hS (by assumption) hR hl hsl) ?_
  rintro _ h2 ⟨j, r, w2, rfl, hle, hR2, hj, o2⟩
  rcases hj with ⟨hj0, hj1, hm⟩ | ⟨rfl, hm⟩
  · refine Br.dec (fun hc => absurd hc (by omega)) (fun c20 => ?_)
    refine Ar.i64 (by omega) (by omega) ?_
    refine RetVC.one rfl ?_
    exact ⟨j + 1, r, w2, hm, rfl, hle, hR2, o2.sel [0, 1] rfl⟩
  · refine Br.tt ?_
    refine StillVC.run (StillVC.loadO o2 2 rfl ty66 rfl rfl ?_)
    refine CallVC.ends (stop_spec 4 bp z w2 r _ (Own.cellB (by assumption) 0 rfl 0) (Own.cellB (by assumption) 0 rfl 1) (Own.reads (by assumption) 1 hR2.1 rfl)) (fun _ _ h => h.elim) (fun c h4 ⟨hc, ho⟩ => ?_)
    exact ⟨_, w2, hm, hc, (ho.thenE o2).sel [0, 1] rfl⟩

end Go.Proofs.YtnmfanjhepepbaaGreatDoor

/- The parser's lists with separators. -/
namespace Go.Proofs.YtnmfanjhepepbaaGreatDoor
open Go

/-- How a function of the parser ends that makes memory. -/
def PEndI {α : Type} (B : Base) (bp z : Nat) (tk : Item) (n : Nat) (res : Except (Int × Nat) (α × List Tok)) (V : α → Value → Item → Prop) : Ending → Heap → Prop :=
  Ends (fun v h' => ∃ a r w I, res = .ok (a, r) ∧ V a v I ∧ r.length ≤ n ∧ TokR tk w r ∧ Own B [box bp [w, .int .i64 z] 68, tk, I] h')
    (fun c h' => ∃ e w, res = .error e ∧ c = failC e ∧ Own B (PSt bp z w tk) h')

theorem PEndI.call {α : Type} {g : FuncId} {args : List Value} {s : List Value} {h : Heap} {K : KK} {Q : QQ} {B : Base} {bp z : Nat} {tk : Item} {n : Nat} {res : Except (Int × Nat) (α × List Tok)} {V : α → Value → Item → Prop}
    (sp : Spec Tryz.prog g args h (PEndI B bp z tk n res V))
    (hret : ∀ a r w' v I h', res = .ok (a, r) → V a v I → r.length ≤ n → TokR tk w' r → Own B [box bp [w', .int .i64 z] 68, tk, I] h' → K v false h')
    (hpan : ∀ e w' h', res = .error e → Own B (PSt bp z w' tk) h' → Q (.panic (failC e)) s h') : CallVC Tryz.prog g args s h K Q :=
  CallVC.ends sp (fun _ _ ⟨_, _, _, _, h1, h2, h3, h4, h5⟩ => hret _ _ _ _ _ _ h1 h2 h3 h4 h5) (fun _ _ ⟨_, _, h1, h2, h3⟩ => by subst h2; exact hpan _ _ _ h1 h3)

theorem PEnd.call {α : Type} {g : FuncId} {args : List Value} {s : List Value} {h : Heap} {K : KK} {Q : QQ} {B : Base} {bp z : Nat} {tk : Item} {n : Nat} {res : Except (Int × Nat) (α × List Tok)} {V : α → Value → Prop}
    (sp : Spec Tryz.prog g args h (PEnd B bp z tk n res V))
    (hret : ∀ a r w' v h', res = .ok (a, r) → V a v → r.length ≤ n → TokR tk w' r → Own B (PSt bp z w' tk) h' → K v false h')
    (hpan : ∀ e w' h', res = .error e → Own B (PSt bp z w' tk) h' → Q (.panic (failC e)) s h') : CallVC Tryz.prog g args s h K Q :=
  CallVC.ends sp (fun _ _ ⟨_, _, _, h1, h2, h3, h4, h5⟩ => hret _ _ _ _ _ h1 h2 h3 h4 h5) (fun _ _ ⟨_, _, h1, h2, h3⟩ => by subst h2; exact hpan _ _ _ h1 h3)

theorem takeB_lt {s : List UInt8} {ts r : List Tok} (h : takeB s ts = .ok (true, r)) : r.length + 1 = ts.length := by
  unfold takeB at h
  split at h
  · rename_i hs
    cases ts with
    | nil => cases hs
    | cons t q => injection h with h; injection h with _ h; subst h; rfl
  · injection h with h; injection h with h; cases h

theorem listA_yes {α : Type} {sep : List UInt8} {one : PM α} {f : Nat} {acc : List α} {ts r : List Tok} (h : takeB sep ts = .ok (true, r)) : listA sep one (f + 1) acc ts = (one >>= fun a => listA sep one f (acc ++ [a])) r := by
  rw [listA, PM.bind_ok h]
  rfl

theorem listA_no {α : Type} {sep : List UInt8} {one : PM α} {f : Nat} {acc : List α} {ts r : List Tok} (h : takeB sep ts = .ok (false, r)) : listA sep one (f + 1) acc ts = .ok (acc, r) := by
  rw [listA, PM.bind_ok h]
  rfl

def strC (s : List UInt8) : List Value := [.string ⟨⟨s⟩⟩]
def vlC (x : Vl) : List Value := [.int .i64 x.k, .int .i64 x.n, .string ⟨⟨x.t⟩⟩]
def opdC (x : Opd) : List Value := [.string ⟨⟨x.var⟩⟩, .string ⟨⟨x.attr⟩⟩, .bool x.con, .int .i64 x.val.k, .int .i64 x.val.n, .string ⟨⟨x.val.t⟩⟩]
def cndC (x : Cnd) : List Value := [.string ⟨⟨x.left.var⟩⟩, .string ⟨⟨x.left.attr⟩⟩, .bool x.left.con, .int .i64 x.left.val.k, .int .i64 x.left.val.n, .string ⟨⟨x.left.val.t⟩⟩, .int .i64 x.op, .string ⟨⟨x.right.var⟩⟩, .string ⟨⟨x.right.attr⟩⟩, .bool x.right.con, .int .i64 x.right.val.k, .int .i64 x.right.val.n, .string ⟨⟨x.right.val.t⟩⟩, .int .i64 x.add]
def colC (x : Col) : List Value := [.string ⟨⟨x.name⟩⟩, .int .i64 x.kind, .int .i64 x.dflt.k, .int .i64 x.dflt.n, .string ⟨⟨x.dflt.t⟩⟩]
def trmC (x : Trm) : List Value := [.string ⟨⟨x.attr⟩⟩, .int .i64 x.measure, .int .i64 x.tol, .int .i64 x.num, .int .i64 x.den, .int .i64 x.gives, .int .i64 x.takes]
def nmdC (x : Nmd) : List Value := [.string ⟨⟨x.name⟩⟩, .int .i64 x.val.k, .int .i64 x.val.n, .string ⟨⟨x.val.t⟩⟩]
def vrC (x : Vr) : List Value := [.string ⟨⟨x.name⟩⟩, .string ⟨⟨x.table⟩⟩]

set_option maxHeartbeats 8000000 in
set_option maxRecDepth 100000 in
theorem listS_spec (g : FuncId) (one : Nat → PM (List UInt8)) (hone : PSpec g (fun bp => [.pointer (some ⟨bp, 0, none⟩)]) one (fun a v => v = .string ⟨⟨a⟩⟩)) (sep : List UInt8) (B : Base) (bp z : Nat) (tk : Item) (w : Value) (ts : List Tok) (h : Heap) (o : Own B (PSt bp z w tk) h) (hR : TokR tk w ts) (hl : ts.length ≤ 5000) :
    Spec Tryz.prog 104 [.pointer (some ⟨bp, 0, none⟩), .string ⟨⟨sep⟩⟩, .func (.func g) ⟨[.pointer (some ⟨bp, 0, none⟩)]⟩ ⟨[]⟩] h (PEndI B bp z tk ts.length (listP sep (one z) ts) (fun l v I => l.length ≤ 5001 ∧ I = row v 9 1 l.length (l.flatMap strC))) := by
  refine Spec.enter Tryz.func104 rfl Tryz.ntmps104 (by kernel_rfl) ?_
  generalize hres : listP sep (one z) ts = res
  refine RegVC.plain ?_
  refine hone.call o hR hl (fun a r w1 v h1 hm hv hle hR1 o1 => ?_) (fun e w1 h1 hm o1 => ⟨e, w1, (hres.symm.trans (PM.bind_err hm)), rfl, o1⟩)
  subst hv
  have hE : listA sep (one z) (r.length + 1) [a] r = res := (PM.bind_ok (f := fun a ts => listA sep (one z) (ts.length + 1) [a] ts) hm).symm.trans hres
  (refine RunVC.lit o1 sl42 ty9 rfl rfl (by decide) (And.intro rfl ?_); intro b20 m20 o20)
  have or := Own.boxRow (by assumption) 2 rfl 1 1 1 rfl (Nat.le_refl _) (by decide)
  refine LoopVC.intro [7, 11, 12, 13, 14, 15, 16, 17, 18] [7] (fun vs hh => ∃ (f : Nat) (acc : List (List UInt8)) (q : List Tok) (w' : Value) (va : Option Addr) (vc : Nat), vs = [.slice va acc.length vc] ∧ listA sep (one z) f acc q = res ∧ q.length < f ∧ 1 ≤ acc.length ∧ acc.length + q.length ≤ ts.length + 1 ∧ TokR tk w' q ∧ Own B [box bp [w', .int .i64 z] 68, tk, row (.slice va acc.length vc) 9 1 acc.length (acc.flatMap strC)] hh) (fun vs _ => match vs with | [.slice _ n _] => 6000 - n | _ => 0) ?_ ?_
  · exact ⟨r.length + 1, [a], r, w1, _, _, rfl, hE, by omega, by simp, by simp; omega, hR1, or⟩
  · rintro vs junk hh ⟨f, acc, q, w', va, vc, rfl, hE, hf, hac1, hac, hR', oh⟩
    obtain ⟨f, rfl⟩ : ∃ f', f = f' + 1 := ⟨f - 1, by omega⟩
    refine (ptake_spec sep).call (oh.lend [0, 1] [2] rfl) hR' (by omega) (fun b q2 w2 v h2 hm hv hle2 hR2 o2 => ?_) (fun e w2 h2 hm o2 => absurd hm (takeB_ok sep q e))
    subst hv
    have o2 := o2.back
    cases b with
    | false =>
      rw [listA_no hm] at hE
      refine Br.ff ?_
      refine RetVC.one rfl ?_
      refine ⟨acc, q2, w2, _, hE.symm, ⟨by omega, rfl⟩, by omega, hR2, o2.sel [0, 1, 2] rfl⟩
    | true =>
      have hlt := takeB_lt hm
      rw [listA_yes hm] at hE
      refine Br.tt ?_
      refine RegVC.plain ?_
      refine hone.call (o2.lend [0, 1] [2] rfl) hR2 (by omega) (fun a r3 w3 v h3 hm3 hv hle3 hR3 o3 => ?_) (fun e w3 h3 hm3 o3 => ⟨e, w3, (hE.symm.trans (PM.bind_err hm3)), rfl, o3.back.sel [0, 1] rfl⟩)
      subst hv
      rw [PM.bind_ok hm3] at hE
      have o3 := o3.back
      (refine RunVC.lit o3 sl42 ty9 rfl rfl (by decide) (And.intro rfl ?_); intro b60 m60 o60)
      (refine RunVC.append o60 2 rfl sl42 ty9 (by decide) (o60.boxArr 3 rfl (by simp) (by simp)).toN (by simp [Value.oneCell']) (by simp only [maxLen]; first | omega | (simp; omega)) (by first | omega | (simp; omega)) ?_; intro v61 m61 o61)
      refine ⟨rfl, ?_⟩
      obtain ⟨ua, uc, rfl⟩ := o61.rowIs 2 rfl
      refine ⟨⟨f, acc ++ [a], r3, w3, ua, uc, by simp, hE, by omega, by simp, by simp; omega, hR3, ?_⟩, by simp; omega⟩
      have e1 : (acc ++ [a]).flatMap strC = acc.flatMap strC ++ strC a := by rw [List.flatMap_append, List.flatMap_cons, List.flatMap_nil, List.append_nil]
      have e2 : (acc ++ [a]).length = acc.length + 1 := by simp
      rw [e1, e2]
      exact Own.sel (by assumption) [0, 1, 2] rfl

set_option maxHeartbeats 8000000 in
set_option maxRecDepth 100000 in
theorem listC_spec (g : FuncId) (one : Nat → PM Cnd) (hone : PSpec g (fun bp => [.pointer (some ⟨bp, 0, none⟩)]) one (fun a v => v = .agg ⟨cndC a⟩)) (sep : List UInt8) (B : Base) (bp z : Nat) (tk : Item) (w : Value) (ts : List Tok) (h : Heap) (o : Own B (PSt bp z w tk) h) (hR : TokR tk w ts) (hl : ts.length ≤ 5000) :
    Spec Tryz.prog 105 [.pointer (some ⟨bp, 0, none⟩), .string ⟨⟨sep⟩⟩, .func (.func g) ⟨[.pointer (some ⟨bp, 0, none⟩)]⟩ ⟨[]⟩] h (PEndI B bp z tk ts.length (listP sep (one z) ts) (fun l v I => l.length ≤ 5001 ∧ I = row v 58 14 l.length (l.flatMap cndC))) := by
  refine Spec.enter Tryz.func105 rfl Tryz.ntmps105 (by kernel_rfl) ?_
  generalize hres : listP sep (one z) ts = res
  refine RegVC.plain ?_
  refine hone.call o hR hl (fun a r w1 v h1 hm hv hle hR1 o1 => ?_) (fun e w1 h1 hm o1 => ⟨e, w1, (hres.symm.trans (PM.bind_err hm)), rfl, o1⟩)
  subst hv
  have hE : listA sep (one z) (r.length + 1) [a] r = res := (PM.bind_ok (f := fun a ts => listA sep (one z) (ts.length + 1) [a] ts) hm).symm.trans hres
  (refine RunVC.litN o1 sl46 ty58 rfl rfl (by decide) ?_)
  refine And.intro rfl ?_
  intro b21 m21 o21
  have or := Own.boxRow (by assumption) 2 rfl 14 1 1 rfl (Nat.le_refl _) (by decide)
  refine LoopVC.intro [7, 11, 12, 13, 14, 15, 16, 17, 18] [7] (fun vs hh => ∃ (f : Nat) (acc : List Cnd) (q : List Tok) (w' : Value) (va : Option Addr) (vc : Nat), vs = [.slice va acc.length vc] ∧ listA sep (one z) f acc q = res ∧ q.length < f ∧ 1 ≤ acc.length ∧ acc.length + q.length ≤ ts.length + 1 ∧ TokR tk w' q ∧ Own B [box bp [w', .int .i64 z] 68, tk, row (.slice va acc.length vc) 58 14 acc.length (acc.flatMap cndC)] hh) (fun vs _ => match vs with | [.slice _ n _] => 6000 - n | _ => 0) ?_ ?_
  · exact ⟨r.length + 1, [a], r, w1, _, _, rfl, hE, by omega, by simp, by simp; omega, hR1, or⟩
  · rintro vs junk hh ⟨f, acc, q, w', va, vc, rfl, hE, hf, hac1, hac, hR', oh⟩
    obtain ⟨f, rfl⟩ : ∃ f', f = f' + 1 := ⟨f - 1, by omega⟩
    refine (ptake_spec sep).call (oh.lend [0, 1] [2] rfl) hR' (by omega) (fun b q2 w2 v h2 hm hv hle2 hR2 o2 => ?_) (fun e w2 h2 hm o2 => absurd hm (takeB_ok sep q e))
    subst hv
    have o2 := o2.back
    cases b with
    | false =>
      rw [listA_no hm] at hE
      refine Br.ff ?_
      refine RetVC.one rfl ?_
      refine ⟨acc, q2, w2, _, hE.symm, ⟨by omega, rfl⟩, by omega, hR2, o2.sel [0, 1, 2] rfl⟩
    | true =>
      have hlt := takeB_lt hm
      rw [listA_yes hm] at hE
      refine Br.tt ?_
      refine RegVC.plain ?_
      refine hone.call (o2.lend [0, 1] [2] rfl) hR2 (by omega) (fun a r3 w3 v h3 hm3 hv hle3 hR3 o3 => ?_) (fun e w3 h3 hm3 o3 => ⟨e, w3, (hE.symm.trans (PM.bind_err hm3)), rfl, o3.back.sel [0, 1] rfl⟩)
      subst hv
      rw [PM.bind_ok hm3] at hE
      have o3 := o3.back
      (refine RunVC.litN o3 sl46 ty58 rfl rfl (by decide) ?_)
      refine And.intro rfl ?_
      intro b61 m61 o61
      refine RunVC.append (by assumption) 2 rfl sl46 ty58 (by decide) (Own.boxArrN (by assumption) 3 rfl (n := 1) rfl (by omega)) (by simp [Value.oneCell']) (by simp only [maxLen]; omega) (by omega) ?_
      intro v65 m65 o65
      obtain ⟨ua, uc, rfl⟩ := o65.rowIs 2 rfl
      refine ⟨rfl, ?_⟩
      refine ⟨⟨f, acc ++ [a], r3, w3, ua, uc, by simp, hE, by omega, by simp, by simp; omega, hR3, ?_⟩, by simp; omega⟩
      have e1 : (acc ++ [a]).flatMap cndC = acc.flatMap cndC ++ cndC a := by rw [List.flatMap_append, List.flatMap_cons, List.flatMap_nil, List.append_nil]
      have e2 : (acc ++ [a]).length = acc.length + 1 := by simp
      rw [e1, e2]
      exact Own.sel (by assumption) [0, 1, 2] rfl

set_option maxHeartbeats 8000000 in
set_option maxRecDepth 100000 in
theorem listK_spec (g : FuncId) (one : Nat → PM Col) (hone : PSpec g (fun bp => [.pointer (some ⟨bp, 0, none⟩)]) one (fun a v => v = .agg ⟨colC a⟩)) (sep : List UInt8) (B : Base) (bp z : Nat) (tk : Item) (w : Value) (ts : List Tok) (h : Heap) (o : Own B (PSt bp z w tk) h) (hR : TokR tk w ts) (hl : ts.length ≤ 5000) :
    Spec Tryz.prog 75 [.pointer (some ⟨bp, 0, none⟩), .string ⟨⟨sep⟩⟩, .func (.func g) ⟨[.pointer (some ⟨bp, 0, none⟩)]⟩ ⟨[]⟩] h (PEndI B bp z tk ts.length (listP sep (one z) ts) (fun l v I => l.length ≤ 5001 ∧ I = row v 122 5 l.length (l.flatMap colC))) := by
  refine Spec.enter Tryz.func75 rfl Tryz.ntmps75 (by kernel_rfl) ?_
  generalize hres : listP sep (one z) ts = res
  refine RegVC.plain ?_
  refine hone.call o hR hl (fun a r w1 v h1 hm hv hle hR1 o1 => ?_) (fun e w1 h1 hm o1 => ⟨e, w1, (hres.symm.trans (PM.bind_err hm)), rfl, o1⟩)
  subst hv
  have hE : listA sep (one z) (r.length + 1) [a] r = res := (PM.bind_ok (f := fun a ts => listA sep (one z) (ts.length + 1) [a] ts) hm).symm.trans hres
  (refine RunVC.litN o1 sl41 ty122 rfl rfl (by decide) ?_)
  refine And.intro rfl ?_
  intro b21 m21 o21
  have or := Own.boxRow (by assumption) 2 rfl 5 1 1 rfl (Nat.le_refl _) (by decide)
  refine LoopVC.intro [7, 11, 12, 13, 14, 15, 16, 17, 18] [7] (fun vs hh => ∃ (f : Nat) (acc : List Col) (q : List Tok) (w' : Value) (va : Option Addr) (vc : Nat), vs = [.slice va acc.length vc] ∧ listA sep (one z) f acc q = res ∧ q.length < f ∧ 1 ≤ acc.length ∧ acc.length + q.length ≤ ts.length + 1 ∧ TokR tk w' q ∧ Own B [box bp [w', .int .i64 z] 68, tk, row (.slice va acc.length vc) 122 5 acc.length (acc.flatMap colC)] hh) (fun vs _ => match vs with | [.slice _ n _] => 6000 - n | _ => 0) ?_ ?_
  · exact ⟨r.length + 1, [a], r, w1, _, _, rfl, hE, by omega, by simp, by simp; omega, hR1, or⟩
  · rintro vs junk hh ⟨f, acc, q, w', va, vc, rfl, hE, hf, hac1, hac, hR', oh⟩
    obtain ⟨f, rfl⟩ : ∃ f', f = f' + 1 := ⟨f - 1, by omega⟩
    refine (ptake_spec sep).call (oh.lend [0, 1] [2] rfl) hR' (by omega) (fun b q2 w2 v h2 hm hv hle2 hR2 o2 => ?_) (fun e w2 h2 hm o2 => absurd hm (takeB_ok sep q e))
    subst hv
    have o2 := o2.back
    cases b with
    | false =>
      rw [listA_no hm] at hE
      refine Br.ff ?_
      refine RetVC.one rfl ?_
      refine ⟨acc, q2, w2, _, hE.symm, ⟨by omega, rfl⟩, by omega, hR2, o2.sel [0, 1, 2] rfl⟩
    | true =>
      have hlt := takeB_lt hm
      rw [listA_yes hm] at hE
      refine Br.tt ?_
      refine RegVC.plain ?_
      refine hone.call (o2.lend [0, 1] [2] rfl) hR2 (by omega) (fun a r3 w3 v h3 hm3 hv hle3 hR3 o3 => ?_) (fun e w3 h3 hm3 o3 => ⟨e, w3, (hE.symm.trans (PM.bind_err hm3)), rfl, o3.back.sel [0, 1] rfl⟩)
      subst hv
      rw [PM.bind_ok hm3] at hE
      have o3 := o3.back
      (refine RunVC.litN o3 sl41 ty122 rfl rfl (by decide) ?_)
      refine And.intro rfl ?_
      intro b61 m61 o61
      refine RunVC.append (by assumption) 2 rfl sl41 ty122 (by decide) (Own.boxArrN (by assumption) 3 rfl (n := 1) rfl (by omega)) (by simp [Value.oneCell']) (by simp only [maxLen]; omega) (by omega) ?_
      intro v65 m65 o65
      obtain ⟨ua, uc, rfl⟩ := o65.rowIs 2 rfl
      refine ⟨rfl, ?_⟩
      refine ⟨⟨f, acc ++ [a], r3, w3, ua, uc, by simp, hE, by omega, by simp, by simp; omega, hR3, ?_⟩, by simp; omega⟩
      have e1 : (acc ++ [a]).flatMap colC = acc.flatMap colC ++ colC a := by rw [List.flatMap_append, List.flatMap_cons, List.flatMap_nil, List.append_nil]
      have e2 : (acc ++ [a]).length = acc.length + 1 := by simp
      rw [e1, e2]
      exact Own.sel (by assumption) [0, 1, 2] rfl

set_option maxHeartbeats 8000000 in
set_option maxRecDepth 100000 in
theorem listN_spec (g : FuncId) (one : Nat → PM Nmd) (hone : PSpec g (fun bp => [.pointer (some ⟨bp, 0, none⟩)]) one (fun a v => v = .agg ⟨nmdC a⟩)) (sep : List UInt8) (B : Base) (bp z : Nat) (tk : Item) (w : Value) (ts : List Tok) (h : Heap) (o : Own B (PSt bp z w tk) h) (hR : TokR tk w ts) (hl : ts.length ≤ 5000) :
    Spec Tryz.prog 82 [.pointer (some ⟨bp, 0, none⟩), .string ⟨⟨sep⟩⟩, .func (.func g) ⟨[.pointer (some ⟨bp, 0, none⟩)]⟩ ⟨[]⟩] h (PEndI B bp z tk ts.length (listP sep (one z) ts) (fun l v I => l.length ≤ 5001 ∧ I = row v 105 4 l.length (l.flatMap nmdC))) := by
  refine Spec.enter Tryz.func82 rfl Tryz.ntmps82 (by kernel_rfl) ?_
  generalize hres : listP sep (one z) ts = res
  refine RegVC.plain ?_
  refine hone.call o hR hl (fun a r w1 v h1 hm hv hle hR1 o1 => ?_) (fun e w1 h1 hm o1 => ⟨e, w1, (hres.symm.trans (PM.bind_err hm)), rfl, o1⟩)
  subst hv
  have hE : listA sep (one z) (r.length + 1) [a] r = res := (PM.bind_ok (f := fun a ts => listA sep (one z) (ts.length + 1) [a] ts) hm).symm.trans hres
  (refine RunVC.litN o1 sl44 ty105 rfl rfl (by decide) ?_)
  refine And.intro rfl ?_
  intro b21 m21 o21
  have or := Own.boxRow (by assumption) 2 rfl 4 1 1 rfl (Nat.le_refl _) (by decide)
  refine LoopVC.intro [7, 11, 12, 13, 14, 15, 16, 17, 18] [7] (fun vs hh => ∃ (f : Nat) (acc : List Nmd) (q : List Tok) (w' : Value) (va : Option Addr) (vc : Nat), vs = [.slice va acc.length vc] ∧ listA sep (one z) f acc q = res ∧ q.length < f ∧ 1 ≤ acc.length ∧ acc.length + q.length ≤ ts.length + 1 ∧ TokR tk w' q ∧ Own B [box bp [w', .int .i64 z] 68, tk, row (.slice va acc.length vc) 105 4 acc.length (acc.flatMap nmdC)] hh) (fun vs _ => match vs with | [.slice _ n _] => 6000 - n | _ => 0) ?_ ?_
  · exact ⟨r.length + 1, [a], r, w1, _, _, rfl, hE, by omega, by simp, by simp; omega, hR1, or⟩
  · rintro vs junk hh ⟨f, acc, q, w', va, vc, rfl, hE, hf, hac1, hac, hR', oh⟩
    obtain ⟨f, rfl⟩ : ∃ f', f = f' + 1 := ⟨f - 1, by omega⟩
    refine (ptake_spec sep).call (oh.lend [0, 1] [2] rfl) hR' (by omega) (fun b q2 w2 v h2 hm hv hle2 hR2 o2 => ?_) (fun e w2 h2 hm o2 => absurd hm (takeB_ok sep q e))
    subst hv
    have o2 := o2.back
    cases b with
    | false =>
      rw [listA_no hm] at hE
      refine Br.ff ?_
      refine RetVC.one rfl ?_
      refine ⟨acc, q2, w2, _, hE.symm, ⟨by omega, rfl⟩, by omega, hR2, o2.sel [0, 1, 2] rfl⟩
    | true =>
      have hlt := takeB_lt hm
      rw [listA_yes hm] at hE
      refine Br.tt ?_
      refine RegVC.plain ?_
      refine hone.call (o2.lend [0, 1] [2] rfl) hR2 (by omega) (fun a r3 w3 v h3 hm3 hv hle3 hR3 o3 => ?_) (fun e w3 h3 hm3 o3 => ⟨e, w3, (hE.symm.trans (PM.bind_err hm3)), rfl, o3.back.sel [0, 1] rfl⟩)
      subst hv
      rw [PM.bind_ok hm3] at hE
      have o3 := o3.back
      (refine RunVC.litN o3 sl44 ty105 rfl rfl (by decide) ?_)
      refine And.intro rfl ?_
      intro b61 m61 o61
      refine RunVC.append (by assumption) 2 rfl sl44 ty105 (by decide) (Own.boxArrN (by assumption) 3 rfl (n := 1) rfl (by omega)) (by simp [Value.oneCell']) (by simp only [maxLen]; omega) (by omega) ?_
      intro v65 m65 o65
      obtain ⟨ua, uc, rfl⟩ := o65.rowIs 2 rfl
      refine ⟨rfl, ?_⟩
      refine ⟨⟨f, acc ++ [a], r3, w3, ua, uc, by simp, hE, by omega, by simp, by simp; omega, hR3, ?_⟩, by simp; omega⟩
      have e1 : (acc ++ [a]).flatMap nmdC = acc.flatMap nmdC ++ nmdC a := by rw [List.flatMap_append, List.flatMap_cons, List.flatMap_nil, List.append_nil]
      have e2 : (acc ++ [a]).length = acc.length + 1 := by simp
      rw [e1, e2]
      exact Own.sel (by assumption) [0, 1, 2] rfl

set_option maxHeartbeats 8000000 in
set_option maxRecDepth 100000 in
theorem listV_spec (g : FuncId) (one : Nat → PM Vr) (hone : PSpec g (fun bp => [.pointer (some ⟨bp, 0, none⟩)]) one (fun a v => v = .agg ⟨vrC a⟩)) (sep : List UInt8) (B : Base) (bp z : Nat) (tk : Item) (w : Value) (ts : List Tok) (h : Heap) (o : Own B (PSt bp z w tk) h) (hR : TokR tk w ts) (hl : ts.length ≤ 5000) :
    Spec Tryz.prog 84 [.pointer (some ⟨bp, 0, none⟩), .string ⟨⟨sep⟩⟩, .func (.func g) ⟨[.pointer (some ⟨bp, 0, none⟩)]⟩ ⟨[]⟩] h (PEndI B bp z tk ts.length (listP sep (one z) ts) (fun l v I => l.length ≤ 5001 ∧ I = row v 108 2 l.length (l.flatMap vrC))) := by
  refine Spec.enter Tryz.func84 rfl Tryz.ntmps84 (by kernel_rfl) ?_
  generalize hres : listP sep (one z) ts = res
  refine RegVC.plain ?_
  refine hone.call o hR hl (fun a r w1 v h1 hm hv hle hR1 o1 => ?_) (fun e w1 h1 hm o1 => ⟨e, w1, (hres.symm.trans (PM.bind_err hm)), rfl, o1⟩)
  subst hv
  have hE : listA sep (one z) (r.length + 1) [a] r = res := (PM.bind_ok (f := fun a ts => listA sep (one z) (ts.length + 1) [a] ts) hm).symm.trans hres
  (refine RunVC.litN o1 sl45 ty108 rfl rfl (by decide) ?_)
  refine And.intro rfl ?_
  intro b21 m21 o21
  have or := Own.boxRow (by assumption) 2 rfl 2 1 1 rfl (Nat.le_refl _) (by decide)
  refine LoopVC.intro [7, 11, 12, 13, 14, 15, 16, 17, 18] [7] (fun vs hh => ∃ (f : Nat) (acc : List Vr) (q : List Tok) (w' : Value) (va : Option Addr) (vc : Nat), vs = [.slice va acc.length vc] ∧ listA sep (one z) f acc q = res ∧ q.length < f ∧ 1 ≤ acc.length ∧ acc.length + q.length ≤ ts.length + 1 ∧ TokR tk w' q ∧ Own B [box bp [w', .int .i64 z] 68, tk, row (.slice va acc.length vc) 108 2 acc.length (acc.flatMap vrC)] hh) (fun vs _ => match vs with | [.slice _ n _] => 6000 - n | _ => 0) ?_ ?_
  · exact ⟨r.length + 1, [a], r, w1, _, _, rfl, hE, by omega, by simp, by simp; omega, hR1, or⟩
  · rintro vs junk hh ⟨f, acc, q, w', va, vc, rfl, hE, hf, hac1, hac, hR', oh⟩
    obtain ⟨f, rfl⟩ : ∃ f', f = f' + 1 := ⟨f - 1, by omega⟩
    refine (ptake_spec sep).call (oh.lend [0, 1] [2] rfl) hR' (by omega) (fun b q2 w2 v h2 hm hv hle2 hR2 o2 => ?_) (fun e w2 h2 hm o2 => absurd hm (takeB_ok sep q e))
    subst hv
    have o2 := o2.back
    cases b with
    | false =>
      rw [listA_no hm] at hE
      refine Br.ff ?_
      refine RetVC.one rfl ?_
      refine ⟨acc, q2, w2, _, hE.symm, ⟨by omega, rfl⟩, by omega, hR2, o2.sel [0, 1, 2] rfl⟩
    | true =>
      have hlt := takeB_lt hm
      rw [listA_yes hm] at hE
      refine Br.tt ?_
      refine RegVC.plain ?_
      refine hone.call (o2.lend [0, 1] [2] rfl) hR2 (by omega) (fun a r3 w3 v h3 hm3 hv hle3 hR3 o3 => ?_) (fun e w3 h3 hm3 o3 => ⟨e, w3, (hE.symm.trans (PM.bind_err hm3)), rfl, o3.back.sel [0, 1] rfl⟩)
      subst hv
      rw [PM.bind_ok hm3] at hE
      have o3 := o3.back
      (refine RunVC.litN o3 sl45 ty108 rfl rfl (by decide) ?_)
      refine And.intro rfl ?_
      intro b61 m61 o61
      refine RunVC.append (by assumption) 2 rfl sl45 ty108 (by decide) (Own.boxArrN (by assumption) 3 rfl (n := 1) rfl (by omega)) (by simp [Value.oneCell']) (by simp only [maxLen]; omega) (by omega) ?_
      intro v65 m65 o65
      obtain ⟨ua, uc, rfl⟩ := o65.rowIs 2 rfl
      refine ⟨rfl, ?_⟩
      refine ⟨⟨f, acc ++ [a], r3, w3, ua, uc, by simp, hE, by omega, by simp, by simp; omega, hR3, ?_⟩, by simp; omega⟩
      have e1 : (acc ++ [a]).flatMap vrC = acc.flatMap vrC ++ vrC a := by rw [List.flatMap_append, List.flatMap_cons, List.flatMap_nil, List.append_nil]
      have e2 : (acc ++ [a]).length = acc.length + 1 := by simp
      rw [e1, e2]
      exact Own.sel (by assumption) [0, 1, 2] rfl

end Go.Proofs.YtnmfanjhepepbaaGreatDoor
