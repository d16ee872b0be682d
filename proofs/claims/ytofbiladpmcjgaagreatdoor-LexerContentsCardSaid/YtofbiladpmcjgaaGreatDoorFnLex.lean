/-
  Lex.
-/
import Derived.Test.YtofbiladpmcjgaaGreatDoorStructs
import Derived.Test.YtofbiladpmcjgaaGreatDoorFnLexD
namespace Go.Proofs.YtofbiladpmcjgaaGreatDoor
open Go

/-- A token with its offset. -/
structure Tok where
  kind : Int
  text : List UInt8
  num : Int
  off : Nat

def tokC (t : Tok) : List Value := [.int .i64 t.kind, .string ⟨⟨t.text⟩⟩, .int .i64 t.num, .int .i64 t.off]

/-- The first reader that finds something. -/
def readN : List (List UInt8 → Rd) → List UInt8 → Rd
  | [], _ => .err 5
  | r :: rs, l => match r l with
    | .none => readN rs l
    | x => x

def readers : List (List UInt8 → Rd) := [nameR, numberR, quotedR, symbolR]
def readR (l : List UInt8) : Rd := readN readers l

/-- The tokens of a text from an offset on, when there are k already. -/
def lexGo : Nat → List UInt8 → Nat → Nat → Except (Int × Nat) (List Tok)
  | 0, _, _, _ => .ok []
  | f + 1, l, i, k => match l with
    | [] => .ok []
    | c :: r => match readR (c :: r) with
      | .err e => .error (e, i)
      | .none => .error (5, i)
      | .tok kd x n len => if k = 5000 then .error (3, i) else
        match lexGo f ((c :: r).drop (len + gapF false ((c :: r).drop len))) (i + (len + gapF false ((c :: r).drop len))) (k + 1) with
        | .error e => .error e
        | .ok ts => .ok (⟨kd, x, n, i⟩ :: ts)

/-- The tokens of a text without its first gaps. -/
def lexM (t : List UInt8) : Except (Int × Nat) (List Tok) := lexGo t.length (t.drop (gapF false t)) (gapF false t) 0

def consR (acc : List Tok) : Except (Int × Nat) (List Tok) → Except (Int × Nat) (List Tok)
  | .error e => .error e
  | .ok ts => .ok (acc ++ ts)

theorem lexGo_tok {f : Nat} {l : List UInt8} {i k len : Nat} {kd n : Int} {x : List UInt8} (hl : l ≠ []) (hr : readR l = .tok kd x n len) (hk : k ≠ 5000) (acc : List Tok) :
    consR acc (lexGo (f + 1) l i k) = consR (acc ++ [⟨kd, x, n, i⟩]) (lexGo f (l.drop (len + gapF false (l.drop len))) (i + (len + gapF false (l.drop len))) (k + 1)) := by
  cases l with
  | nil => exact absurd rfl hl
  | cons c r =>
    rw [lexGo, hr]
    simp only [if_neg hk]
    cases lexGo f _ _ _ with
    | error e => rfl
    | ok ts => simp [consR]

theorem lexGo_full {f : Nat} {l : List UInt8} {i len : Nat} {kd n : Int} {x : List UInt8} (hl : l ≠ []) (hr : readR l = .tok kd x n len) :
    lexGo (f + 1) l i 5000 = .error (3, i) := by
  cases l with
  | nil => exact absurd rfl hl
  | cons c r => rw [lexGo, hr]; rfl

theorem lexGo_err {f : Nat} {l : List UInt8} {i k : Nat} {e : Int} (hl : l ≠ []) (hr : readR l = .err e) :
    lexGo (f + 1) l i k = .error (e, i) := by
  cases l with
  | nil => exact absurd rfl hl
  | cons c r => rw [lexGo, hr]

theorem lexGo_nil (f i k : Nat) : lexGo f [] i k = .ok [] := by
  cases f <;> rfl

theorem quoF_len : ∀ (l acc : List UInt8) (k : Nat) {kd n : Int} {x : List UInt8} {len : Nat}, quoF l acc k = .tok kd x n len → k + 2 ≤ len ∧ len ≤ k + 1 + l.length
  | [], _, _, _, _, _, _, h => by cases h
  | [c], acc, k, _, _, _, _, h => by
    rw [quoF] at h
    split at h
    · split at h
      · cases h
      · injection h with _ _ _ e; subst e; simp
    · split at h <;> cases h
  | c :: d :: r, acc, k, _, _, _, _, h => by
    rw [quoF] at h
    split at h
    · split at h
      · cases h
      · injection h with _ _ _ e; subst e; simp; omega
    · split at h
      · cases h
      · split at h
        · split at h
          · cases h
          · have := quoF_len r _ _ h; simp; omega
        · have := quoF_len (d :: r) _ _ h; simp at this ⊢; omega

theorem spanN_pos {p : UInt8 → Bool} {c : UInt8} {r : List UInt8} (h : p c = true) : 1 ≤ spanN p (c :: r) := by
  unfold spanN; rw [List.takeWhile_cons, h]; simp

theorem readR_len {l : List UInt8} {kd n : Int} {x : List UInt8} {len : Nat} (h : readR l = .tok kd x n len) : 1 ≤ len ∧ len ≤ l.length := by
  have h1 := spanN_le innerB l
  have h2 := spanN_le digitB l
  unfold readR readers readN at h
  split at h
  · unfold readN at h
    split at h
    · unfold readN at h
      split at h
      · unfold readN at h
        split at h
        · cases h
        · unfold symbolR at h
          split at h
          · cases h
          · rename_i hs
            injection h with _ _ _ e
            subst e
            refine ⟨by omega, ?_⟩
            unfold symN
            split
            · rename_i hh
              rcases hh with hh | hh
              · exact hasPrefix_len hh
              · exact hasPrefix_len hh
            · split
              · simp
              · split <;> simp
      · unfold quotedR at h
        split at h
        · cases h
        · split at h
          · have := quoF_len _ _ _ h
            simp; omega
          · cases h
    · unfold numberR at h
      split at h
      · cases h
      · split at h
        · cases h
        · injection h with _ _ _ e
          omega
  · cases l with
    | nil => cases h
    | cons c r =>
      simp only [nameR] at h
      split at h
      · rename_i hc
        split at h
        · cases h
        · injection h with _ _ _ e
          have := spanN_pos (p := innerB) (c := c) (r := r) (by unfold innerB; rw [hc]; rfl)
          omega
      · cases h

/-- What Lex returns. -/
def LexPost (h : Heap) (t : List UInt8) (v : Value) (h' : Heap) : Prop :=
  if 20000 < t.length then v = .tuple ⟨[.slice none 0 0, .int .i64 3, .int .i64 (-1)]⟩ ∧ Own h [] h'
  else match lexM t with
    | .error (e, i) => v = .tuple ⟨[.slice none 0 0, .int .i64 e, .int .i64 i]⟩ ∧ Own h [] h'
    | .ok ts => ∃ u, v = .tuple ⟨[u, .int .i64 0, .int .i64 0]⟩ ∧ Own h [row u 35 4 ts.length (ts.flatMap tokC)] h'

def fnV (b : Nat) (f : FuncId) : Value := .func (.func f) ⟨[.pointer (some ⟨b, 0, none⟩)]⟩ ⟨[]⟩

def fnsV (b : Nat) : List Value := [fnV b 11, fnV b 12, fnV b 13, fnV b 14]

theorem reader_at (b : Nat) (t : List UInt8) (q : Nat) (hq : q < 4) : ∃ g r, (fnsV b)[q]? = some (fnV b g) ∧ readers.drop q = r :: readers.drop (q + 1) ∧
    ∀ (i : Nat) (h : Heap), i < t.length → t.length ≤ 1000000 → cellAt h ⟨b, 0, none⟩ = some (.string ⟨⟨t⟩⟩) → cellAt h ⟨b, 1, none⟩ = some (.int .i64 i) → Spec Tryz.prog g [.pointer (some ⟨b, 0, none⟩)] h (RdE h i (r (t.drop i))) := by
  match q, hq with
  | 0, _ => exact ⟨_, _, rfl, rfl, fun i h hi hl h0 h1 => name_spec b t i h hi hl h0 h1⟩
  | 1, _ => exact ⟨_, _, rfl, rfl, fun i h hi hl h0 h1 => number_spec b t i h hi hl h0 h1⟩
  | 2, _ => exact ⟨_, _, rfl, rfl, fun i h hi hl h0 h1 => quoted_spec b t i h hi hl h0 h1⟩
  | 3, _ => exact ⟨_, _, rfl, rfl, fun i h hi hl h0 h1 => symbol_spec b t i h hi hl h0 h1⟩

set_option maxHeartbeats 4000000 in
set_option maxRecDepth 100000 in
theorem lex_spec (t : List UInt8) (h : Heap) (hl : t.length ≤ 9223372036854775807) :
    SpecR Tryz.prog 6 [.string ⟨⟨t⟩⟩] h (LexPost h t) := by
  refine Spec.enterD Tryz.func6 rfl (n := 77) (by kernel_rfl) (by kernel_rfl) ?_
  have o0 := Own.refl h
  by_cases hbig : 20000 < t.length
  · (refine RunVC.alloc o0 ty23 ?_; intro b10 m10 o10)
    (refine RunVC.alloc o10 ty24 ?_; intro b11 m11 o11)
    (refine RunVC.alloc o11 ty3 ?_; intro b12 m12 o12)
    refine StillVC.run (StillVC.lenS rfl str9 ?_)
    refine Br.dec (fun c14 => ?_) (fun hc => absurd (by omega) hc)
    (refine RunVC.storeL o12 0 rfl ty23 rfl (by decide) (And.intro ⟨rfl, rfl⟩ ?_); intro m15 o15)
    (refine RunVC.storeL o15 1 rfl ty24 rfl (by decide) (And.intro ⟨rfl, rfl⟩ ?_); intro m16 o16)
    (refine RunVC.storeL o16 2 rfl ty3 rfl (by decide) (And.intro ⟨rfl, rfl⟩ ?_); intro m17 o17)
    refine RetVC.cell3 rfl ty23 ty24 ty3 rfl rfl rfl (o17.cellB 0 rfl 0) (o17.cellB 1 rfl 0) (o17.cellB 2 rfl 0) ?_
    show LexPost h t _ _
    rw [LexPost, if_pos hbig]
    exact ⟨rfl, o17.sel [] rfl⟩
  · have hP : ∀ v h', LexPost h t v h' = _ := fun v h' => by rw [LexPost, if_neg hbig]
    (refine RunVC.alloc o0 ty23 ?_; intro b20 m20 o20)
    (refine RunVC.alloc o20 ty24 ?_; intro b21 m21 o21)
    (refine RunVC.alloc o21 ty3 ?_; intro b22 m22 o22)
    refine StillVC.run (StillVC.lenS rfl str9 ?_)
    refine Br.dec (fun hc => absurd hc (by omega)) (fun c24 => ?_)
    refine DeferVC.closure (by simp) ?_
    refine StillVC.run (StillVC.buildK st42 ?_)
    refine And.intro rfl ?_
    (refine RunVC.boxO o22 rfl ?_; intro b31 m31 o31)
    refine StillVC.run (StillVC.makeFn ?_)
    refine StillVC.run (StillVC.makeFn ?_)
    refine StillVC.run (StillVC.makeFn ?_)
    refine StillVC.run (StillVC.makeFn ?_)
    refine StillVC.run (StillVC.buildA arr44 ty44 rfl rfl rfl (And.intro rfl ?_))
    refine StillVC.run (StillVC.buildK st46 ?_)
    refine And.intro rfl ?_
    (refine RunVC.alloc o31 ty46 ?_; intro b38 m38 o38)
    (refine RunVC.storeL o38 4 rfl ty46 rfl (by decide) (And.intro ⟨rfl, rfl⟩ ?_); intro m39 o39)
    have ol := o39.lend [3] [0, 1, 2, 4] rfl
    refine CallVC.ret (skip_spec _ b31 t 0 _ (by omega) (by omega) ol) ?_
    rintro _ m40 ⟨rfl, os⟩
    have o40 : Own h [box b20 [.slice none 0 0] 23, box b21 [.int .i64 0] 24, box b22 [.int .i64 0] 3, box b31 [.string ⟨⟨t⟩⟩, .int .i64 (0 + gapF false (t.drop 0) : Nat)] 42, box b38 (fnsV b31) 46] m40 := os.back.sel [1, 2, 3, 0, 4] rfl
    have hgle := gapF_le false t
    simp only [Nat.zero_add, List.drop_zero] at o40
    generalize hT : lexM t = T at hP
    have hT0 : consR [] (lexGo (t.length) (t.drop (gapF false t)) (gapF false t) 0) = T := by
      rw [← hT, lexM]
      cases lexGo t.length (t.drop (gapF false t)) (gapF false t) 0 <;> rfl
    have on := o40.nilRow 35 4
    refine LoopVC.intro [8, 9, 10, 30, 31, 32, 33, 34, 35, 36, 37, 38, 39, 40, 41, 42, 43, 44, 45, 46, 47, 48, 49, 50, 51, 52, 53, 54, 55, 56, 57, 58, 59, 60, 61, 62, 63, 64, 65, 66, 67, 68, 69, 70, 71, 72, 73, 74, 75] [] (fun _ hh => ∃ (f j : Nat) (acc : List Tok) (v : Value), j ≤ t.length ∧ t.length ≤ j + f ∧ acc.length ≤ j ∧ acc.length ≤ 5000 ∧ consR acc (lexGo f (t.drop j) j acc.length) = T ∧ Own h [box b20 [v] 23, box b21 [.int .i64 0] 24, box b22 [.int .i64 0] 3, box b31 [.string ⟨⟨t⟩⟩, .int .i64 (j : Nat)] 42, box b38 (fnsV b31) 46, row v 35 4 acc.length (acc.flatMap tokC)] hh) (fun _ hh => leftM b31 t hh) ?_ ?_
    · exact ⟨t.length, gapF false t, [], _, hgle, by omega, by simp, by simp, hT0, on⟩
    · rintro vs junk hh ⟨f, j, acc, v, hj, hf, haj, hac, hQ, oh⟩
      obtain ⟨va, vc, rfl⟩ := oh.rowIs 5 rfl
      by_cases hlt : j < t.length
      · have hdn : t.drop j ≠ [] := fun e => by have := congrArg List.length e; simp at this; omega
        obtain ⟨f, rfl⟩ : ∃ f', f = f' + 1 := ⟨f - 1, by omega⟩
        refine StillVC.run (StillVC.nilCheck rfl ?_)
        refine StillVC.run (StillVC.fieldAddr st42 rfl rfl rfl ?_)
        refine StillVC.run (StillVC.loadO oh 3 rfl ty3 rfl rfl ?_)
        refine StillVC.run (StillVC.lenS rfl str9 ?_)
        refine Br.dec (fun c64 => ?_) (fun hc => absurd (by omega) hc)
        refine StillVC.run (StillVC.fieldAddr st46 rfl rfl rfl ?_)
        refine StillVC.run (StillVC.loadON oh 4 rfl ty44 rfl rfl rfl ?_)
        refine LoopVC.intro [8, 9, 10, 39, 40, 41, 42, 43, 44, 45, 46, 47, 48, 49, 50, 51, 52, 53, 54, 55, 56, 57, 58, 59, 60, 61, 62, 63, 64, 65, 66, 67, 68, 69, 70, 71, 72, 73] [39] (fun vs h2 => ∃ q, q ≤ 4 ∧ vs = [.int .i64 (q : Nat)] ∧ readN (readers.drop q) (t.drop j) = readR (t.drop j) ∧ Own h [box b20 [.slice va acc.length vc] 23, box b21 [.int .i64 0] 24, box b22 [.int .i64 0] 3, box b31 [.string ⟨⟨t⟩⟩, .int .i64 (j : Nat)] 42, box b38 (fnsV b31) 46, row (.slice va acc.length vc) 35 4 acc.length (acc.flatMap tokC)] h2) (fun vs _ => match vs with | [.int _ q] => 4 - q.toNat | _ => 0) ?_ ?_
        · exact ⟨0, by omega, rfl, rfl, oh⟩
        · rintro vs junk h2 ⟨q, hq, rfl, hR, oq⟩
          by_cases hq4 : q < 4
          · obtain ⟨g, r, hg, hd, hsp⟩ := reader_at b31 t q hq4
            rw [hd] at hR
            refine Br.dec (fun c70 => ?_) (fun hc => absurd (by omega) hc)
            refine StillVC.run (StillVC.indexA arr44 rfl rfl (by omega) (by omega) (by first | rfl | assumption) ?_)
            refine RegVC.plain ?_
            refine CallVC.ends (hsp j _ hlt (by omega) (oq.cellB 3 rfl 0) (oq.cellB 3 rfl 1)) ?_ ?_
            · rintro v h3 ⟨hv, oe⟩
              have o3 := oq.ext' oe
              cases hr : r (t.drop j) with
              | err e => rw [hr] at hv; exact hv.elim
              | none =>
                rw [hr] at hv
                obtain ⟨k', x', n', a', rfl⟩ := hv
                have hR' : readN (readers.drop (q + 1)) (t.drop j) = readR (t.drop j) := by rw [← hR, readN, hr]
                (refine RunVC.alloc o3 ty35 ?_; intro b100 m100 o100)
                (refine RunVC.storeL o100 6 rfl ty35 rfl (by decide) (And.intro ⟨rfl, rfl⟩ ?_); intro m101 o101)
                refine Br.tt ?_
                refine Ar.i64 (by omega) (by omega) ?_
                refine ⟨rfl, ?_⟩
                exact ⟨⟨q + 1, by omega, rfl, hR', Own.sel (by assumption) [0, 1, 2, 3, 4, 5] rfl⟩, by simp; omega⟩
              | tok k' x' n' len =>
                rw [hr] at hv
                obtain rfl := hv
                have hR' : readR (t.drop j) = .tok k' x' n' len := by rw [← hR, readN, hr]
                obtain ⟨hl1, hl2⟩ := readR_len hR'
                rw [List.length_drop] at hl2
                by_cases hfull : acc.length = 5000
                · rw [hfull, lexGo_full hdn hR'] at hQ
                  (refine RunVC.alloc o3 ty35 ?_; intro b120 m120 o120)
                  (refine RunVC.storeL o120 6 rfl ty35 rfl (by decide) (And.intro ⟨rfl, rfl⟩ ?_); intro m121 o121)
                  refine Br.dec (fun hc => absurd hc (by omega)) (fun c122 => ?_)
                  refine StillVC.run (StillVC.loadO o121 0 rfl ty23 rfl rfl ?_)
                  refine StillVC.run (StillVC.lenV rfl sl23 ?_)
                  refine Br.dec (fun c125 => ?_) (fun hc => absurd (by omega) hc)
                  refine CallVC.ends (fail_spec 3 b31 t j _ (Own.cellB (by assumption) 3 rfl 1)) (fun _ _ h => h.elim) (fun c h4 ⟨hc, ho⟩ => ?_)
                  subst hc
                  have o5 : Own h [box b20 [.slice va acc.length vc] 23, box b21 [.int .i64 0] 24, box b22 [.int .i64 0] 3] _ := (Own.ext' (by assumption) ho).sel [0, 1, 2] rfl
                  refine leave_err _ _ _ _ b20 b21 b22 _ _ _ 3 j o5 rfl rfl rfl fun h' o' => ?_
                  show LexPost h t _ _
                  rw [hP, ← hQ]
                  exact ⟨rfl, o'⟩
                · rw [lexGo_tok hdn hR' hfull] at hQ
                  (refine RunVC.alloc o3 ty35 ?_; intro b140 m140 o140)
                  (refine RunVC.storeL o140 6 rfl ty35 rfl (by decide) (And.intro ⟨rfl, rfl⟩ ?_); intro m141 o141)
                  refine Br.dec (fun hc => absurd hc (by omega)) (fun c142 => ?_)
                  refine StillVC.run (StillVC.loadO o141 0 rfl ty23 rfl rfl ?_)
                  refine StillVC.run (StillVC.lenV rfl sl23 ?_)
                  refine Br.dec (fun hc => absurd hc (by omega)) (fun c145 => ?_)
                  refine StillVC.run (StillVC.nilCheck rfl ?_)
                  refine StillVC.run (StillVC.fieldAddr st42 rfl rfl rfl ?_)
                  refine StillVC.run (StillVC.loadO o141 3 rfl ty3 rfl rfl ?_)
                  refine StillVC.run (StillVC.fieldAddr st35 rfl rfl rfl ?_)
                  (refine RunVC.store o141 6 rfl ty3 rfl (by simp) (And.intro ⟨rfl, rfl⟩ ?_); intro m150 o150)
                  refine StillVC.run (StillVC.loadO o150 0 rfl ty23 rfl rfl ?_)
                  refine StillVC.run (StillVC.loadON o150 6 rfl ty35 rfl rfl rfl ?_)
                  (refine RunVC.litN o150 sl23 ty35 rfl rfl (by decide) ?_)
                  refine And.intro rfl ?_
                  intro b154 m154 o154
                  refine RunVC.append (by assumption) 5 rfl sl23 ty35 (by decide) (Own.boxArrN (by assumption) 7 rfl (n := 1) rfl (by omega)) (by simp [Value.oneCell']) (by simp only [maxLen]; omega) (by omega) ?_
                  intro v155 m155 o155
                  obtain ⟨ua, uc, rfl⟩ := o155.rowIs 5 rfl
                  (refine RunVC.store o155 0 rfl ty23 rfl (by simp) (And.intro ⟨rfl, rfl⟩ ?_); intro m160 o160)
                  refine StillVC.run (StillVC.nilCheck rfl ?_)
                  refine StillVC.run (StillVC.fieldAddr st42 rfl rfl rfl ?_)
                  refine StillVC.run (StillVC.loadO o160 3 rfl ty3 rfl rfl ?_)
                  refine Ar.i64 (by omega) (by omega) ?_
                  refine StillVC.run (StillVC.nilCheck rfl ?_)
                  refine StillVC.run (StillVC.fieldAddr st42 rfl rfl rfl ?_)
                  (refine RunVC.store o160 3 rfl ty3 rfl (by simp) (And.intro ⟨rfl, rfl⟩ ?_); intro m166 o166)
                  refine CallVC.ret (skip_spec _ b31 t (j + len) _ (by omega) (by omega) (Own.lend (by assumption) [3] [0, 1, 2, 4, 5] rfl)) ?_
                  rintro _ m170 ⟨rfl, os⟩
                  have o170 : Own h [box b20 [.slice ua (acc.length + 1) uc] 23, box b21 [.int .i64 0] 24, box b22 [.int .i64 0] 3, box b31 [.string ⟨⟨t⟩⟩, .int .i64 (j + len + gapF false (t.drop (j + len)) : Nat)] 42, box b38 (fnsV b31) 46, row (.slice ua (acc.length + 1) uc) 35 4 (acc.length + 1) (acc.flatMap tokC ++ tokC ⟨k', x', n', j⟩)] m170 := os.back.sel [1, 2, 3, 0, 4, 5] rfl
                  have hgl := gapF_le false (t.drop (j + len))
                  rw [List.length_drop] at hgl
                  simp only [List.drop_drop] at hQ
                  generalize gapF false (t.drop (j + len)) = gg at *
                  refine ⟨rfl, ?_⟩
                  have hm1 := leftM_of (b := b31) (j := j) (t := t) (ty := 42) (oh.lend [3] [0, 1, 2, 4, 5] rfl)
                  have hm2 := leftM_of (b := b31) (j := j + len + gg) (t := t) (ty := 42) (o170.lend [3] [0, 1, 2, 4, 5] rfl)
                  refine ⟨⟨f, j + len + gg, acc ++ [⟨k', x', n', j⟩], .slice ua (acc.length + 1) uc, by omega, by omega, by simp; omega, by simp; omega, ?_, ?_⟩, ?_⟩
                  · rw [← hQ, List.length_append]
                    simp only [List.length_cons, List.length_nil, Nat.zero_add, Nat.add_assoc]
                  · have e1 : (acc ++ [(⟨k', x', n', j⟩ : Tok)]).length = acc.length + 1 := by simp
                    have e2 : (acc ++ [(⟨k', x', n', j⟩ : Tok)]).flatMap tokC = acc.flatMap tokC ++ tokC ⟨k', x', n', j⟩ := by simp
                    rw [e1, e2]
                    exact o170
                  · rw [hm1, hm2]
                    omega
            · rintro c h3 ⟨hc, oe⟩
              cases hr : r (t.drop j) with
              | err e =>
                rw [hr] at hc
                subst hc
                have hR' : readR (t.drop j) = .err e := by rw [← hR, readN, hr]
                rw [lexGo_err hdn hR'] at hQ
                refine leave_err _ _ _ _ b20 b21 b22 _ _ _ e j ((oq.ext' oe).sel [0, 1, 2] rfl) rfl rfl rfl fun h' o' => ?_
                show LexPost h t _ _
                rw [hP, ← hQ]
                exact ⟨rfl, o'⟩
              | none => rw [hr] at hc; exact hc.elim
              | tok _ _ _ _ => rw [hr] at hc; exact hc.elim
          · obtain rfl : q = 4 := by omega
            refine Br.ff ?_
            refine CallVC.ends (fail_spec 5 b31 t j _ (oq.cellB 3 rfl 1)) (fun _ _ h => h.elim) (fun c h4 ⟨hc, ho⟩ => ?_)
            subst hc
            rw [lexGo_err hdn hR.symm] at hQ
            refine leave_err _ _ _ _ b20 b21 b22 _ _ _ 5 j ((oq.ext' ho).sel [0, 1, 2] rfl) rfl rfl rfl fun h' o' => ?_
            show LexPost h t _ _
            rw [hP, ← hQ]
            exact ⟨rfl, o'⟩
      · have hd : t.drop j = [] := List.drop_of_length_le (by omega)
        rw [hd, lexGo_nil] at hQ
        simp only [consR, List.append_nil] at hQ
        refine StillVC.run (StillVC.nilCheck rfl ?_)
        refine StillVC.run (StillVC.fieldAddr st42 rfl rfl rfl ?_)
        refine StillVC.run (StillVC.loadO oh 3 rfl ty3 rfl rfl ?_)
        refine StillVC.run (StillVC.lenS rfl str9 ?_)
        refine Br.dec (fun hc => absurd hc (by omega)) (fun c84 => ?_)
        refine StillVC.run (StillVC.loadO oh 0 rfl ty23 rfl rfl ?_)
        (refine RunVC.store oh 0 rfl ty23 rfl (by simp) (And.intro ⟨rfl, rfl⟩ ?_); intro m86 o86)
        (refine RunVC.storeL o86 1 rfl ty24 rfl (by decide) (And.intro ⟨rfl, rfl⟩ ?_); intro m87 o87)
        (refine RunVC.storeL o87 2 rfl ty3 rfl (by decide) (And.intro ⟨rfl, rfl⟩ ?_); intro m88 o88)
        refine leave_ok _ _ _ _ _ _ ?_
        refine RetVC.cell3 rfl ty23 ty24 ty3 rfl rfl rfl (o88.cellB 0 rfl 0) (o88.cellB 1 rfl 0) (o88.cellB 2 rfl 0) ?_
        show LexPost h t _ _
        rw [hP, ← hQ]
        exact ⟨_, rfl, o88.sel [5] rfl⟩

end Go.Proofs.YtofbiladpmcjgaaGreatDoor
