/-
  Plain facts on the reference's parsing: the number that a text seems to mean, and a text without its quotes.
-/
import Derived.Test.YtffpaippmfafjaaGreatDoorStructs
import Derived.Test.YtffpaippmfafjaaGreatDoorFnCst
namespace Go.Proofs.YtffpaippmfafjaaGreatDoor
open Go

/- THE NUMBER THAT A TEXT SEEMS TO MEAN -/
def numS (acc : Int) (c : UInt8) : Int := if 48 ≤ c.toNat ∧ c.toNat ≤ 57 then (acc * 10 % 18446744073709551616 + (c.toNat - 48)) % 18446744073709551616 else acc

def numF (s : List UInt8) : Int := (s.take 20).foldl numS 0

def wrap64 (n : Int) : Int := (n + 9223372036854775808) % 18446744073709551616 - 9223372036854775808

def numR (s : List UInt8) : Int := if s.head? = some 45 then wrap64 (-(numF s)) else wrap64 (numF s)

theorem numS_rng {a : Int} (c : UInt8) (h : 0 ≤ a ∧ a < 18446744073709551616) : 0 ≤ numS a c ∧ numS a c < 18446744073709551616 := by
  unfold numS
  split <;> omega

theorem foldS_rng : ∀ (l : List UInt8) (a : Int), (0 ≤ a ∧ a < 18446744073709551616) → 0 ≤ l.foldl numS a ∧ l.foldl numS a < 18446744073709551616
  | [], _, h => h
  | c :: l, _, h => foldS_rng l _ (numS_rng c h)

theorem foldD_ge : ∀ (l : List UInt8) (acc : Nat), acc ≤ l.foldl (fun n c => n * 10 + (c.toNat - 48)) acc
  | [], _ => Nat.le_refl _
  | c :: l, acc => Nat.le_trans (by omega) (foldD_ge l (acc * 10 + (c.toNat - 48)))

theorem foldS_digits : ∀ (l : List UInt8) (acc : Nat), (∀ c ∈ l, 48 ≤ c.toNat ∧ c.toNat ≤ 57) → l.foldl (fun n c => n * 10 + (c.toNat - 48)) acc < 18446744073709551616 →
    l.foldl numS (acc : Int) = (l.foldl (fun n c => n * 10 + (c.toNat - 48)) acc : Nat)
  | [], acc, _, _ => rfl
  | c :: l, acc, hd, hb => by
    have hc := hd c (by simp)
    have hg := foldD_ge l (acc * 10 + (c.toNat - 48))
    have e : numS (acc : Int) c = ((acc * 10 + (c.toNat - 48) : Nat) : Int) := by
      unfold numS
      rw [if_pos hc]
      simp only [List.foldl_cons] at hb
      omega
    rw [List.foldl_cons, e]
    exact foldS_digits l _ (fun d hd' => hd d (by simp [hd'])) hb

theorem foldS_dec (u : Nat) (h : u < 18446744073709551616) : (Lib.decDigits u).foldl numS 0 = u := by
  have hu : (Lib.decDigits u).foldl (fun n c => n * 10 + (c.toNat - 48)) 0 = u := undec_dec u
  have := foldS_digits (Lib.decDigits u) 0 (dec_digits u) (by rw [hu]; exact h)
  rw [hu] at this
  exact this

theorem dec_len (u : Nat) (h : u ≤ 1000000000) : (Lib.decDigits u).length ≤ 10 := by
  rw [Lib.decDigits_length]
  exact nDigits_le 9 _ (by omega)

/-- The number of a number's text. -/
theorem numR_itoa {n : Int} (h0 : -1000000000 ≤ n) (h1 : n ≤ 1000000000) : numR (Lib.itoa n) = n := by
  unfold numR numF Lib.itoa
  by_cases hn : n < 0
  · have hl := dec_len n.natAbs (by omega)
    rw [if_pos hn, List.head?_cons, if_pos rfl, List.take_of_length_le (by simp; omega), List.foldl_cons]
    rw [show numS 0 45 = 0 from rfl, foldS_dec _ (by omega)]
    unfold wrap64
    omega
  · have hl := dec_len n.toNat (by omega)
    have hd := dec_digits n.toNat
    have h45 : (Lib.decDigits n.toNat).head? ≠ some 45 := fun e => by
      have := hd 45 (List.mem_of_mem_head? (by rw [e]; rfl))
      simp at this
    rw [if_neg hn, if_neg h45, List.take_of_length_le (by omega), foldS_dec _ (by omega)]
    unfold wrap64
    omega

/- A TEXT WITHOUT ITS QUOTES -/
def unqF : List UInt8 → List UInt8
  | [] => []
  | [_] => []
  | c :: d :: r => if c = 92 then (if d = 110 then 10 else d) :: unqF r else c :: unqF (d :: r)
termination_by l => l.length

theorem unqF_le : ∀ (m : Nat) (l : List UInt8), l.length ≤ m → (unqF l).length ≤ m
  | _, [], _ => by simp [unqF]
  | _, [_], _ => by simp [unqF]
  | m, c :: d :: r, h => by
    unfold unqF
    simp only [List.length_cons] at h
    split
    · have := unqF_le (m - 1) r (by omega)
      simp only [List.length_cons]
      omega
    · have := unqF_le (m - 1) (d :: r) (by simp only [List.length_cons]; omega)
      simp only [List.length_cons]
      omega

theorem unqF_esc : ∀ (t : List UInt8), unqF (escS t ++ [34]) = t
  | [] => by simp [escS, unqF]
  | c :: t => by
    have ih := unqF_esc t
    have e : escS (c :: t) = esc1 c ++ escS t := by simp [escS]
    rw [e]
    unfold esc1
    by_cases h34 : c = 34
    · subst h34
      rw [if_pos rfl]
      show unqF (92 :: 34 :: (escS t ++ [34])) = _
      rw [unqF, if_pos rfl, ih]
      rfl
    · rw [if_neg h34]
      by_cases h92 : c = 92
      · subst h92
        rw [if_pos rfl]
        show unqF (92 :: 92 :: (escS t ++ [34])) = _
        rw [unqF, if_pos rfl, ih]
        rfl
      · rw [if_neg h92]
        by_cases h10 : c = 10
        · subst h10
          rw [if_pos rfl]
          show unqF (92 :: 110 :: (escS t ++ [34])) = _
          rw [unqF, if_pos rfl, ih]
          rfl
        · rw [if_neg h10]
          show unqF (c :: (escS t ++ [34])) = _
          cases hr : escS t ++ [34] with
          | nil => simp at hr
          | cons d r => rw [unqF, if_neg h92, ← hr, ih]

/- THE GUESS -/
theorem guess_fin {s : List UInt8} {k n : Int} {t : List UInt8} (hs : s ≠ []) (comp : ∀ k' n' t', validP k' n' t' → valT k' n' t' = s → k' = k ∧ n' = n ∧ t' = t) :
    if valT k n t = s then ParseR s k n t 0 else ParseR s 0 0 [] 4 := by
  split
  · rename_i h
    by_cases hv : validP k n t
    · exact parseR_of hv h
    · exact absurd ((valT_bad hv).symm.trans h).symm hs
  · rename_i h
    refine .inr ⟨rfl, rfl, rfl, rfl, fun k' n' t' hv he => ?_⟩
    obtain ⟨rfl, rfl, rfl⟩ := comp k' n' t' hv he
    exact h he

theorem kind_of {c : UInt8} {r : List UInt8} {k n : Int} {t : List UInt8} (hv : validP k n t) (he : valT k n t = c :: r) : k = kindB c := by
  obtain ⟨c', r', e, hk⟩ := valT_head hv
  rw [he] at e
  rw [(List.cons.inj e).1, hk]

theorem guess_n {r : List UInt8} : ∀ k' n' t', validP k' n' t' → valT k' n' t' = 110 :: r → k' = 0 ∧ n' = 0 ∧ t' = [] := by
  intro k n t hv he
  have hk : k = 0 := kind_of hv he
  rcases valT_cases hv with ⟨_, e1, e2, _⟩ | ⟨e, _⟩ | ⟨e, _⟩ | ⟨e, _⟩ | ⟨e, _⟩ | ⟨e, _⟩ <;> try omega
  exact ⟨hk, e1, e2⟩

theorem guess_tf {c : UInt8} {r : List UInt8} (hc : kindB c = 4) : ∀ k' n' t', validP k' n' t' → valT k' n' t' = c :: r → k' = 4 ∧ n' = (if c = 116 then 1 else 0) ∧ t' = [] := by
  intro k n t hv he
  have hk := kind_of hv he
  rw [hc] at hk
  rcases valT_cases hv with ⟨e, _⟩ | ⟨e, _⟩ | ⟨e, _⟩ | ⟨e, _⟩ | ⟨_, rfl, rfl, e⟩ | ⟨_, rfl, rfl, e⟩ <;> try omega
  · rw [e] at he
    obtain ⟨rfl, _⟩ := List.cons.inj he
    exact ⟨hk, rfl, rfl⟩
  · rw [e] at he
    obtain ⟨rfl, _⟩ := List.cons.inj he
    exact ⟨hk, rfl, rfl⟩

theorem guess_day {r : List UInt8} : ∀ k' n' t', validP k' n' t' → valT k' n' t' = 64 :: r → k' = 3 ∧ n' = numR r ∧ t' = [] := by
  intro k n t hv he
  have hk : k = 3 := kind_of hv he
  rcases valT_cases hv with ⟨e, _⟩ | ⟨e, _⟩ | ⟨e, _⟩ | ⟨_, h0, h1, rfl, e⟩ | ⟨e, _⟩ | ⟨e, _⟩ <;> try omega
  rw [e] at he
  obtain rfl : Lib.itoa n = r := (List.cons.inj he).2
  exact ⟨hk, (numR_itoa (by omega) (by omega)).symm, rfl⟩

theorem guess_num {c : UInt8} {r : List UInt8} (hc : kindB c = 2) : ∀ k' n' t', validP k' n' t' → valT k' n' t' = c :: r → k' = 2 ∧ n' = numR (c :: r) ∧ t' = [] := by
  intro k n t hv he
  have hk := kind_of hv he
  rw [hc] at hk
  rcases valT_cases hv with ⟨e, _⟩ | ⟨e, _⟩ | ⟨_, h0, h1, rfl, e⟩ | ⟨e, _⟩ | ⟨e, _⟩ | ⟨e, _⟩ <;> try omega
  rw [e] at he
  rw [← he]
  exact ⟨hk, (numR_itoa (by omega) (by omega)).symm, rfl⟩

theorem guess_text {r : List UInt8} : ∀ k' n' t', validP k' n' t' → valT k' n' t' = 34 :: r → k' = 1 ∧ n' = 0 ∧ t' = (if r.length ≤ 401 then unqF r else []) := by
  intro k n t hv he
  have hk : k = 1 := kind_of hv he
  rcases valT_cases hv with ⟨e, _⟩ | ⟨_, rfl, hl, e⟩ | ⟨e, _⟩ | ⟨e, _⟩ | ⟨e, _⟩ | ⟨e, _⟩ <;> try omega
  rw [e] at he
  obtain rfl : escS t ++ [34] = r := (List.cons.inj he).2
  have hel := escS_le t
  rw [if_pos (by simp; omega), unqF_esc]
  exact ⟨hk, rfl, rfl⟩

/- CASTS -/
theorem CastR.det {k n : Int} {t : List UInt8} {kind k1 n1 : Int} {t1 : List UInt8} {e1 k2 n2 : Int} {t2 : List UInt8} {e2 : Int} (h : CastR k n t kind k1 n1 t1 e1) (h' : CastR k n t kind k2 n2 t2 e2) :
    k1 = k2 ∧ n1 = n2 ∧ t1 = t2 ∧ e1 = e2 := by
  unfold CastR at h h'
  split at h
  · rename_i g; rw [if_pos g] at h'
    obtain ⟨rfl, rfl, rfl, rfl⟩ := h; obtain ⟨rfl, rfl, rfl, rfl⟩ := h'; exact ⟨rfl, rfl, rfl, rfl⟩
  rename_i g; rw [if_neg g] at h'
  split at h
  · rename_i g; rw [if_pos g] at h'
    obtain ⟨rfl, rfl, rfl, rfl⟩ := h; obtain ⟨rfl, rfl, rfl, rfl⟩ := h'; exact ⟨rfl, rfl, rfl, rfl⟩
  rename_i g; rw [if_neg g] at h'
  split at h
  · rename_i g; rw [if_pos g] at h'
    obtain ⟨rfl, rfl, rfl, rfl⟩ := h; obtain ⟨rfl, rfl, rfl, rfl⟩ := h'; exact ⟨rfl, rfl, rfl, rfl⟩
  rename_i g; rw [if_neg g] at h'
  split at h
  · rename_i g; rw [if_pos g] at h'
    obtain ⟨pk, pn, pt, pe, hP, h⟩ := h
    obtain ⟨pk', pn', pt', pe', hP', h'⟩ := h'
    obtain ⟨rfl, rfl, rfl, rfl⟩ := hP.det hP'
    split at h
    · rename_i g; rw [if_pos g] at h'
      obtain ⟨rfl, rfl, rfl, rfl⟩ := h; obtain ⟨rfl, rfl, rfl, rfl⟩ := h'; exact ⟨rfl, rfl, rfl, rfl⟩
    · rename_i g; rw [if_neg g] at h'
      obtain ⟨rfl, rfl, rfl, rfl⟩ := h; obtain ⟨rfl, rfl, rfl, rfl⟩ := h'; exact ⟨rfl, rfl, rfl, rfl⟩
  rename_i g; rw [if_neg g] at h'
  split at h
  · rename_i g; rw [if_pos g] at h'
    obtain ⟨rfl, rfl, rfl, rfl⟩ := h; obtain ⟨rfl, rfl, rfl, rfl⟩ := h'; exact ⟨rfl, rfl, rfl, rfl⟩
  rename_i g; rw [if_neg g] at h'
  split at h
  · rename_i g; rw [if_pos g] at h'
    obtain ⟨rfl, rfl, rfl, rfl⟩ := h; obtain ⟨rfl, rfl, rfl, rfl⟩ := h'; exact ⟨rfl, rfl, rfl, rfl⟩
  · rename_i g; rw [if_neg g] at h'
    obtain ⟨rfl, rfl, rfl, rfl⟩ := h; obtain ⟨rfl, rfl, rfl, rfl⟩ := h'; exact ⟨rfl, rfl, rfl, rfl⟩

end Go.Proofs.YtffpaippmfafjaaGreatDoor
