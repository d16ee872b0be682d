/-
  Decimal numerals: their digits, their values; texts that are cut at a sign.
-/
import Derived.Lib.ItoaMem
namespace Go.Proofs.YtfjajkgfgigodaaGreatDoor
open Go

theorem digit_toNat {d : Nat} (h : d < 10) : (UInt8.ofNat (48 + d)).toNat = 48 + d := by
  rw [UInt8.toNat_ofNat']; omega

theorem dec_digits (u : Nat) : ∀ c ∈ Lib.decDigits u, 48 ≤ c.toNat ∧ c.toNat ≤ 57 := by
  induction u using Nat.strongRecOn with
  | _ u ih =>
    intro c hc
    rw [Lib.decDigits] at hc
    split at hc
    · rename_i h
      simp only [List.mem_singleton] at hc; subst hc
      rw [digit_toNat h]; omega
    · rcases List.mem_append.1 hc with hc | hc
      · exact ih _ (by omega) c hc
      · simp only [List.mem_singleton] at hc; subst hc
        rw [digit_toNat (by omega)]; omega

def undec (l : List UInt8) : Nat := l.foldl (fun n c => n * 10 + (c.toNat - 48)) 0

theorem undec_dec (u : Nat) : undec (Lib.decDigits u) = u := by
  induction u using Nat.strongRecOn with
  | _ u ih =>
    rw [Lib.decDigits]
    split
    · rename_i h
      simp only [undec, List.foldl_cons, List.foldl_nil, digit_toNat h]; omega
    · have := ih (u / 10) (by omega)
      unfold undec at this ⊢
      rw [List.foldl_append, this]
      simp only [List.foldl_cons, List.foldl_nil, digit_toNat (show u % 10 < 10 by omega)]; omega

theorem dec_inj {u v : Nat} (h : Lib.decDigits u = Lib.decDigits v) : u = v := by
  rw [← undec_dec u, h, undec_dec]

theorem dec_ne_nil (u : Nat) : Lib.decDigits u ≠ [] := by
  intro h
  have := Lib.decDigits_length u
  rw [h] at this
  rw [Lib.decDigits] at h
  split at h <;> simp at h

theorem cut_inj {α : Type} {c : α} : ∀ {x y r q : List α}, c ∉ x → c ∉ y → x ++ c :: r = y ++ c :: q → x = y ∧ r = q
  | [], [], r, q, _, _, h => ⟨rfl, by simpa using h⟩
  | [], b :: y, r, q, _, hy, h => by
    simp only [List.nil_append, List.cons_append, List.cons.injEq] at h
    exact absurd (by simp [h.1]) hy
  | a :: x, [], r, q, hx, _, h => by
    simp only [List.nil_append, List.cons_append, List.cons.injEq] at h
    exact absurd (by simp [h.1]) hx
  | a :: x, b :: y, r, q, hx, hy, h => by
    simp only [List.cons_append, List.cons.injEq] at h
    obtain ⟨rfl, rfl⟩ := cut_inj (fun m => hx (by simp [m])) (fun m => hy (by simp [m])) h.2
    exact ⟨by rw [h.1], rfl⟩

theorem notMem_dec {c : UInt8} (h : c.toNat < 48 ∨ 57 < c.toNat) (u : Nat) : c ∉ Lib.decDigits u := by
  intro hm
  have := dec_digits u c hm
  omega

end Go.Proofs.YtfjajkgfgigodaaGreatDoor
