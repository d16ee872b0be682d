/-
  Ratios as the rational numbers of Lean: what Make, Add, Mul, Div and Cmp compute.
-/
import Derived.Test.YtemijanhigjmmaaDoorStructs
import Derived.Test.YtemijanhigjmmaaDoorFnRatio
namespace Go.Proofs.YtemijanhigjmmaaDoor
open Go

def packR (q : Rat) : (Int × Int) × Int := if q.num.natAbs ≤ 1000000000 ∧ q.den ≤ 1000000000 then ((q.num, (q.den : Int)), 0) else ((0, 0), 2)

theorem reducedR_pack (minus : Bool) (num den : Nat) (h0 : 0 < den) : reducedR minus num den = packR (mkRat (if minus then -(num : Int) else num) den) := by
  have hg : den.gcd (if minus then -(num : Int) else num).natAbs = Nat.gcd num den := by cases minus <;> simp [Nat.gcd_comm]
  have hn : (mkRat (if minus then -(num : Int) else num) den).num = if minus then -((num / Nat.gcd num den : Nat) : Int) else (num / Nat.gcd num den : Nat) := by
    rw [Rat.num_mkRat, if_neg (by omega), hg]
    cases minus
    · simp
    · simp only [if_true]
      rw [Int.neg_ediv_of_dvd (Int.natCast_dvd_natCast.2 (Nat.gcd_dvd_left _ _))]
      simp
  have hd : (mkRat (if minus then -(num : Int) else num) den).den = den / Nat.gcd num den := by rw [Rat.den_mkRat, if_neg (by omega), hg]
  have h1 : 1000000000 < num / Nat.gcd num den ∨ 1000000000 < den / Nat.gcd num den → reducedR minus num den = ((0, 0), 2) := fun hb => if_pos hb
  have h2 : ¬ (1000000000 < num / Nat.gcd num den ∨ 1000000000 < den / Nat.gcd num den) → reducedR minus num den = ((if minus then -((num / Nat.gcd num den : Nat) : Int) else ((num / Nat.gcd num den : Nat) : Int), ((den / Nat.gcd num den : Nat) : Int)), 0) := fun hb => if_neg hb
  unfold packR
  rw [hn, hd]
  generalize num / Nat.gcd num den = x at *
  generalize den / Nat.gcd num den = y at *
  have ha : (if minus then -(x : Int) else (x : Int)).natAbs = x := by cases minus <;> simp
  rw [ha]
  by_cases hb : 1000000000 < x ∨ 1000000000 < y
  · rw [h1 hb]
    exact (if_neg (by omega)).symm
  · rw [h2 hb]
    exact (if_pos (by omega)).symm

theorem ratioR_pack {num den : Int} (h0 : den ≠ 0) : ratioR num den = packR (Rat.divInt num den) := by
  unfold ratioR
  rw [if_neg h0, reducedR_pack _ _ _ (by omega)]
  congr 1
  rw [← Rat.divInt_ofNat]
  rcases Int.lt_or_gt_of_ne h0 with hd | hd
  · rw [← Rat.neg_divInt_neg num den, show ((den.natAbs : Nat) : Int) = -den by omega]
    congr 1
    by_cases hn : num < 0
    · simp only [decide_eq_true hn, decide_eq_true hd, decide_true, Bool.not_true, Bool.false_eq_true, if_false]
      omega
    · simp only [decide_eq_false hn, decide_eq_true hd, Bool.false_eq_true, decide_false, Bool.not_false, if_true]
      omega
  · rw [show ((den.natAbs : Nat) : Int) = den by omega]
    congr 1
    have hd' : ¬ den < 0 := by omega
    by_cases hn : num < 0
    · simp only [decide_eq_true hn, decide_eq_false hd', Bool.true_eq_false, decide_false, Bool.not_false, if_true]
      omega
    · simp only [decide_eq_false hn, decide_eq_false hd', decide_true, Bool.not_true, Bool.false_eq_true, if_false]
      omega

/-- A pair that is a valid ratio. -/
def okP (a : Int × Int) : Bool := decide (0 < a.2 ∧ a.2 ≤ 1000000000 ∧ a.1.natAbs ≤ 1000000000 ∧ Nat.gcd a.1.natAbs a.2.natAbs = 1)

theorem okP_iff {a : Int × Int} : okP a = true ↔ 0 < a.2 ∧ a.2 ≤ 1000000000 ∧ a.1.natAbs ≤ 1000000000 ∧ Nat.gcd a.1.natAbs a.2.natAbs = 1 := by simp [okP]

def ofP (a : Int × Int) : Rat := Rat.divInt a.1 a.2

theorem ofP_num {a : Int × Int} (h : okP a = true) : (ofP a).num = a.1 := by
  obtain ⟨h1, h2, h3, h4⟩ := okP_iff.1 h
  unfold ofP
  rw [Rat.num_divInt, Int.sign_eq_one_of_pos h1, Int.one_mul]
  have : (a.2.gcd a.1 : Int) = 1 := by
    have : a.2.gcd a.1 = 1 := by rw [Int.gcd, Nat.gcd_comm]; exact h4
    omega
  rw [this, Int.ediv_one]

theorem ofP_den {a : Int × Int} (h : okP a = true) : ((ofP a).den : Int) = a.2 := by
  obtain ⟨h1, h2, h3, h4⟩ := okP_iff.1 h
  unfold ofP
  rw [Rat.den_divInt, if_neg (by omega)]
  have : a.2.gcd a.1 = 1 := by rw [Int.gcd, Nat.gcd_comm]; exact h4
  rw [this, Nat.div_one]
  omega

theorem okP_rat {q : Rat} (h : q.num.natAbs ≤ 1000000000 ∧ q.den ≤ 1000000000) : okP (q.num, (q.den : Int)) = true := by
  refine okP_iff.2 ⟨?_, ?_, h.1, ?_⟩
  · have := q.den_pos; simp only; omega
  · have := h.2; simp only; omega
  · simpa [Nat.Coprime] using q.reduced

theorem ofP_rat (q : Rat) : ofP (q.num, (q.den : Int)) = q := Rat.num_divInt_den q

theorem packR_ofP {a : Int × Int} (h : okP a = true) : packR (ofP a) = (a, 0) := by
  obtain ⟨h1, h2, h3, h4⟩ := okP_iff.1 h
  unfold packR
  rw [ofP_num h, ofP_den h]
  have := ofP_den h
  rw [if_pos ⟨h3, by omega⟩]

theorem ofP_inj {a b : Int × Int} (ha : okP a = true) (hb : okP b = true) (h : ofP a = ofP b) : a = b := by
  have h1 := packR_ofP ha
  rw [h, packR_ofP hb] at h1
  injection h1 with h1
  exact h1.symm

theorem packR_cases (q : Rat) : (∃ p : Int × Int, packR q = (p, 0) ∧ okP p = true ∧ ofP p = q) ∨ (packR q = ((0, 0), 2) ∧ ∀ p : Int × Int, okP p = true → ofP p ≠ q) := by
  by_cases h : q.num.natAbs ≤ 1000000000 ∧ q.den ≤ 1000000000
  · exact .inl ⟨_, if_pos h, okP_rat h, ofP_rat q⟩
  · refine .inr ⟨if_neg h, fun p hp he => h ?_⟩
    obtain ⟨h1, h2, h3, h4⟩ := okP_iff.1 hp
    have e1 := ofP_num hp
    have e2 := ofP_den hp
    rw [he] at e1 e2
    omega

theorem ofP_ne {a : Int × Int} (h : okP a = true) : a.2 ≠ 0 := by
  obtain ⟨h1, h2, h3, h4⟩ := okP_iff.1 h
  omega

theorem ofP_add {a b : Int × Int} (ha : okP a = true) (hb : okP b = true) : Rat.divInt (a.1 * b.2 + b.1 * a.2) (a.2 * b.2) = ofP a + ofP b := by
  unfold ofP
  rw [Rat.divInt_add_divInt _ _ (ofP_ne ha) (ofP_ne hb)]

theorem ofP_sub {a b : Int × Int} (ha : okP a = true) (hb : okP b = true) : Rat.divInt (a.1 * b.2 - b.1 * a.2) (a.2 * b.2) = ofP a - ofP b := by
  unfold ofP
  rw [Rat.divInt_sub_divInt _ _ (ofP_ne ha) (ofP_ne hb)]

theorem ofP_mul (a b : Int × Int) : Rat.divInt (a.1 * b.1) (a.2 * b.2) = ofP a * ofP b := by
  unfold ofP
  rw [Rat.divInt_mul_divInt]

theorem ofP_div (a b : Int × Int) : Rat.divInt (a.1 * b.2) (a.2 * b.1) = ofP a / ofP b := by
  unfold ofP
  rw [Rat.div_def, Rat.inv_divInt, Rat.divInt_mul_divInt]

theorem ofP_neg (b : Int × Int) : ofP (-b.1, b.2) = -ofP b := by
  unfold ofP
  rw [Rat.neg_divInt]

theorem okP_neg (b : Int × Int) : okP (-b.1, b.2) = okP b := by simp [okP]

theorem ofP_lt {a b : Int × Int} (ha : okP a = true) (hb : okP b = true) : ofP a < ofP b ↔ a.1 * b.2 < b.1 * a.2 := by
  rw [Rat.lt_iff, ofP_num ha, ofP_num hb, ofP_den ha, ofP_den hb]

theorem ofP_zero {b : Int × Int} (hb : okP b = true) : b.1 = 0 ↔ ofP b = 0 := by
  rw [← ofP_num hb, Rat.num_eq_zero]

/- WHAT THE FUNCTIONS COMPUTE -/
def onR (a b : Int × Int) (r : (Int × Int) × Int) : (Int × Int) × Int := if okP a = true ∧ okP b = true then r else ((0, 0), 1)
def addR (a b : Int × Int) : (Int × Int) × Int := onR a b (packR (ofP a + ofP b))
def subR (a b : Int × Int) : (Int × Int) × Int := onR a b (packR (ofP a - ofP b))
def mulR (a b : Int × Int) : (Int × Int) × Int := onR a b (packR (ofP a * ofP b))
def divR (a b : Int × Int) : (Int × Int) × Int := onR a b (if b.1 = 0 then ((0, 0), 1) else packR (ofP a / ofP b))
def cmpR (a b : Int × Int) : Int := if okP a = true ∧ okP b = true then (if ofP a < ofP b then -1 else if ofP b < ofP a then 1 else 0) else 0

theorem okP_rng {a : Int × Int} (h : okP a = true) : 0 < a.2 ∧ a.2 ≤ 1000000000 ∧ -1000000000 ≤ a.1 ∧ a.1 ≤ 1000000000 := by
  obtain ⟨h1, h2, h3, h4⟩ := okP_iff.1 h
  omega

theorem mul_abs_le {x y A B : Int} (hx : -A ≤ x ∧ x ≤ A) (hy : 0 ≤ y ∧ y ≤ B) : -(A * B) ≤ x * y ∧ x * y ≤ A * B := by
  have h0 : 0 ≤ A := by omega
  have h1 : A * y ≤ A * B := Int.mul_le_mul_of_nonneg_left hy.2 h0
  have h2 : x * y ≤ A * y := Int.mul_le_mul_of_nonneg_right hx.2 hy.1
  have h3 : (-A) * y ≤ x * y := Int.mul_le_mul_of_nonneg_right hx.1 hy.1
  rw [Int.neg_mul] at h3
  omega

end Go.Proofs.YtemijanhigjmmaaDoor
