/- Plain facts on fees: rounding to the nearest, a half to the even one. -/
import Derived.RowKit
namespace Go.Proofs.Ytklcooepolmemaa.Lem
open Go.RowKit
def mxI (a b : Int) : Int := if a < b then b else a
def mnI (a b : Int) : Int := if b < a then b else a
/-- May the rate be? -/
def rateOK (p l m : Int) : Prop := 0 ≤ p ∧ p ≤ 10000 ∧ 0 ≤ l ∧ l ≤ m ∧ m ≤ 999999999999
instance (p l m : Int) : Decidable (rateOK p l m) := by unfold rateOK; infer_instance
/-- The nearest whole number to x / 10000, a half to the even one. -/
def rnd (x : Int) : Int := if x % 10000 = 5000 then (if x / 10000 % 2 = 0 then x / 10000 else x / 10000 + 1) else (if x % 10000 > 5000 then x / 10000 + 1 else x / 10000)
def fee (p l m a : Int) : Int := mnI (mnI (mxI (rnd (a * p)) l) m) a
def feeAll (p l m a : Int) : Int × Int := if rateOK p l m then (if a < 0 ∨ a > 999999999999 then (0, 100) else (fee p l m a, 0)) else (0, 101)
theorem prod_range {p l m a : Int} (h : rateOK p l m) (h0 : 0 ≤ a) (h1 : a ≤ 999999999999) : 0 ≤ a * p ∧ a * p ≤ 9999999999990000 :=
  ⟨Int.mul_nonneg h0 h.1, Int.le_trans (Int.mul_le_mul h1 h.2.1 h.1 (by decide)) (by decide)⟩
theorem prod_le {p l m a : Int} (h : rateOK p l m) (h0 : 0 ≤ a) : a * p ≤ a * 10000 := Int.mul_le_mul_of_nonneg_left h.2.1 h0
theorem rnd_near {x : Int} (h : 0 ≤ x) : -10000 ≤ 2 * (x - rnd x * 10000) ∧ 2 * (x - rnd x * 10000) ≤ 10000 ∧ 0 ≤ rnd x ∧ (2 * (x - rnd x * 10000) = 10000 → rnd x % 2 = 0) ∧ (2 * (x - rnd x * 10000) = -10000 → rnd x % 2 = 0) := by
  unfold rnd
  split
  · split <;> omega
  · split <;> omega
theorem rnd_mono {x y : Int} (h1 : x ≤ y) : rnd x ≤ rnd y := by
  unfold rnd
  have : x / 10000 ≤ y / 10000 := by omega
  by_cases a1 : x % 10000 = 5000 <;> by_cases a2 : x / 10000 % 2 = 0 <;> by_cases a3 : x % 10000 > 5000 <;> by_cases b1 : y % 10000 = 5000 <;> by_cases b2 : y / 10000 % 2 = 0 <;> by_cases b3 : y % 10000 > 5000 <;> simp only [a1, a2, a3, b1, b2, b3, if_true, if_false] <;> omega
theorem rnd_le {x a : Int} (h1 : x ≤ a * 10000) : rnd x ≤ a := by
  unfold rnd
  by_cases a1 : x % 10000 = 5000 <;> by_cases a2 : x / 10000 % 2 = 0 <;> by_cases a3 : x % 10000 > 5000 <;> simp only [a1, a2, a3, if_true, if_false] <;> omega
theorem fee_free {p a : Int} (h : rateOK p 0 999999999999) (h0 : 0 ≤ a) (h1 : a ≤ 999999999999) : fee p 0 999999999999 a = rnd (a * p) := by
  have x := rnd_le (prod_le h h0)
  have y := (rnd_near (prod_range h h0 h1).1).2.2.1
  unfold fee mnI mxI
  rw [if_neg (by omega), if_neg (by omega), if_neg (by omega)]
theorem feeAll_ok {p l m a : Int} (h : rateOK p l m) (h0 : 0 ≤ a) (h1 : a ≤ 999999999999) : feeAll p l m a = (fee p l m a, 0) := by
  unfold feeAll
  rw [if_pos h, if_neg (by omega)]
theorem feeAll_out {p l m a : Int} (h : rateOK p l m) (h0 : a < 0 ∨ a > 999999999999) : feeAll p l m a = (0, 100) := by
  unfold feeAll
  rw [if_pos h, if_pos h0]
theorem feeAll_no {p l m a : Int} (h : ¬ rateOK p l m) : feeAll p l m a = (0, 101) := by
  unfold feeAll
  rw [if_neg h]
end Go.Proofs.Ytklcooepolmemaa.Lem
