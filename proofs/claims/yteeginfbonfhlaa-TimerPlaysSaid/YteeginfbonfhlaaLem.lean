/- Plain facts on Go's int64: the sign of bitwise results, sums that wrap. -/
import Derived.RowKit
import Derived.Laws.BitsLemmas
namespace Go.Proofs.Yteeginfbonfhlaa.Lem
open Go.RowKit

theorem wrap_toInt (v : BitVec 64) : IntKind.i64.wrap (v.toNat : Int) = v.toInt := by
  rw [IntKind.wrap_i64, BitVec.toInt_eq_toNat_cond]
  have h := v.isLt
  split <;> omega

theorem msb_ofInt (x : Int) (h1 : -9223372036854775808 ≤ x) (h2 : x ≤ 9223372036854775807) : (BitVec.ofInt 64 x).msb = decide (x < 0) := by
  rw [BitVec.msb_eq_toInt, BitVec.toInt_ofInt_eq_self (by decide) (by omega) (by omega)]

theorem bits_range (op : BinOp) (x y : Int) : -9223372036854775808 ≤ bits op .i64 x y ∧ bits op .i64 x y ≤ 9223372036854775807 := by
  unfold bits
  have key : ∀ n : Int, -9223372036854775808 ≤ IntKind.i64.wrap n ∧ IntKind.i64.wrap n ≤ 9223372036854775807 := by
    intro n
    rw [IntKind.wrap_i64]
    omega
  exact key _

theorem xor_neg (x y : Int) (hx1 : -9223372036854775808 ≤ x) (hx2 : x ≤ 9223372036854775807) (hy1 : -9223372036854775808 ≤ y) (hy2 : y ≤ 9223372036854775807) :
    decide (bits .xor .i64 x y < 0) = (decide (x < 0) ^^ decide (y < 0)) := by
  have e : bits .xor .i64 x y = (BitVec.ofInt 64 x ^^^ BitVec.ofInt 64 y).toInt := wrap_toInt _
  rw [e, ← BitVec.msb_eq_toInt, BitVec.msb_xor, msb_ofInt x hx1 hx2, msb_ofInt y hy1 hy2]

theorem and_neg (x y : Int) (hx1 : -9223372036854775808 ≤ x) (hx2 : x ≤ 9223372036854775807) (hy1 : -9223372036854775808 ≤ y) (hy2 : y ≤ 9223372036854775807) :
    decide (bits .and .i64 x y < 0) = (decide (x < 0) && decide (y < 0)) := by
  have e : bits .and .i64 x y = (BitVec.ofInt 64 x &&& BitVec.ofInt 64 y).toInt := wrap_toInt _
  rw [e, ← BitVec.msb_eq_toInt, BitVec.msb_and, msb_ofInt x hx1 hx2, msb_ofInt y hy1 hy2]

theorem wrap_range (n : Int) : -9223372036854775808 ≤ wrap64 n ∧ wrap64 n ≤ 9223372036854775807 := by
  unfold wrap64
  omega

theorem add_test (a b : Int) (ha1 : -9223372036854775808 ≤ a) (ha2 : a ≤ 9223372036854775807) (hb1 : -9223372036854775808 ≤ b) (hb2 : b ≤ 9223372036854775807) :
    bits .and .i64 (bits .xor .i64 (wrap64 (a + b)) a) (bits .xor .i64 (wrap64 (a + b)) b) ≥ 0 ↔ (-9223372036854775808 ≤ a + b ∧ a + b ≤ 9223372036854775807) := by
  have hs := wrap_range (a + b)
  have h1 := bits_range .xor (wrap64 (a + b)) a
  have h2 := bits_range .xor (wrap64 (a + b)) b
  have e := and_neg _ _ h1.1 h1.2 h2.1 h2.2
  rw [xor_neg _ _ hs.1 hs.2 ha1 ha2, xor_neg _ _ hs.1 hs.2 hb1 hb2] at e
  have f : bits .and .i64 (bits .xor .i64 (wrap64 (a + b)) a) (bits .xor .i64 (wrap64 (a + b)) b) ≥ 0 ↔ decide (bits .and .i64 (bits .xor .i64 (wrap64 (a + b)) a) (bits .xor .i64 (wrap64 (a + b)) b) < 0) = false := by
    rw [decide_eq_false_iff_not]; omega
  rw [f, e]
  unfold wrap64
  by_cases p : (a + b + 9223372036854775808) % 18446744073709551616 - 9223372036854775808 < 0 <;> by_cases q : a < 0 <;> by_cases r : b < 0 <;> simp [p, q, r] <;> omega

theorem sub_test (a b : Int) (ha1 : -9223372036854775808 ≤ a) (ha2 : a ≤ 9223372036854775807) (hb1 : -9223372036854775808 ≤ b) (hb2 : b ≤ 9223372036854775807) :
    bits .and .i64 (bits .xor .i64 a b) (bits .xor .i64 (wrap64 (a - b)) a) ≥ 0 ↔ (-9223372036854775808 ≤ a - b ∧ a - b ≤ 9223372036854775807) := by
  have hs := wrap_range (a - b)
  have h1 := bits_range .xor a b
  have h2 := bits_range .xor (wrap64 (a - b)) a
  have e := and_neg _ _ h1.1 h1.2 h2.1 h2.2
  rw [xor_neg _ _ ha1 ha2 hb1 hb2, xor_neg _ _ hs.1 hs.2 ha1 ha2] at e
  have f : bits .and .i64 (bits .xor .i64 a b) (bits .xor .i64 (wrap64 (a - b)) a) ≥ 0 ↔ decide (bits .and .i64 (bits .xor .i64 a b) (bits .xor .i64 (wrap64 (a - b)) a) < 0) = false := by
    rw [decide_eq_false_iff_not]; omega
  rw [f, e]
  unfold wrap64
  by_cases p : (a - b + 9223372036854775808) % 18446744073709551616 - 9223372036854775808 < 0 <;> by_cases q : a < 0 <;> by_cases r : b < 0 <;> simp [p, q, r] <;> omega

theorem wf_range {a : Int} (h : (Lit.int .i64 a).wf = true) : -9223372036854775808 ≤ a ∧ a ≤ 9223372036854775807 := by
  simp only [Lit.wf, IntKind.min, IntKind.max, IntKind.signed, IntKind.bits, Bool.and_eq_true, decide_eq_true_eq, if_true] at h
  omega
theorem wrap_in {n : Int} (h1 : -9223372036854775808 ≤ n) (h2 : n ≤ 9223372036854775807) : wrap64 n = n := by
  unfold wrap64
  omega
end Go.Proofs.Yteeginfbonfhlaa.Lem
