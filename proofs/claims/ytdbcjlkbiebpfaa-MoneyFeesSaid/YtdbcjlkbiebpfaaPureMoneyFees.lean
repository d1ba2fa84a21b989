/- The program's fee, and its check of a rate, are the document's reference's: for every rate and every amount. -/
import Derived.Test.YtdbcjlkbiebpfaaPMoneyFeesx3
import Derived.Test.YtdbcjlkbiebpfaaLem
import Derived.Test.YtdbcjlkbiebpfaaFee
namespace Go.Proofs.Ytdbcjlkbiebpfaa.Pure
open Go.RowKit Go.Proofs.Ytdbcjlkbiebpfaa.PMoneyFees Go.Proofs.Ytdbcjlkbiebpfaa.Lem Go.Proofs.YtdbcjlkbiebpfaaW.PrintWords Go.Proofs.YtdbcjlkbiebpfaaW.PrintLast Go.Proofs.YtdbcjlkbiebpfaaW.PrintMore

theorem shown_true : groatlaw10_shown.f 9 = some true := by decide +kernel

theorem check_spec (p l m : Int) : money_Check.f p l m = some (if rateOK p l m then 0 else 101) := by
  unfold money_Check.f
  by_cases h : rateOK p l m
  · rw [if_pos h]
    obtain ⟨h1, h2, h3, h4, h5⟩ := h
    rw [if_neg (by omega), if_neg (by omega), if_neg (by omega), if_neg (by omega), if_neg (by omega)]
  · rw [if_neg h]
    unfold rateOK at h
    repeat' split
    all_goals first | rfl | omega

theorem fee_spec (k : Nat) {p l m a : Int} : money_Fee.f (k + 1) p l m a = some (feeAll p l m a) := by
  unfold money_Fee.f feeAll
  rw [check_spec]
  simp only [Option.bind_some]
  by_cases hr : rateOK p l m
  · rw [if_pos hr, if_pos rfl, if_pos hr]
    by_cases h0 : a < 0
    · rw [if_pos h0, if_pos (Or.inl h0)]
      rfl
    · rw [if_neg h0]
      by_cases h1 : a > 999999999999
      · rw [if_pos (Or.inr h1), decide_eq_true h1]
        rfl
      · rw [if_neg (by omega), decide_eq_false h1]
        have hx := prod_range hr (show 0 ≤ a by omega) (show a ≤ 999999999999 by omega)
        simp only [money_Fee.j0]
        rw [if_neg (by decide), wrap_in (by omega) (by omega), Int.tmod_eq_emod_of_nonneg hx.1, Int.tdiv_eq_ediv_of_nonneg hx.1]
        unfold fee rnd
        generalize a * p = x at *
        rw [wrap_in (n := x / 10000) (by omega) (by omega), wrap_in (n := x / 10000 + 1) (by omega) (by omega), Int.tmod_eq_emod_of_nonneg (by omega)]
        by_cases c1 : x % 10000 = 5000
        · rw [if_pos c1]
          by_cases c2 : x / 10000 % 2 = 0
          · rw [if_pos c2, if_pos c1, if_pos c2]; rfl
          · rw [if_neg c2, if_pos c1, if_neg c2]; rfl
        · rw [if_neg c1]
          by_cases c2 : x % 10000 > 5000
          · rw [if_pos c2, if_neg c1, if_pos c2]; rfl
          · rw [if_neg c2, if_neg c1, if_neg c2]; rfl
  · rw [if_neg hr, if_neg (by decide), if_neg hr]

theorem ref_check (p l m : Int) : groatref10_Check.f p l m = some (if rateOK p l m then 0 else 101) := by
  unfold groatref10_Check.f
  by_cases h : rateOK p l m
  · rw [if_pos h]
    obtain ⟨h1, h2, h3, h4, h5⟩ := h
    rw [if_neg (by omega), if_neg (by omega), if_neg (by omega), if_neg (by omega), if_neg (by omega), if_neg (by omega)]
  · rw [if_neg h]
    unfold rateOK at h
    repeat' split
    all_goals first | rfl | omega

theorem ref_fee (k : Nat) {p l m a : Int} : groatref10_Fee.f (k + 4) p l m a = some (feeAll p l m a) := by
  unfold groatref10_Fee.f feeAll
  rw [ref_check]
  simp only [Option.bind_some]
  by_cases hr : rateOK p l m
  · rw [if_pos hr, if_pos rfl, if_pos hr]
    by_cases h0 : a < 0
    · rw [if_pos h0, if_pos (Or.inl h0)]
      rfl
    · rw [if_neg h0]
      by_cases h1 : a > 999999999999
      · rw [if_pos (Or.inr h1), decide_eq_true h1]
        rfl
      · rw [if_neg (by omega), decide_eq_false h1]
        have hx := prod_range hr (show 0 ≤ a by omega) (show a ≤ 999999999999 by omega)
        have hrr : 0 ≤ l ∧ l ≤ m := ⟨hr.2.2.1, hr.2.2.2.1⟩
        simp only [groatref10_Fee.j0]
        rw [if_neg (by decide), wrap_in (n := a * p) (by omega) (by omega), Int.tmod_eq_emod_of_nonneg hx.1, Int.tdiv_eq_ediv_of_nonneg hx.1]
        have last : ∀ n : Int, 0 ≤ n → n ≤ 10000000000000 → groatref10_Fee.j2 (k + 2) a n p l m = some (mnI (mnI (mxI n l) m) a, 0) := by
          intro n _ _
          simp only [groatref10_Fee.j2, groatref10_Fee.j3]
          unfold mnI mxI
          by_cases c1 : n < l
          · simp only [if_pos c1, if_neg (show ¬ l > m by omega)]
            by_cases c2 : l > a
            · simp only [if_pos c2]
            · simp only [if_neg c2]
          · simp only [if_neg c1]
            by_cases c2 : n > m
            · simp only [if_pos c2]
              by_cases c3 : m > a
              · simp only [if_pos c3]
              · simp only [if_neg c3]
            · simp only [if_neg c2]
              by_cases c3 : n > a
              · simp only [if_pos c3]
              · simp only [if_neg c3]
        unfold fee rnd
        generalize a * p = x at *
        rw [wrap_in (n := x / 10000) (by omega) (by omega), wrap_in (n := 2 * (x % 10000)) (by omega) (by omega), Int.tmod_eq_emod_of_nonneg (by omega)]
        simp only [groatref10_Fee.j1]
        rw [wrap_in (n := x / 10000 + 1) (by omega) (by omega)]
        by_cases c1 : x % 10000 = 5000
        · rw [if_neg (by omega), if_pos (by omega), if_pos c1]
          by_cases c2 : x / 10000 % 2 = 0
          · rw [if_pos c2, if_neg (by simp; omega)]
            exact last _ (by omega) (by omega)
          · rw [if_neg c2, if_pos (by simp; omega)]
            exact last _ (by omega) (by omega)
        · rw [if_neg c1]
          by_cases c2 : x % 10000 > 5000
          · rw [if_pos (by omega), if_pos trivial, if_pos c2]
            exact last _ (by omega) (by omega)
          · rw [if_neg (by omega), if_neg (by omega), if_neg (by decide), if_neg c2]
            exact last _ (by omega) (by omega)
  · rw [if_neg hr, if_neg (by decide), if_neg hr]

theorem MoneyFees (p l m a : Int) : groatlaw10_MoneyFees.f 9 p l m a = some true := by
  unfold groatlaw10_MoneyFees.f
  rw [shown_true, fee_spec, ref_fee, check_spec, ref_check]
  simp

end Go.Proofs.Ytdbcjlkbiebpfaa.Pure
