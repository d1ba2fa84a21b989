/- The fee of two amounts together is, without ends, at most one coin away from the fees of both: for every parts and every two amounts whose sum may be. -/
import Derived.Test.YtdbcjlkbiebpfaaPMoneyPairsx1
import Derived.Test.YtdbcjlkbiebpfaaLem
import Derived.Test.YtdbcjlkbiebpfaaFee
namespace Go.Proofs.Ytdbcjlkbiebpfaa.Pure
open Go.RowKit Go.Proofs.Ytdbcjlkbiebpfaa.PMoneyPairs Go.Proofs.Ytdbcjlkbiebpfaa.Lem Go.Proofs.YtdbcjlkbiebpfaaW.PrintWords Go.Proofs.YtdbcjlkbiebpfaaW.PrintLast Go.Proofs.YtdbcjlkbiebpfaaW.PrintMore

theorem shown_true : groatlaw10_shown.f 9 = some true := by decide +kernel

theorem check_spec (p l m : Int) : money_Check.f p l m = some (if rateOK p l m then 0 else 101) := by
  unfold money_Check.f
  by_cases h : rateOK p l m
  · rw [if_pos h]
    obtain ⟨h1, h2, h3, h4, h5⟩ := h
    rw [if_neg (by omega), if_neg (by omega), if_neg (by omega), if_neg (by omega), if_neg (by omega)]
  · rw [if_neg h]
    unfold rateOK at h
    repeat' split
    all_goals first | rfl | omega

theorem fee_spec (k : Nat) {p l m a : Int} : money_Fee.f (k + 1) p l m a = some (feeAll p l m a) := by
  unfold money_Fee.f feeAll
  rw [check_spec]
  simp only [Option.bind_some]
  by_cases hr : rateOK p l m
  · rw [if_pos hr, if_pos rfl, if_pos hr]
    by_cases h0 : a < 0
    · rw [if_pos h0, if_pos (Or.inl h0)]
      rfl
    · rw [if_neg h0]
      by_cases h1 : a > 999999999999
      · rw [if_pos (Or.inr h1), decide_eq_true h1]
        rfl
      · rw [if_neg (by omega), decide_eq_false h1]
        have hx := prod_range hr (show 0 ≤ a by omega) (show a ≤ 999999999999 by omega)
        simp only [money_Fee.j0]
        rw [if_neg (by decide), wrap_in (by omega) (by omega), Int.tmod_eq_emod_of_nonneg hx.1, Int.tdiv_eq_ediv_of_nonneg hx.1]
        unfold fee rnd
        generalize a * p = x at *
        rw [wrap_in (n := x / 10000) (by omega) (by omega), wrap_in (n := x / 10000 + 1) (by omega) (by omega), Int.tmod_eq_emod_of_nonneg (by omega)]
        by_cases c1 : x % 10000 = 5000
        · rw [if_pos c1]
          by_cases c2 : x / 10000 % 2 = 0
          · rw [if_pos c2, if_pos c1, if_pos c2]; rfl
          · rw [if_neg c2, if_pos c1, if_neg c2]; rfl
        · rw [if_neg c1]
          by_cases c2 : x % 10000 > 5000
          · rw [if_pos c2, if_neg c1, if_pos c2]; rfl
          · rw [if_neg c2, if_neg c1, if_neg c2]; rfl
  · rw [if_neg hr, if_neg (by decide), if_neg hr]

theorem MoneyPairs : groatlaw10_MoneyPairs.Pure := by
  intro p a b wp wa wb
  have ra := wf_range wa
  have rb := wf_range wb
  refine ⟨9, ?_⟩
  unfold groatlaw10_MoneyPairs.f
  rw [shown_true, fee_spec, fee_spec]
  simp only [Option.bind_some, if_true]
  by_cases hr : rateOK p 0 999999999999
  · by_cases ha : a < 0 ∨ a > 999999999999
    · rw [feeAll_out hr ha]; rfl
    by_cases hb : b < 0 ∨ b > 999999999999
    · rw [feeAll_out (a := b) hr hb]
      rw [feeAll_ok hr (show 0 ≤ a by omega) (by omega)]; rfl
    rw [feeAll_ok hr (show 0 ≤ a by omega) (by omega), feeAll_ok hr (show 0 ≤ b by omega) (by omega)]
    simp only [if_true]
    rw [wrap_in (n := a + b) (by omega) (by omega)]
    by_cases hs : a + b > 999999999999
    · rw [if_pos hs]
    rw [if_neg hs, fee_spec, feeAll_ok hr (show 0 ≤ a + b by omega) (by omega), fee_free hr (show 0 ≤ a by omega) (by omega), fee_free hr (show 0 ≤ b by omega) (by omega), fee_free hr (show 0 ≤ a + b by omega) (by omega)]
    simp only [Option.bind_some, if_true]
    have x1 := rnd_near (prod_range hr (show 0 ≤ a by omega) (by omega)).1
    have x2 := rnd_near (prod_range hr (show 0 ≤ b by omega) (by omega)).1
    have x3 := rnd_near (prod_range hr (show 0 ≤ a + b by omega) (by omega)).1
    have y1 := prod_range hr (show 0 ≤ a by omega) (by omega)
    have y2 := prod_range hr (show 0 ≤ b by omega) (by omega)
    rw [Int.add_mul] at x3
    rw [Int.add_mul]
    generalize a * p = x at *
    generalize b * p = y at *
    generalize rnd x = n at *
    generalize rnd y = m at *
    generalize rnd (x + y) = q at *
    rw [wrap_in (n := q - n) (by omega) (by omega), wrap_in (n := q - n - m) (by omega) (by omega), if_pos (by omega), decide_eq_true (by omega)]
  · rw [feeAll_no hr]; rfl

end Go.Proofs.Ytdbcjlkbiebpfaa.Pure
