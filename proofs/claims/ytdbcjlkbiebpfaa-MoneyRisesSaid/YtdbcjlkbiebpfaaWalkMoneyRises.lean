/- A greater amount's fee is no less, more parts make no less, and a fee is nought to the amount: for every rate, every two amounts and every other parts. -/
import Derived.Test.YtdbcjlkbiebpfaaPMoneyRisesx1
import Derived.Test.YtdbcjlkbiebpfaaPureMoneyRises
import Derived.Lib.Hide
namespace Go.Proofs.Ytdbcjlkbiebpfaa.Pure
open Go.RowKit Go.Proofs.Ytdbcjlkbiebpfaa.PMoneyRises Go.Proofs.Ytdbcjlkbiebpfaa.Lem Go.Proofs.YtdbcjlkbiebpfaaW.PrintWords Go.Proofs.YtdbcjlkbiebpfaaW.PrintLast Go.Proofs.YtdbcjlkbiebpfaaW.PrintMore
attribute [local go_sem] max2_int min2_int

theorem bcell {W w1 : World} (hb : Below W.heap.size W w1) : (∀ b o, b < W.heap.size → w1.cell? ⟨b, o, none⟩ = W.cell? ⟨b, o, none⟩) ∧ (∀ b o, b < W.heap.size → w1.frozen? ⟨b, o, none⟩ = W.frozen? ⟨b, o, none⟩) :=
  ⟨fun b o h => hb.cell (p := ⟨b, o, none⟩) h, fun b o h => hb.frozen (p := ⟨b, o, none⟩) h⟩

theorem fee_calls (p l m a : Int) (w : World) : Calls Try.prog 15 #[.agg #[.int .i64 p, .int .i64 l, .int .i64 m], .int .i64 a] w fun e w' =>
    e = .returned (.tuple #[.int .i64 (feeAll p l m a).1, .int .i64 (feeAll p l m a).2]) ∧ Below w.heap.size w w' :=
  money_Fee.calls 1 p l m a _ _ w (fee_spec 0)

theorem fee_in {p l m a : Int} (h : (feeAll p l m a).2 = 0) : rateOK p l m ∧ 0 ≤ a ∧ a ≤ 999999999999 ∧ feeAll p l m a = (fee p l m a, 0) := by
  by_cases hr : rateOK p l m
  · by_cases ha : a < 0 ∨ a > 999999999999
    · rw [feeAll_out hr ha] at h; cases h
    · exact ⟨hr, by omega, by omega, feeAll_ok hr (by omega) (by omega)⟩
  · rw [feeAll_no hr] at h; cases h
theorem low {p l m a : Int} (h : (feeAll p l m a).2 = 0) : 0 ≤ (feeAll p l m a).1 ∧ (feeAll p l m a).1 ≤ a := by
  obtain ⟨hr, h0, h1, e⟩ := fee_in h
  rw [e]
  have hn := (rnd_near (prod_range hr h0 h1).1).2.2.1
  have h2 := hr.2.2.1
  have h3 := hr.2.2.2.1
  show 0 ≤ fee p l m a ∧ fee p l m a ≤ a
  unfold fee
  generalize rnd (a * p) = n at *
  unfold mnI mxI
  by_cases c1 : n < l
  · rw [if_pos c1]
    by_cases c2 : m < l
    · omega
    · rw [if_neg c2]
      split <;> omega
  · rw [if_neg c1]
    by_cases c2 : m < n
    · rw [if_pos c2]
      split <;> omega
    · rw [if_neg c2]
      split <;> omega
theorem mnmx_mono {n k l m a b : Int} (h : n ≤ k) (hab : a ≤ b) : mnI (mnI (mxI n l) m) a ≤ mnI (mnI (mxI k l) m) b := by
  have h1 : mxI n l ≤ mxI k l := by unfold mxI; split <;> split <;> omega
  have h2 : mnI (mxI n l) m ≤ mnI (mxI k l) m := by unfold mnI; split <;> split <;> omega
  generalize mnI (mxI n l) m = x at *
  generalize mnI (mxI k l) m = y at *
  unfold mnI
  split <;> split <;> omega
theorem more_amount {p l m a b : Int} (hab : a ≤ b) (h : (feeAll p l m a).2 = 0) (h' : (feeAll p l m b).2 = 0) : (feeAll p l m a).1 ≤ (feeAll p l m b).1 := by
  obtain ⟨hr, h0, h1, e⟩ := fee_in h
  obtain ⟨_, h0', h1', e'⟩ := fee_in h'
  rw [e, e']
  exact mnmx_mono (rnd_mono (Int.mul_le_mul_of_nonneg_right hab hr.1)) hab
theorem more_parts {p q l m a : Int} (hpq : p ≤ q) (h : (feeAll p l m a).2 = 0) (h' : (feeAll q l m a).2 = 0) : (feeAll p l m a).1 ≤ (feeAll q l m a).1 := by
  obtain ⟨hr, h0, h1, e⟩ := fee_in h
  obtain ⟨_, h0', h1', e'⟩ := fee_in h'
  rw [e, e']
  exact mnmx_mono (rnd_mono (Int.mul_le_mul_of_nonneg_left hpq h0)) (Int.le_refl _)

set_option maxHeartbeats 1000000 in
theorem rises_any (p l m a b q : Int) (w : World) : Calls Try.prog 6 #[.agg #[.int .i64 p, .int .i64 l, .int .i64 m], .agg #[.int .i64 a, .int .i64 b], .int .i64 q] w fun e w' => e = .returned (.bool true) ∧ Below w.heap.size w w' := by
  rcases (show b < a ∨ a < b ∨ a = b from by omega) with hab | hab | rfl <;> rcases (show p < q ∨ q ≤ p from by omega) with hpq | hpq
  all_goals
   go_enter Try.func6, Try.ntmps6
   go_wp2_with fail
   refine (groatlaw10_shown.calls 9 true _ shown_true).mono ?_
   rintro e w1 ⟨rfl, hb1⟩
   obtain ⟨hc1, hf1⟩ := bcell hb1
   have hz1 : w.heap.size + 1 < w1.heap.size := by have := hb1.size; simp at this; omega
   have hl1 : w.heap.size < w1.heap.size := by omega
   have B1 := Lib.hid (below_then (((Below.refl w.heap.size w).alloc (Nat.le_refl _) _).alloc (by simp) _) (by simp; omega) hb1)
   go_wp2_with fail
   go_quiet (fail)
   go_wp2_with fail
   all_goals
     refine (fee_calls _ _ _ _ _).mono ?_
     rintro e w2 ⟨rfl, hb2⟩
     obtain ⟨hc2, hf2⟩ := bcell hb2
     have hz2 : w1.heap.size < w2.heap.size := by have := hb2.size; simp at this; omega
     have hl2 : w.heap.size < w2.heap.size := by omega
     have hl3 : w.heap.size + 1 < w2.heap.size := by omega
     have B2 := Lib.hid (below_then ((pw_below_drewN (B1.out.alloc (Nat.le_of_lt hl1) _) nq).setCell (Nat.le_of_lt hl1) _) (by simp; omega) hb2)
     go_wp2_with fail
     refine (fee_calls _ _ _ _ _).mono ?_
     rintro e w3 ⟨rfl, hb3⟩
     obtain ⟨hc3, hf3⟩ := bcell hb3
     have hz3 : w2.heap.size ≤ w3.heap.size := hb3.size
     have hl4 : w.heap.size < w3.heap.size := by omega
     have hl5 : w1.heap.size < w3.heap.size := by omega
     have B3 := Lib.hid (below_then B2.out (by omega) hb3)
     go_wp2_with fail
     refine (fee_calls _ _ _ _ _).mono ?_
     rintro e w4 ⟨rfl, hb4⟩
     have B4 := Lib.hid (below_then B3.out (by omega) hb4)
     clear hc1 hf1 hc2 hf2 hc3 hf3
     go_wp2_with fail
  all_goals first
    | (exfalso; have x1 := low ‹(feeAll p l m b).2 = 0›; omega)
    | (exfalso; have x1 := low ‹(feeAll p l m a).2 = 0›; omega)
    | (exfalso; have x1 := more_amount (show a ≤ b by omega) ‹(feeAll p l m a).2 = 0› ‹(feeAll p l m b).2 = 0›; omega)
    | (exfalso; have x1 := more_amount (show b ≤ a by omega) ‹(feeAll p l m b).2 = 0› ‹(feeAll p l m a).2 = 0›; omega)
    | (go_ret; exact ⟨rfl, B4.out⟩)
    | (have x1 := more_parts (show p ≤ q by omega) ‹(feeAll p l m b).2 = 0› ‹(feeAll q l m b).2 = 0›; go_ret; refine ⟨?_, B4.out⟩; simp [x1]; done)
    | (have x1 := more_parts (show p ≤ q by omega) ‹(feeAll p l m a).2 = 0› ‹(feeAll q l m a).2 = 0›; go_ret; refine ⟨?_, B4.out⟩; simp [x1]; done)
end Go.Proofs.Ytdbcjlkbiebpfaa.Pure
