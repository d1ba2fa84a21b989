/- Fees: walked. -/
import Derived.Test.YtklcooepolmemaaW2
import Derived.Test.YtklcooepolmemaaFee
import Derived.IntWalk
namespace Go.Proofs.Ytklcooepolmemaa
open Go.RowKit Mem
theorem max2I (k k' : IntKind) (x y : Int) : Builtin.max2 (.int k x) (.int k' y) = pure (.int k (Lem.mxI x y)) := by simp only [Builtin.max2, gt_iff_lt]; rfl
theorem min2I (k k' : IntKind) (x y : Int) : Builtin.min2 (.int k x) (.int k' y) = pure (.int k (Lem.mnI x y)) := by simp only [Builtin.min2]; rfl
theorem maxTwo (ats : Array TypeId) (ty : TypeId) (a b : Value) : Builtin.max_ ats ty #[a, b] = (Builtin.max2 a b >>= fun s => pure s) := by simp only [Builtin.max_, List.foldlM_cons, List.foldlM_nil]
theorem minThree (ats : Array TypeId) (ty : TypeId) (a b c : Value) : Builtin.min_ ats ty #[a, b, c] = (Builtin.min2 a b >>= fun s => Builtin.min2 s c >>= fun s => pure s) := by simp only [Builtin.min_, List.foldlM_cons, List.foldlM_nil]
attribute [local go_sem] max2I min2I maxTwo minThree
def checkE (p l m : Int) : Int := if Lem.rateOK p l m then 0 else 101
theorem checkE_yes {p l m : Int} (h : Lem.rateOK p l m) : checkE p l m = 0 := if_pos h
theorem checkE_no {p l m : Int} (h : ¬ Lem.rateOK p l m) : checkE p l m = 101 := if_neg h
theorem rate_cases (p l m : Int) : (Lem.rateOK p l m ∧ decide (p < 0) = false ∧ decide (10000 < p) = false ∧ decide (l < 0) = false ∧ decide (m < l) = false ∧ decide (999999999999 < m) = false ∧ decide (999999999999 < l) = false) ∨
    (¬ Lem.rateOK p l m ∧ (decide (p < 0) = true ∨ (decide (p < 0) = false ∧ decide (10000 < p) = true) ∨ (decide (p < 0) = false ∧ decide (10000 < p) = false ∧ decide (l < 0) = true) ∨
      (decide (p < 0) = false ∧ decide (10000 < p) = false ∧ decide (l < 0) = false ∧ decide (999999999999 < l) = false ∧ decide (m < l) = true) ∨ (decide (p < 0) = false ∧ decide (10000 < p) = false ∧ decide (l < 0) = false ∧ decide (999999999999 < l) = false ∧ decide (m < l) = false ∧ decide (999999999999 < m) = true) ∨
      (decide (p < 0) = false ∧ decide (10000 < p) = false ∧ decide (l < 0) = false ∧ decide (999999999999 < l) = true ∧ decide (m < l) = true) ∨ (decide (p < 0) = false ∧ decide (10000 < p) = false ∧ decide (l < 0) = false ∧ decide (999999999999 < l) = true ∧ decide (m < l) = false ∧ decide (999999999999 < m) = true))) := by
  unfold Lem.rateOK
  simp only [decide_eq_true_eq, decide_eq_false_iff_not]
  omega
set_option maxHeartbeats 1600000 in
theorem check_any (p l m : Int) (w : World) : Calls Try.prog 34 #[.agg #[.int .i64 p, .int .i64 l, .int .i64 m]] w fun e w' => e = .returned (.int .i64 (checkE p l m)) ∧ Keeps (fun _ => False) w w' := by
  rcases rate_cases p l m with ⟨h, t1, t2, t3, t4, t5, t6⟩ | ⟨h, t1 | ⟨t1, t2⟩ | ⟨t1, t2, t3⟩ | ⟨t1, t2, t3, t6, t4⟩ | ⟨t1, t2, t3, t6, t4, t5⟩ | ⟨t1, t2, t3, t6, t4⟩ | ⟨t1, t2, t3, t6, t4, t5⟩⟩
  · rw [checkE_yes h]
    clear h
    go_enter Try.func34, Try.ntmps34
    go_wp2_with fail
    go_ret
    exact ⟨rfl, (Keeps.refl (fun _ => False) w).alloc _⟩
  all_goals
    rw [checkE_no h]
    clear h
    go_enter Try.func34, Try.ntmps34
    go_wp2_with fail
    go_ret
    exact ⟨rfl, (Keeps.refl (fun _ => False) w).alloc _⟩
set_option maxHeartbeats 1600000 in
theorem refCheck_any (p l m : Int) (w : World) : Calls Try.prog 35 #[.agg #[.int .i64 p, .int .i64 l, .int .i64 m]] w fun e w' => e = .returned (.int .i64 (checkE p l m)) ∧ Keeps (fun _ => False) w w' := by
  rcases rate_cases p l m with ⟨h, t1, t2, t3, t4, t5, t6⟩ | ⟨h, t1 | ⟨t1, t2⟩ | ⟨t1, t2, t3⟩ | ⟨t1, t2, t3, t6, t4⟩ | ⟨t1, t2, t3, t6, t4, t5⟩ | ⟨t1, t2, t3, t6, t4⟩ | ⟨t1, t2, t3, t6, t4, t5⟩⟩
  · rw [checkE_yes h]
    clear h
    go_enter Try.func35, Try.ntmps35
    go_wp2_with fail
    go_ret
    exact ⟨rfl, (Keeps.refl (fun _ => False) w).alloc _⟩
  all_goals
    rw [checkE_no h]
    clear h
    go_enter Try.func35, Try.ntmps35
    go_wp2_with fail
    go_ret
    exact ⟨rfl, (Keeps.refl (fun _ => False) w).alloc _⟩
theorem rnd_cases (x q r : Int) (hq : q = x / 10000) (hr : r = x % 10000) : (r = 5000 ∧ q % 2 = 0 ∧ Lem.rnd x = q) ∨ (r = 5000 ∧ q % 2 = 1 ∧ Lem.rnd x = q + 1) ∨ (r ≠ 5000 ∧ r > 5000 ∧ Lem.rnd x = q + 1) ∨ (r ≠ 5000 ∧ r < 5000 ∧ Lem.rnd x = q) := by
  unfold Lem.rnd
  subst hq hr
  by_cases h1 : x % 10000 = 5000
  · by_cases h2 : x / 10000 % 2 = 0
    · left; rw [if_pos h1, if_pos h2]; exact ⟨h1, h2, rfl⟩
    · right; left; rw [if_pos h1, if_neg h2]; exact ⟨h1, by omega, rfl⟩
  · by_cases h2 : x % 10000 > 5000
    · right; right; left; rw [if_neg h1, if_pos h2]; exact ⟨h1, h2, rfl⟩
    · right; right; right; rw [if_neg h1, if_neg h2]; exact ⟨h1, by omega, rfl⟩
set_option maxHeartbeats 3200000 in
theorem fee_in (p l m a : Int) (h : Lem.rateOK p l m) (h0 : 0 ≤ a) (h1 : a ≤ 999999999999) (w : World) : Calls Try.prog 28 #[.agg #[.int .i64 p, .int .i64 l, .int .i64 m], .int .i64 a] w fun e w' => e = .returned (.tuple #[.int .i64 (Lem.fee p l m a), .int .i64 0]) ∧ Keeps (fun _ => False) w w' := by
  have hx := Lem.prod_range h h0 h1
  have hc := checkE_yes h
  obtain ⟨x, hx'⟩ : ∃ x, x = a * p := ⟨_, rfl⟩
  rw [← hx'] at hx
  obtain ⟨q, hq⟩ : ∃ q, q = x / 10000 := ⟨_, rfl⟩
  obtain ⟨r, hr⟩ : ∃ r, r = x % 10000 := ⟨_, rfl⟩
  have hm : IntKind.i64.wrap (a * p) = x := by rw [← hx']; exact IntWalk.i64_in _ (by omega)
  have hd : x.tdiv 10000 = q := by rw [Int.tdiv_eq_ediv_of_nonneg hx.1, hq]
  have he : x.tmod 10000 = r := by rw [Int.tmod_eq_emod_of_nonneg hx.1, hr]
  have hq0 : 0 ≤ q := by omega
  have hq1 : q ≤ 999999999999 := by omega
  have hr0 : 0 ≤ r := by omega
  have hr1 : r < 10000 := by omega
  have hrn := rnd_cases x q r hq hr
  have hwq : IntKind.i64.wrap q = q := IntWalk.i64_in _ (by omega)
  have t1 : decide (a < 0) = false := by simp; omega
  have t2 : decide (999999999999 < a) = false := by simp; omega
  have HC := Lib.hid hc
  have HX := Lib.hid hx'
  clear hq hr hc h hx'
  rcases hrn with ⟨h3, h4, h5⟩ | ⟨h3, h4, h5⟩ | ⟨h3, h4, h5⟩ | ⟨h3, h4, h5⟩
  all_goals
    have H5 := Lib.hid h5
    clear h5
    go_enter Try.func28, Try.ntmps28
    go_wp2_with (go_at_call 34; refine (check_any p l m _).mono ?_
                 rintro e w2 ⟨rfl, k2⟩
                 rw [HC.out]
                 have hb := (Blk.new w 47 #[.int .i64 p, .int .i64 l, .int .i64 m] _ rfl).keeps k2 (fun h => h)
                 have c0 := hb.cell 0
                 have c1 := hb.cell 1
                 have c2 := hb.cell 2
                 simp at c0 c1 c2
                 have K2 := Lib.hid (((Keeps.refl (fun _ => False) w).alloc _).trans k2 (fun _ _ h => h))
                 clear hb k2)
    go_quiet (fail)
    go_wp2_with fail
    go_ret2
    unfold Lem.fee
    rw [← HX.out, H5.out]
    exact ⟨rfl, K2.out.drewN _⟩
theorem ret_two {a b : Int} (h : a = b) : Ending.returned (.tuple #[.int .i64 a, .int .i64 0]) = .returned (.tuple #[.int .i64 b, .int .i64 0]) := by rw [h]
theorem fee_range {p l m a : Int} (hr : Lem.rateOK p l m) (h0 : 0 ≤ a) (h1 : a ≤ 999999999999) : 0 ≤ Lem.fee p l m a ∧ Lem.fee p l m a ≤ a := by
  have hn := (Lem.rnd_near (Lem.prod_range hr h0 h1).1).2.2.1
  have h2 := hr.2.2.1
  have h3 := hr.2.2.2.1
  unfold Lem.fee
  generalize Lem.rnd (a * p) = n at *
  unfold Lem.mnI Lem.mxI
  by_cases c1 : n < l
  · rw [if_pos c1]
    by_cases c2 : m < l
    · omega
    · rw [if_neg c2]
      split <;> omega
  · rw [if_neg c1]
    by_cases c2 : m < n
    · rw [if_pos c2]
      split <;> omega
    · rw [if_neg c2]
      split <;> omega
theorem feeAll_zero {p l m a : Int} (h : (Lem.feeAll p l m a).2 = 0) : 0 ≤ a ∧ a ≤ 999999999999 ∧ 0 ≤ (Lem.feeAll p l m a).1 ∧ (Lem.feeAll p l m a).1 ≤ a := by
  by_cases hr : Lem.rateOK p l m
  · by_cases ha : a < 0 ∨ a > 999999999999
    · rw [Lem.feeAll_out hr ha] at h; cases h
    · have h0 : 0 ≤ a := by omega
      have h1 : a ≤ 999999999999 := by omega
      have := fee_range hr h0 h1
      rw [Lem.feeAll_ok hr h0 h1]
      exact ⟨h0, h1, this.1, this.2⟩
  · rw [Lem.feeAll_no hr] at h; cases h
set_option maxHeartbeats 3200000 in
theorem fee_any (p l m a : Int) (w : World) : Calls Try.prog 28 #[.agg #[.int .i64 p, .int .i64 l, .int .i64 m], .int .i64 a] w fun e w' => e = .returned (.tuple #[.int .i64 (Lem.feeAll p l m a).1, .int .i64 (Lem.feeAll p l m a).2]) ∧ Keeps (fun _ => False) w w' := by
  by_cases h : Lem.rateOK p l m
  · have hc := checkE_yes h
    have HC := Lib.hid hc
    clear hc
    rcases (show a < 0 ∨ (¬ a < 0 ∧ 999999999999 < a) ∨ (0 ≤ a ∧ a ≤ 999999999999) by omega) with h1 | ⟨h1, h2⟩ | ⟨h1, h2⟩
    · rw [Lem.feeAll_out h (Or.inl h1)]
      clear h
      go_enter Try.func28, Try.ntmps28
      go_wp2_with (go_at_call 34; refine (check_any p l m _).mono ?_
                   rintro e w2 ⟨rfl, k2⟩
                   rw [HC.out]
                   have K2 := Lib.hid (((Keeps.refl (fun _ => False) w).alloc _).trans k2 (fun _ _ h => h))
                   clear k2)
      go_ret2
      exact ⟨rfl, K2.out⟩
    · rw [Lem.feeAll_out h (Or.inr h2)]
      clear h
      go_enter Try.func28, Try.ntmps28
      go_wp2_with (go_at_call 34; refine (check_any p l m _).mono ?_
                   rintro e w2 ⟨rfl, k2⟩
                   rw [HC.out]
                   have K2 := Lib.hid (((Keeps.refl (fun _ => False) w).alloc _).trans k2 (fun _ _ h => h))
                   clear k2)
      go_ret2
      exact ⟨rfl, K2.out⟩
    · rw [Lem.feeAll_ok h h1 h2]
      exact fee_in p l m a h h1 h2 w
  · have hc := checkE_no h
    have HC := Lib.hid hc
    clear hc
    rw [Lem.feeAll_no h]
    clear h
    go_enter Try.func28, Try.ntmps28
    go_wp2_with (go_at_call 34; refine (check_any p l m _).mono ?_
                 rintro e w2 ⟨rfl, k2⟩
                 rw [HC.out]
                 have K2 := Lib.hid (((Keeps.refl (fun _ => False) w).alloc _).trans k2 (fun _ _ h => h))
                 clear k2)
    go_ret2
    exact ⟨rfl, K2.out⟩
theorem twice_cases (x q r : Int) (hq : q = x / 10000) (hr : r = x % 10000) : (decide (10000 < 2 * r) = true ∧ Lem.rnd x = q + 1) ∨ (decide (10000 < 2 * r) = false ∧ (2 * r == 10000) = true ∧ (q % 2 == 1) = true ∧ Lem.rnd x = q + 1) ∨ (decide (10000 < 2 * r) = false ∧ (2 * r == 10000) = true ∧ (q % 2 == 1) = false ∧ Lem.rnd x = q) ∨ (decide (10000 < 2 * r) = false ∧ (2 * r == 10000) = false ∧ Lem.rnd x = q) := by
  rcases rnd_cases x q r hq hr with ⟨h1, h2, h3⟩ | ⟨h1, h2, h3⟩ | ⟨h1, h2, h3⟩ | ⟨h1, h2, h3⟩
  · right; right; left; exact ⟨by simp; omega, by simp; omega, by simp; omega, h3⟩
  · right; left; exact ⟨by simp; omega, by simp; omega, by simp; omega, h3⟩
  · left; exact ⟨by simp; omega, h3⟩
  · right; right; right; exact ⟨by simp; omega, by simp; omega, h3⟩
set_option maxHeartbeats 6400000 in
theorem refFee_in (p l m a : Int) (h : Lem.rateOK p l m) (h0 : 0 ≤ a) (h1 : a ≤ 999999999999) (w : World) : Calls Try.prog 30 #[.agg #[.int .i64 p, .int .i64 l, .int .i64 m], .int .i64 a] w fun e w' => e = .returned (.tuple #[.int .i64 (Lem.fee p l m a), .int .i64 0]) ∧ Keeps (fun _ => False) w w' := by
  have hx := Lem.prod_range h h0 h1
  have hc := checkE_yes h
  obtain ⟨x, hx'⟩ : ∃ x, x = a * p := ⟨_, rfl⟩
  rw [← hx'] at hx
  obtain ⟨q, hq⟩ : ∃ q, q = x / 10000 := ⟨_, rfl⟩
  obtain ⟨r, hr⟩ : ∃ r, r = x % 10000 := ⟨_, rfl⟩
  have hq0 : 0 ≤ q := by omega
  have hq1 : q ≤ 999999999999 := by omega
  have hr0 : 0 ≤ r := by omega
  have hr1 : r < 10000 := by omega
  have hrn := twice_cases x q r hq hr
  have HX := Lib.hid hx'
  have HC := Lib.hid hc
  have t1 : decide (a < 0) = false := by simp; omega
  have t2 : decide (999999999999 < a) = false := by simp; omega
  have hm : wrap64 (a * p) = x := by rw [← hx']; exact Lem.wrap_in (by omega) (by omega)
  have hd : x.tdiv 10000 = q := by rw [Int.tdiv_eq_ediv_of_nonneg hx.1, hq]
  have he : x.tmod 10000 = r := by rw [Int.tmod_eq_emod_of_nonneg hx.1, hr]
  have hd2 : x / 10000 = q := hq.symm
  have he2 : x % 10000 = r := hr.symm
  clear hq hr hc h hx'
  rcases hrn with ⟨h3, h5⟩ | ⟨h3, h4, h6, h5⟩ | ⟨h3, h4, h6, h5⟩ | ⟨h3, h4, h5⟩
  all_goals
    have hfee : Lem.fee p l m a = Lem.mnI (Lem.mnI (Lem.mxI (Lem.rnd x) l) m) a := by unfold Lem.fee; rw [← HX.out]
    rw [h5] at hfee
    have HF := Lib.hid hfee
    clear h5 hfee
    go_enter Try.func30, Try.ntmps30
    go_wp2_with (go_at_call 35; refine (refCheck_any p l m _).mono ?_
                 rintro e w2 ⟨rfl, k2⟩
                 rw [HC.out]
                 have hb := (Blk.new w 47 #[.int .i64 p, .int .i64 l, .int .i64 m] _ rfl).keeps k2 (fun h => h)
                 have c0 := hb.cell 0
                 have c1 := hb.cell 1
                 have c2 := hb.cell 2
                 simp at c0 c1 c2
                 have K2 := Lib.hid (((Keeps.refl (fun _ => False) w).alloc _).trans k2 (fun _ _ h => h))
                 clear hb k2)
    all_goals
      go_ret2
      refine ⟨ret_two ?_, K2.out⟩
      rw [HF.out]
      unfold Lem.mnI Lem.mxI
      repeat' split
      all_goals omega
set_option maxHeartbeats 3200000 in
theorem refFee_any (p l m a : Int) (w : World) : Calls Try.prog 30 #[.agg #[.int .i64 p, .int .i64 l, .int .i64 m], .int .i64 a] w fun e w' => e = .returned (.tuple #[.int .i64 (Lem.feeAll p l m a).1, .int .i64 (Lem.feeAll p l m a).2]) ∧ Keeps (fun _ => False) w w' := by
  by_cases h : Lem.rateOK p l m
  · have hc := checkE_yes h
    have HC := Lib.hid hc
    clear hc
    rcases (show a < 0 ∨ (¬ a < 0 ∧ 999999999999 < a) ∨ (0 ≤ a ∧ a ≤ 999999999999) by omega) with h1 | ⟨h1, h2⟩ | ⟨h1, h2⟩
    · rw [Lem.feeAll_out h (Or.inl h1)]
      clear h
      go_enter Try.func30, Try.ntmps30
      go_wp2_with (go_at_call 35; refine (refCheck_any p l m _).mono ?_
                   rintro e w2 ⟨rfl, k2⟩
                   rw [HC.out]
                   have K2 := Lib.hid (((Keeps.refl (fun _ => False) w).alloc _).trans k2 (fun _ _ h => h))
                   clear k2)
      go_ret2
      exact ⟨rfl, K2.out⟩
    · rw [Lem.feeAll_out h (Or.inr h2)]
      clear h
      go_enter Try.func30, Try.ntmps30
      go_wp2_with (go_at_call 35; refine (refCheck_any p l m _).mono ?_
                   rintro e w2 ⟨rfl, k2⟩
                   rw [HC.out]
                   have K2 := Lib.hid (((Keeps.refl (fun _ => False) w).alloc _).trans k2 (fun _ _ h => h))
                   clear k2)
      go_ret2
      exact ⟨rfl, K2.out⟩
    · rw [Lem.feeAll_ok h h1 h2]
      exact refFee_in p l m a h h1 h2 w
  · have hc := checkE_no h
    have HC := Lib.hid hc
    clear hc
    rw [Lem.feeAll_no h]
    clear h
    go_enter Try.func30, Try.ntmps30
    go_wp2_with (go_at_call 35; refine (refCheck_any p l m _).mono ?_
                 rintro e w2 ⟨rfl, k2⟩
                 rw [HC.out]
                 have K2 := Lib.hid (((Keeps.refl (fun _ => False) w).alloc _).trans k2 (fun _ _ h => h))
                 clear k2)
    go_ret2
    exact ⟨rfl, K2.out⟩
end Go.Proofs.Ytklcooepolmemaa
