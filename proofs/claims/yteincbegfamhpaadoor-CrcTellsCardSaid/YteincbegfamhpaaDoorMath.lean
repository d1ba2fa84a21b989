/- Check sums in plain numbers: the register as a natural number of any size, four bits by the table, bytes as one great number. -/
import Derived.KernelRfl
namespace Go.Proofs.YteincbegfamhpaaDoor.Math

def poly : Nat := 0x82f63b78
/-- One bit's step. -/
def st (x : Nat) : Nat := x / 2 ^^^ (if x % 2 = 1 then poly else 0)
def sts : Nat → Nat → Nat
  | 0, x => x
  | k + 1, x => sts k (st x)

theorem st_xor (x y : Nat) : st (x ^^^ y) = st x ^^^ st y := by
  unfold st
  rw [Nat.xor_div_two]
  have h : (x ^^^ y) % 2 = (x % 2) ^^^ (y % 2) := Nat.xor_mod_two_pow (n := 1)
  rcases Nat.mod_two_eq_zero_or_one x with hx | hx <;> rcases Nat.mod_two_eq_zero_or_one y with hy | hy <;> rw [h, hx, hy] <;> simp
  · ac_rfl
  · ac_rfl
  · rw [show x / 2 ^^^ poly ^^^ (y / 2 ^^^ poly) = (x / 2 ^^^ y / 2) ^^^ (poly ^^^ poly) by ac_rfl, Nat.xor_self, Nat.xor_zero]
theorem sts_xor (k : Nat) : ∀ x y : Nat, sts k (x ^^^ y) = sts k x ^^^ sts k y := by
  induction k with
  | zero => intro x y; rfl
  | succ k ih => intro x y; show sts k (st (x ^^^ y)) = _; rw [st_xor, ih]; rfl
theorem sts_add (j k x : Nat) : sts (j + k) x = sts k (sts j x) := by
  induction j generalizing x with
  | zero => rw [Nat.zero_add]; rfl
  | succ j ih => rw [Nat.succ_add]; exact ih _
theorem st_even (x : Nat) : st (2 * x) = x := by
  unfold st
  rw [if_neg (by omega), Nat.xor_zero]
  omega
theorem sts_shift (k x : Nat) : sts k (x * 2 ^ k) = x := by
  induction k with
  | zero => rw [Nat.pow_zero, Nat.mul_one]; rfl
  | succ k ih =>
    show sts k (st (x * 2 ^ (k + 1))) = x
    rw [show x * 2 ^ (k + 1) = 2 * (x * 2 ^ k) by rw [Nat.pow_succ, ← Nat.mul_assoc, Nat.mul_comm]]
    rw [st_even, ih]
theorem st_lt {x : Nat} (h : x < 4294967296) : st x < 4294967296 := by
  unfold st
  have h1 : x / 2 < 2 ^ 32 := by omega
  have h2 : (if x % 2 = 1 then poly else 0) < 2 ^ 32 := by split <;> decide
  exact Nat.xor_lt_two_pow h1 h2
theorem sts_lt (k : Nat) : ∀ {x : Nat}, x < 4294967296 → sts k x < 4294967296 := by
  induction k with
  | zero => intro x h; exact h
  | succ k ih => intro x h; exact ih (st_lt h)
theorem eq_of_xor {a b : Nat} (h : a ^^^ b = 0) : a = b := by
  have e : a ^^^ b ^^^ b = b := by rw [h, Nat.zero_xor]
  rw [Nat.xor_assoc, Nat.xor_self, Nat.xor_zero] at e
  exact e
theorem st_ne {x : Nat} (h : x < 4294967296) (h0 : x ≠ 0) : st x ≠ 0 := by
  unfold st
  intro e
  by_cases hx : x % 2 = 1
  · rw [if_pos hx] at e
    have e1 : x / 2 = poly := eq_of_xor e
    unfold poly at e1
    omega
  · rw [if_neg hx, Nat.xor_zero] at e
    omega
theorem sts_ne (k : Nat) : ∀ {x : Nat}, x < 4294967296 → x ≠ 0 → sts k x ≠ 0 := by
  induction k with
  | zero => intro x _ h; exact h
  | succ k ih => intro x h h0; exact ih (st_lt h) (st_ne h h0)

/-- The bytes as one number, the first one lowest. -/
def num : List Nat → Nat
  | [] => 0
  | c :: l => c + 256 * num l
/-- The register behind bytes. -/
def reg (r : Nat) : List Nat → Nat
  | [] => r
  | c :: l => reg (sts 8 (r ^^^ c)) l
theorem add_xor {c : Nat} (h : c < 256) (n : Nat) : c + 256 * n = c ^^^ (n * 2 ^ 8) := by
  apply Nat.eq_of_testBit_eq
  intro i
  rw [Nat.testBit_xor, Nat.testBit_mul_two_pow]
  rw [show c + 256 * n = 2 ^ 8 * n + c by omega, Nat.testBit_two_pow_mul_add n h]
  by_cases hi : i < 8
  · rw [if_pos hi, decide_eq_false (show ¬ 8 ≤ i by omega), Bool.false_and, Bool.xor_false]
  · have hc : c < 2 ^ i := Nat.lt_of_lt_of_le h (Nat.pow_le_pow_right (n := 2) (by decide) (show 8 ≤ i by omega))
    rw [if_neg hi, decide_eq_true (show 8 ≤ i by omega), Nat.testBit_lt_two_pow hc, Bool.true_and, Bool.false_xor]
theorem reg_sts (l : List Nat) (hl : ∀ c ∈ l, c < 256) : ∀ r : Nat, reg r l = sts (8 * l.length) (r ^^^ num l) := by
  induction l with
  | nil => intro r; show r = r ^^^ 0; rw [Nat.xor_zero]
  | cons c l ih =>
    intro r
    show reg (sts 8 (r ^^^ c)) l = _
    rw [ih (fun d hd => hl d (by simp [hd]))]
    show _ = sts (8 * (l.length + 1)) (r ^^^ (c + 256 * num l))
    rw [add_xor (hl c (by simp)), show 8 * (l.length + 1) = 8 + 8 * l.length by omega, sts_add, ← Nat.xor_assoc, sts_xor 8 (r ^^^ c), sts_shift]
theorem reg_append (r : Nat) (l m : List Nat) : reg r (l ++ m) = reg (reg r l) m := by
  induction l generalizing r with
  | nil => rfl
  | cons c l ih => exact ih _
theorem reg_lt (l : List Nat) (hl : ∀ c ∈ l, c < 256) : ∀ {r : Nat}, r < 4294967296 → reg r l < 4294967296 := by
  induction l with
  | nil => intro r h; exact h
  | cons c l ih =>
    intro r h
    refine ih (fun d hd => hl d (by simp [hd])) (sts_lt 8 ?_)
    have : c < 2 ^ 32 := Nat.lt_trans (hl c (by simp)) (by decide)
    exact Nat.xor_lt_two_pow (n := 32) h this

/-! Four bits by the table. -/
def tab : List Nat := [0x00000000, 0x105ec76f, 0x20bd8ede, 0x30e349b1, 0x417b1dbc, 0x5125dad3, 0x61c69362, 0x7198540d,
  0x82f63b78, 0x92a8fc17, 0xa24bb5a6, 0xb21572c9, 0xc38d26c4, 0xd3d3e1ab, 0xe330a81a, 0xf36e6f75]
theorem tab_sts : ∀ i : Fin 16, tab.getD i.val 0 = sts 4 i.val := by decide
theorem nib_sts (x : Nat) : tab.getD (x % 16) 0 ^^^ x / 16 = sts 4 x := by
  have h : x % 16 < 16 := Nat.mod_lt _ (by decide)
  have e := tab_sts ⟨x % 16, h⟩
  rw [e]
  show sts 4 (x % 16) ^^^ x / 16 = sts 4 x
  have e2 : x = x % 16 ^^^ (x / 16 * 2 ^ 4) := by
    apply Nat.eq_of_testBit_eq
    intro i
    rw [Nat.testBit_xor, Nat.testBit_mul_two_pow, show x % 16 = x % 2 ^ 4 from rfl, Nat.testBit_mod_two_pow, show x / 16 = x / 2 ^ 4 from rfl, Nat.testBit_div_two_pow]
    by_cases hi : i < 4
    · rw [decide_eq_true hi, decide_eq_false (show ¬ 4 ≤ i by omega), Bool.true_and, Bool.false_and, Bool.xor_false]
    · rw [decide_eq_false hi, decide_eq_true (show 4 ≤ i by omega), Bool.true_and, Bool.false_and, Bool.false_xor, show i - 4 + 4 = i by omega]
  conv => rhs; rw [e2, sts_xor, sts_shift]

/-! Three rows of one length. -/
theorem xor3 (x p q r : Nat) : (x ^^^ p) ^^^ (x ^^^ q) ^^^ (x ^^^ r) = x ^^^ (p ^^^ q ^^^ r) := by
  apply Nat.eq_of_testBit_eq
  intro i
  simp only [Nat.testBit_xor]
  cases x.testBit i <;> cases p.testBit i <;> cases q.testBit i <;> cases r.testBit i <;> rfl
theorem three (M K a b c : Nat) : (M ^^^ sts K (M ^^^ a)) ^^^ (M ^^^ sts K (M ^^^ b)) ^^^ (M ^^^ sts K (M ^^^ c)) = M ^^^ sts K (M ^^^ (a ^^^ b ^^^ c)) := by
  simp only [sts_xor]
  rw [xor3, xor3]
def mixL : List Nat → List Nat → List Nat → List Nat
  | a :: l, b :: m, c :: p => (a ^^^ b ^^^ c) :: mixL l m p
  | _, _, _ => []
theorem mixL_length : ∀ (l m p : List Nat) (n : Nat), l.length = n → m.length = n → p.length = n → (mixL l m p).length = n
  | [], [], [], _, h, _, _ => by simpa [mixL] using h
  | a :: l, b :: m, c :: p, n, h1, h2, h3 => by
    obtain ⟨k, rfl⟩ : ∃ k, n = k + 1 := ⟨l.length, by simpa using h1.symm⟩
    simp only [mixL, List.length_cons, Nat.add_right_cancel_iff] at *
    exact mixL_length l m p k h1 h2 h3
  | [], b :: m, _, n, h1, h2, _ => by simp at h1 h2; omega
  | [], [], c :: p, n, h1, _, h3 => by simp at h1 h3; omega
  | a :: l, [], _, n, h1, h2, _ => by simp at h1 h2; omega
  | a :: l, b :: m, [], n, h1, _, h3 => by simp at h1 h3; omega
theorem mixL_get : ∀ (l m p : List Nat) (j : Nat), j < l.length → j < m.length → j < p.length → (mixL l m p).getD j 0 = l.getD j 0 ^^^ m.getD j 0 ^^^ p.getD j 0
  | a :: l, b :: m, c :: p, 0, _, _, _ => rfl
  | a :: l, b :: m, c :: p, j + 1, h1, h2, h3 => by
    simp only [mixL, List.getD_cons_succ]
    exact mixL_get l m p j (by simpa using h1) (by simpa using h2) (by simpa using h3)
  | [], _, _, _, h, _, _ => by simp at h
  | _ :: _, [], _, _, _, h, _ => by simp at h
  | _ :: _, _ :: _, [], _, _, _, h => by simp at h
theorem xor_lt3 {a b c : Nat} (ha : a < 256) (hb : b < 256) (hc : c < 256) : a ^^^ b ^^^ c < 256 := Nat.xor_lt_two_pow (n := 8) (Nat.xor_lt_two_pow (n := 8) ha hb) hc
theorem mixL_lt : ∀ (l m p : List Nat), (∀ c ∈ l, c < 256) → (∀ c ∈ m, c < 256) → (∀ c ∈ p, c < 256) → ∀ c ∈ mixL l m p, c < 256
  | a :: l, b :: m, c :: p, h1, h2, h3, x, hx => by
    simp only [mixL, List.mem_cons] at hx
    rcases hx with rfl | hx
    · exact xor_lt3 (h1 a (by simp)) (h2 b (by simp)) (h3 c (by simp))
    · exact mixL_lt l m p (fun d hd => h1 d (by simp [hd])) (fun d hd => h2 d (by simp [hd])) (fun d hd => h3 d (by simp [hd])) x hx
  | [], _, _, _, _, _, x, hx => by simp [mixL] at hx
  | _ :: _, [], _, _, _, _, x, hx => by simp [mixL] at hx
  | _ :: _, _ :: _, [], _, _, _, x, hx => by simp [mixL] at hx
theorem mul_xor (x y k : Nat) : (x ^^^ y) * 2 ^ k = x * 2 ^ k ^^^ y * 2 ^ k := by
  rw [← Nat.shiftLeft_eq, ← Nat.shiftLeft_eq, ← Nat.shiftLeft_eq, Nat.shiftLeft_xor_distrib]
theorem mixL_num : ∀ (l m p : List Nat) (n : Nat), l.length = n → m.length = n → p.length = n → (∀ c ∈ l, c < 256) → (∀ c ∈ m, c < 256) → (∀ c ∈ p, c < 256) → num (mixL l m p) = num l ^^^ num m ^^^ num p
  | [], [], [], _, _, _, _, _, _, _ => rfl
  | a :: l, b :: m, c :: p, n, h1, h2, h3, g1, g2, g3 => by
    obtain ⟨k, rfl⟩ : ∃ k, n = k + 1 := ⟨l.length, by simpa using h1.symm⟩
    have ih := mixL_num l m p k (by simpa using h1) (by simpa using h2) (by simpa using h3) (fun d hd => g1 d (by simp [hd])) (fun d hd => g2 d (by simp [hd])) (fun d hd => g3 d (by simp [hd]))
    show (a ^^^ b ^^^ c) + 256 * num (mixL l m p) = (a + 256 * num l) ^^^ (b + 256 * num m) ^^^ (c + 256 * num p)
    rw [add_xor (xor_lt3 (g1 a (by simp)) (g2 b (by simp)) (g3 c (by simp))), add_xor (g1 a (by simp)), add_xor (g2 b (by simp)), add_xor (g3 c (by simp)), ih, mul_xor, mul_xor]
    ac_rfl
  | [], b :: m, _, n, h1, h2, _, _, _, _ => by simp at h1 h2; omega
  | [], [], c :: p, n, h1, _, h3, _, _, _ => by simp at h1 h3; omega
  | a :: l, [], _, n, h1, h2, _, _, _, _ => by simp at h1 h2; omega
  | a :: l, b :: m, [], n, h1, _, h3, _, _, _ => by simp at h1 h3; omega
/-- The sums of three rows of one length, and of what they make. -/
theorem reg_mix (M : Nat) (l m p : List Nat) (n : Nat) (h1 : l.length = n) (h2 : m.length = n) (h3 : p.length = n) (g1 : ∀ c ∈ l, c < 256) (g2 : ∀ c ∈ m, c < 256) (g3 : ∀ c ∈ p, c < 256) :
    M ^^^ reg M (mixL l m p) = (M ^^^ reg M l) ^^^ (M ^^^ reg M m) ^^^ (M ^^^ reg M p) := by
  rw [reg_sts _ (mixL_lt l m p g1 g2 g3), reg_sts _ g1, reg_sts _ g2, reg_sts _ g3, h1, h2, h3, mixL_length l m p n h1 h2 h3, three, mixL_num l m p n h1 h2 h3 g1 g2 g3]

/-! Bits turned side by side. -/
def turns (n p b i : Nat) : Bool := decide (p + i < 8 * n) && decide (b / 2 ^ i % 2 = 1)
def flip (L : List Nat) (p b : Nat) : Nat → List Nat
  | 0 => L
  | i + 1 => if turns L.length p b i = true then (flip L p b i).set ((p + i) / 8) ((flip L p b i).getD ((p + i) / 8) 0 ^^^ 2 ^ ((p + i) % 8)) else flip L p b i
def turned (n p b : Nat) : Nat → Bool
  | 0 => false
  | i + 1 => if turns n p b i = true then true else turned n p b i
def fl (n p b : Nat) : Nat → Nat
  | 0 => 0
  | i + 1 => if turns n p b i = true then fl n p b i + 2 ^ i else fl n p b i
theorem fl_lt (n p b i : Nat) : fl n p b i < 2 ^ i := by
  induction i with
  | zero => simp [fl]
  | succ i ih =>
    rw [fl, Nat.pow_succ]
    split <;> omega
theorem turned_fl (n p b i : Nat) : turned n p b i = decide (fl n p b i ≠ 0) := by
  induction i with
  | zero => simp [turned, fl]
  | succ i ih =>
    rw [turned, fl]
    have := Nat.two_pow_pos i
    split
    · rw [decide_eq_true]; omega
    · exact ih
theorem flip_length (L : List Nat) (p b i : Nat) : (flip L p b i).length = L.length := by
  induction i with
  | zero => rfl
  | succ i ih => rw [flip]; split <;> simp [ih]
theorem flip_lt (L : List Nat) (hL : ∀ c ∈ L, c < 256) (p b i : Nat) : ∀ c ∈ flip L p b i, c < 256 := by
  induction i with
  | zero => exact hL
  | succ i ih =>
    rw [flip]
    split
    · intro c hc
      rcases List.mem_or_eq_of_mem_set hc with h | h
      · exact ih c h
      · rw [h]
        have hg : (flip L p b i).getD ((p + i) / 8) 0 < 256 := by
          rw [List.getD_eq_getElem?_getD]
          rcases Nat.lt_or_ge ((p + i) / 8) (flip L p b i).length with h | h
          · rw [List.getElem?_eq_getElem h]; exact ih _ (List.getElem_mem h)
          · rw [List.getElem?_eq_none h]; decide
        have h2 : 2 ^ ((p + i) % 8) < 2 ^ 8 := Nat.pow_lt_pow_right (by decide) (Nat.mod_lt _ (by decide))
        exact Nat.xor_lt_two_pow (n := 8) hg h2
    · exact ih
theorem num_set : ∀ (l : List Nat) (k : Nat), (∀ c ∈ l, c < 256) → k < 8 * l.length → num (l.set (k / 8) (l.getD (k / 8) 0 ^^^ 2 ^ (k % 8))) = num l ^^^ 2 ^ k
  | [], k, _, h => by simp at h
  | c :: l, k, hl, h => by
    have hc := hl c (by simp)
    rcases Nat.lt_or_ge k 8 with hk | hk
    · have e1 : k / 8 = 0 := by omega
      have e2 : k % 8 = k := by omega
      have h2 : 2 ^ k < 2 ^ 8 := Nat.pow_lt_pow_right (by decide) hk
      rw [e1, e2]
      show (c ^^^ 2 ^ k) + 256 * num l = (c + 256 * num l) ^^^ 2 ^ k
      rw [add_xor hc, add_xor (Nat.xor_lt_two_pow (n := 8) hc h2)]
      ac_rfl
    · obtain ⟨j, rfl⟩ : ∃ j, k = j + 8 := ⟨k - 8, by omega⟩
      have e1 : (j + 8) / 8 = j / 8 + 1 := by omega
      have e2 : (j + 8) % 8 = j % 8 := by omega
      have ih := num_set l j (fun d hd => hl d (by simp [hd])) (by simp at h; omega)
      rw [e1, e2]
      show c + 256 * num (l.set (j / 8) (l.getD (j / 8) 0 ^^^ 2 ^ (j % 8))) = (c + 256 * num l) ^^^ 2 ^ (j + 8)
      rw [ih, add_xor hc, add_xor hc, mul_xor, Nat.pow_add]
      ac_rfl
theorem add_pow_xor {x i : Nat} (h : x < 2 ^ i) : x + 2 ^ i = x ^^^ 2 ^ i := by
  apply Nat.eq_of_testBit_eq
  intro j
  rw [Nat.testBit_xor, Nat.testBit_two_pow, Nat.add_comm, show 2 ^ i + x = 2 ^ i * 1 + x by rw [Nat.mul_one], Nat.testBit_two_pow_mul_add 1 h]
  rcases Nat.lt_trichotomy j i with hj | hj | hj
  · rw [if_pos hj, decide_eq_false (by omega), Bool.xor_false]
  · subst hj
    rw [if_neg (by omega), Nat.sub_self, Nat.testBit_lt_two_pow h]
    simp
  · rw [if_neg (by omega), decide_eq_false (by omega), Nat.testBit_lt_two_pow (Nat.lt_of_lt_of_le h (Nat.pow_le_pow_right (by decide) (by omega))), show j - i = (j - i - 1) + 1 by omega, Nat.testBit_succ]
    simp
theorem flip_num (L : List Nat) (hL : ∀ c ∈ L, c < 256) (p b i : Nat) : num (flip L p b i) = num L ^^^ fl L.length p b i * 2 ^ p := by
  induction i with
  | zero => simp [flip, fl]
  | succ i ih =>
    rw [flip, fl]
    by_cases h : turns L.length p b i = true
    · rw [if_pos h, if_pos h, num_set _ _ (flip_lt L hL p b i), ih, add_pow_xor (fl_lt _ _ _ _), mul_xor, Nat.xor_assoc, ← Nat.pow_add, Nat.add_comm i p]
      rw [flip_length]
      unfold turns at h
      simp at h
      omega
    · rw [if_neg h, if_neg h, ih]
theorem flip_reg (M : Nat) (L : List Nat) (hL : ∀ c ∈ L, c < 256) (p b : Nat) (hp : p < 8 * L.length) : (reg M (flip L p b 32) = reg M L) ↔ fl L.length p b 32 = 0 := by
  have hv : fl L.length p b 32 < 4294967296 := fl_lt _ _ _ 32
  rw [reg_sts _ (flip_lt L hL p b 32), reg_sts _ hL, flip_length, flip_num L hL, ← Nat.xor_assoc, sts_xor _ _ (fl L.length p b 32 * 2 ^ p)]
  have e : 8 * L.length = p + (8 * L.length - p) := by omega
  have e2 : sts (8 * L.length) (fl L.length p b 32 * 2 ^ p) = sts (8 * L.length - p) (fl L.length p b 32) := by
    conv => lhs; rw [e, sts_add, sts_shift]
  rw [e2]
  constructor
  · intro h
    rcases Nat.eq_zero_or_pos (fl L.length p b 32) with h0 | h0
    · exact h0
    · exfalso
      apply sts_ne (8 * L.length - p) hv (by omega)
      have := congrArg (fun x => sts (8 * L.length) (M ^^^ num L) ^^^ x) h
      simp only [← Nat.xor_assoc, Nat.xor_self, Nat.zero_xor] at this
      exact this
  · intro h
    rw [h]
    have : ∀ k, sts k 0 = 0 := by
      intro k
      induction k with
      | zero => rfl
      | succ k ih => exact ih
    rw [this, Nat.xor_zero]
end Go.Proofs.YteincbegfamhpaaDoor.Math
