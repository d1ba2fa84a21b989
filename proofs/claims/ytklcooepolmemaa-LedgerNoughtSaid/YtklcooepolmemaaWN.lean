/- The sum of all balances: plain. -/
import Derived.Test.YtklcooepolmemaaW10
import Derived.Test.YtklcooepolmemaaW9
namespace Go.Proofs.Ytklcooepolmemaa
open Go.RowKit Mem
def sumI (f : Int → Int) : List Int → Int
  | [] => 0
  | x :: l => f x + sumI f l
theorem sumI_append (f : Int → Int) (a b : List Int) : sumI f (a ++ b) = sumI f a + sumI f b := by
  induction a with
  | nil => simp [sumI]
  | cons x a ih => rw [List.cons_append]; show f x + sumI f (a ++ b) = f x + sumI f a + sumI f b; omega
theorem sumI_succ {f : Int → Int} {l : List Int} {k : Nat} {x : Int} (h : l[k]? = some x) : sumI f (l.take (k + 1)) = sumI f (l.take k) + f x := by
  rw [List.take_add_one, h, sumI_append]
  simp [sumI]
def total (l : List Int) : Int := sumI (fun x => x) l
theorem total_parts (l : List Int) : total l = sumI rh l * 4294967296 + sumI rl l := by
  unfold total
  induction l with
  | nil => rfl
  | cons x l ih =>
    show x + sumI (fun x => x) l = (rh x + sumI rh l) * 4294967296 + (rl x + sumI rl l)
    rw [ih]
    have := r_back x
    rw [Int.add_mul]
    omega
theorem rl_sum (l : List Int) : 0 ≤ sumI rl l ∧ sumI rl l ≤ l.length * 4294967296 := by
  induction l with
  | nil => simp [sumI]
  | cons x l ih =>
    show 0 ≤ rl x + sumI rl l ∧ rl x + sumI rl l ≤ _
    have := rl_range x
    rw [List.length_cons]
    omega
theorem rh_sum {l : List Int} (hl : ∀ x ∈ l, isInt x) : -(l.length * 2147483648) ≤ sumI rh l ∧ sumI rh l ≤ l.length * 2147483648 := by
  induction l with
  | nil => simp [sumI]
  | cons x l ih =>
    have h1 := ih (fun y hy => hl y (List.mem_cons_of_mem _ hy))
    have h2 := hl x (List.mem_cons_self ..)
    unfold isInt at h2
    have : -2147483648 ≤ rh x ∧ rh x ≤ 2147483647 := by unfold rh; omega
    show -(((x :: l).length : Nat) * 2147483648 : Int) ≤ rh x + sumI rh l ∧ rh x + sumI rh l ≤ _
    rw [List.length_cons]
    omega
theorem nought_tests {l : List Int} (h : total l = 0) : sumI rh l + sumI rl l / 4294967296 = 0 ∧ sumI rl l % 4294967296 = 0 := by
  have := total_parts l
  omega
def osum (es : List (Int × Int)) : Nat → Nat → Int
  | _, 0 => 0
  | k, n + 1 => ofA k es + osum es (k + 1) n
theorem osum_nil (k n : Nat) : osum [] k n = 0 := by
  induction n generalizing k with
  | zero => rfl
  | succ n ih => show ofA k [] + osum [] (k + 1) n = 0; rw [ih]; rfl
theorem osum_cons (e : Int × Int) (es : List (Int × Int)) (k n : Nat) : osum (e :: es) k n = (if (k : Int) ≤ e.1 ∧ e.1 < (k : Int) + n then e.2 else 0) + osum es k n := by
  induction n generalizing k with
  | zero => rw [if_neg (by omega)]; rfl
  | succ n ih =>
    show ((if e.1 = (k : Int) then e.2 else 0) + ofA k es) + osum (e :: es) (k + 1) n = _ + (ofA k es + osum es (k + 1) n)
    rw [ih]
    by_cases h1 : e.1 = (k : Int)
    · rw [if_pos h1, if_neg (by omega), if_pos (by omega)]; omega
    · by_cases h2 : (k : Int) ≤ e.1 ∧ e.1 < (k : Int) + (n + 1 : Nat)
      · rw [if_neg h1, if_pos (by omega), if_pos h2]; omega
      · rw [if_neg h1, if_neg (by omega), if_neg h2]; omega
theorem osum_all {es : List (Int × Int)} {n : Nat} (h : inAll n es) : osum es 0 n = tot es := by
  induction es with
  | nil => exact osum_nil 0 n
  | cons e es ih =>
    have h1 := h e (List.mem_cons_self ..)
    rw [osum_cons, ih (fun x hx => h x (List.mem_cons_of_mem _ hx)), if_pos (by omega)]
    rfl
theorem sum_mapIdx (es : List (Int × Int)) (bs : List Int) (k : Nat) : total (bs.mapIdx (fun i b => b + ofA (i + k) es)) = total bs + osum es k bs.length := by
  induction bs generalizing k with
  | nil => rfl
  | cons b bs ih =>
    rw [List.mapIdx_cons]
    have e : (fun i b => b + ofA (i + 1 + k) es) = (fun i b => b + ofA (i + (k + 1)) es) := by funext i b; rw [show i + 1 + k = i + (k + 1) by omega]
    show (b + ofA (0 + k) es) + total (bs.mapIdx (fun i b => b + ofA (i + 1 + k) es)) = (b + total bs) + (ofA k es + osum es (k + 1) bs.length)
    rw [e, ih (k + 1), Nat.zero_add]
    omega
theorem total_nb {bs : List Int} {es : List (Int × Int)} (h : inAll bs.length es) : total (nb bs es) = total bs + tot es := by
  rw [← osum_all h]
  exact sum_mapIdx es bs 0
theorem total_post {bs : List Int} {es : List (Int × Int)} (h : total bs = 0) : total (postB bs es) = 0 := by
  by_cases h1 : postE bs es = 0
  · obtain ⟨a, b, _⟩ := postE_zero.1 h1
    rw [postB_ok h1, total_nb a, h, b]
    rfl
  · rw [postB_no h1, h]
theorem total_zeros (n : Nat) : total (List.replicate n 0) = 0 := by
  induction n with
  | zero => rfl
  | succ n ih => rw [List.replicate_succ]; show 0 + total (List.replicate n 0) = 0; rw [ih]; rfl
theorem tot_neg (es : List (Int × Int)) : tot (es.map neg1) = - tot es := by
  induction es with
  | nil => rfl
  | cons e es ih => rw [List.map_cons]; show (neg1 e).2 + tot (es.map neg1) = -(e.2 + tot es); rw [ih]; unfold neg1; omega
theorem ofA_neg (i : Nat) (es : List (Int × Int)) : ofA i (es.map neg1) = - ofA i es := by
  induction es with
  | nil => rfl
  | cons e es ih =>
    rw [List.map_cons]
    show (if (neg1 e).1 = (i : Int) then (neg1 e).2 else 0) + ofA i (es.map neg1) = -((if e.1 = (i : Int) then e.2 else 0) + ofA i es)
    rw [ih]
    unfold neg1
    by_cases h : e.1 = (i : Int)
    · rw [if_pos h, if_pos h]; omega
    · rw [if_neg h, if_neg h]; omega
theorem nb_back (bs : List Int) (es : List (Int × Int)) : nb (nb bs es) (es.map neg1) = bs := by
  apply List.ext_getElem?
  intro i
  rw [nb_get, nb_get]
  cases bs[i]? with
  | none => rfl
  | some x => simp [ofA_neg]; omega
theorem back_key {bs : List Int} {es : List (Int × Int)} (hb : ∀ b ∈ bs, isInt b) (h : postE bs es = 0) : postE (nb bs es) (es.map neg1) = 0 ∧ postB (nb bs es) (es.map neg1) = bs := by
  obtain ⟨a, b, _⟩ := postE_zero.1 h
  have : postE (nb bs es) (es.map neg1) = 0 := by
    refine postE_zero.2 ⟨fun e he => ?_, by rw [tot_neg, b]; rfl, by rw [nb_back]; exact hb⟩
    obtain ⟨x, hx, rfl⟩ := List.mem_map.1 he
    rw [nb_length]
    exact a x hx
  exact ⟨this, by rw [postB_ok this, nb_back]⟩
theorem mv_mem {f t a : Int} {e : Int × Int} (h : e ∈ mv f t a) : (e = (f, -a) ∨ e = (t, a)) := by
  unfold mv at h
  split at h
  · simp at h
  · simpa using h
theorem mv_tot (f t a : Int) : tot (mv f t a) = 0 := by
  unfold mv
  split
  · rfl
  · show -a + (a + 0) = 0; omega
theorem pay_key {n : Nat} {r1 r2 : RateT} {a i x : Int} (hn : n ≤ 6) (h : payE n r1 r2 a i x = 0) :
    inAll (n + 1) (payL n r1 r2 a i x) ∧ tot (payL n r1 r2 a i x) = 0 ∧ okT (payL n r1 r2 a i x) ∧ (∀ e ∈ payL n r1 r2 a i x, okE e) ∧ (payL n r1 r2 a i x).length ≤ 6 := by
  have hl := payL_yes h
  have h2 : inTwo n a i := by
    by_cases h2 : inTwo n a i
    · exact h2
    · rw [(payE_out h2).1] at h; cases h
  have h3 : feeE r1 x = 0 := by
    by_cases h3 : feeE r1 x = 0
    · exact h3
    · rw [(payE_one h2 h3).1] at h; exact absurd h h3
  have h4 : feeE r2 x = 0 := by rw [payE_two h2 h3] at h; exact h
  have b1 := feeAll_zero (p := r1.p) (l := r1.l) (m := r1.m) (a := x) h3
  have b2 := feeAll_zero (p := r2.p) (l := r2.l) (m := r2.m) (a := x) h4
  have b3 : 0 ≤ feeN r1 x ∧ feeN r1 x ≤ x := b1.2.2
  have b4 : 0 ≤ feeN r2 x ∧ feeN r2 x ≤ x := b2.2.2
  unfold inTwo at h2
  have key : ∀ e ∈ payL n r1 r2 a i x, 0 ≤ e.1 ∧ e.1 < ((n + 1 : Nat) : Int) ∧ -999999999999 ≤ e.2 ∧ e.2 ≤ 999999999999 := by
    intro e he
    rw [hl, List.mem_append, List.mem_append] at he
    rcases he with (he | he) | he <;> rcases mv_mem he with rfl | rfl <;> simp only <;> omega
  refine ⟨fun e he => ⟨(key e he).1, (key e he).2.1⟩, ?_, fun e he => by have := key e he; omega, fun e he => by have := key e he; unfold okE isInt; omega, ?_⟩
  · rw [hl, tot_append, tot_append, mv_tot, mv_tot, mv_tot]; rfl
  · have c1 := mv_len i a x
    have c2 := mv_len a i (feeN r1 x)
    have c3 := mv_len a n (feeN r2 x)
    rw [hl]
    simp
    omega
theorem pay_post {bs : List Int} {n : Nat} {r1 r2 : RateT} {a i x : Int} (hn : n ≤ 6) (hb : bs.length = n + 1) (h : payE n r1 r2 a i x = 0) : postE bs (payL n r1 r2 a i x) = 0 ∨ postE bs (payL n r1 r2 a i x) = 100 := by
  obtain ⟨k1, k2, _⟩ := pay_key hn h
  by_cases h3 : allInt (nb bs (payL n r1 r2 a i x))
  · exact Or.inl (postE_ok (by rw [hb]; exact k1) k2 h3)
  · exact Or.inr (postE_money (by rw [hb]; exact k1) k2 h3)
end Go.Proofs.Ytklcooepolmemaa
