/- The order of what is due; heaps: plain. -/
import Derived.Test.YteeginfbonfhlaaW1
namespace Go.Proofs.Yteeginfbonfhlaa
open Go.RowKit Mem
/-! ### The order -/
theorem less_trans : ∀ a b c : List UInt8, Op.bytesLess a b = true → Op.bytesLess b c = true → Op.bytesLess a c = true
  | [], [], _, h, _ => by simp [Op.bytesLess] at h
  | [], _ :: _, [], _, h => by simp [Op.bytesLess] at h
  | [], _ :: _, _ :: _, _, _ => by simp [Op.bytesLess]
  | _ :: _, [], _, h, _ => by simp [Op.bytesLess] at h
  | _ :: _, _ :: _, [], _, h => by simp [Op.bytesLess] at h
  | x :: a, y :: b, z :: c, h1, h2 => by
    simp only [Op.bytesLess, Bool.or_eq_true, decide_eq_true_eq, Bool.and_eq_true, beq_iff_eq] at h1 h2 ⊢
    rcases h1 with h1 | ⟨rfl, h1⟩
    · rcases h2 with h2 | ⟨rfl, h2⟩
      · exact .inl (UInt8.lt_trans h1 h2)
      · exact .inl h1
    · rcases h2 with h2 | ⟨rfl, h2⟩
      · exact .inl h2
      · exact .inr ⟨rfl, less_trans a b c h1 h2⟩
theorem less_tri : ∀ a b : List UInt8, Op.bytesLess a b = false → Op.bytesLess b a = false → a = b
  | [], [], _, _ => rfl
  | [], _ :: _, h, _ => by simp [Op.bytesLess] at h
  | _ :: _, [], _, h => by simp [Op.bytesLess] at h
  | x :: a, y :: b, h1, h2 => by
    simp only [Op.bytesLess, Bool.or_eq_false_iff, decide_eq_false_iff_not, Bool.and_eq_false_imp, beq_iff_eq] at h1 h2
    have e : x = y := UInt8.le_antisymm (UInt8.not_lt.1 h2.1) (UInt8.not_lt.1 h1.1)
    subst e
    rw [less_tri a b (h1.2 rfl) (h2.2 rfl)]
theorem toList_inj {a b : ByteArray} (h : a.toList = b.toList) : a = b := by
  rw [ByteArray.toList_eq, ByteArray.toList_eq] at h
  cases a with | mk a => cases b with | mk b =>
  simp at h
  rw [h]
theorem ltD_iff (a b : DU) : ltD a b = true ↔ a.at_ < b.at_ ∨ (a.at_ = b.at_ ∧ (Op.bytesLess a.key.toList b.key.toList = true ∨ (a.key.toList = b.key.toList ∧ a.kind < b.kind))) := by
  unfold ltD lessS
  simp
theorem ltD_irr (a : DU) : ltD a a = false := by
  rw [Bool.eq_false_iff]
  intro h
  rw [ltD_iff] at h
  rcases h with h | ⟨_, h | ⟨_, h⟩⟩
  · omega
  · rw [less_irr] at h; cases h
  · omega
theorem ltD_trans {a b c : DU} (h1 : ltD a b = true) (h2 : ltD b c = true) : ltD a c = true := by
  rw [ltD_iff] at *
  rcases h1 with h1 | ⟨e1, h1⟩
  · rcases h2 with h2 | ⟨e2, h2⟩
    · exact .inl (by omega)
    · exact .inl (by omega)
  · rcases h2 with h2 | ⟨e2, h2⟩
    · exact .inl (by omega)
    · refine .inr ⟨by omega, ?_⟩
      rcases h1 with h1 | ⟨f1, h1⟩
      · rcases h2 with h2 | ⟨f2, h2⟩
        · exact .inl (less_trans _ _ _ h1 h2)
        · exact .inl (by rw [← f2]; exact h1)
      · rcases h2 with h2 | ⟨f2, h2⟩
        · exact .inl (by rw [f1]; exact h2)
        · exact .inr ⟨f1.trans f2, by omega⟩
theorem ltD_tri {a b : DU} (h1 : ltD a b = false) (h2 : ltD b a = false) : a = b := by
  rw [Bool.eq_false_iff, Ne, ltD_iff] at h1 h2
  have e1 : a.at_ = b.at_ := by
    rcases Int.lt_trichotomy a.at_ b.at_ with h | h | h
    · exact absurd (.inl h) h1
    · exact h
    · exact absurd (.inl h) h2
  have e2 : a.key.toList = b.key.toList := by
    refine less_tri _ _ ?_ ?_
    · rw [Bool.eq_false_iff]; exact fun h => h1 (.inr ⟨e1, .inl h⟩)
    · rw [Bool.eq_false_iff]; exact fun h => h2 (.inr ⟨e1.symm, .inl h⟩)
  have e3 : a.kind = b.kind := by
    rcases Int.lt_trichotomy a.kind b.kind with h | h | h
    · exact absurd (.inr ⟨e1, .inr ⟨e2, h⟩⟩) h1
    · exact h
    · exact absurd (.inr ⟨e1.symm, .inr ⟨e2.symm, h⟩⟩) h2
  cases a; cases b
  simp only [DU.mk.injEq]
  exact ⟨e1, toList_inj e2, e3⟩
/-- Not behind. -/
def leD (a b : DU) : Prop := ltD b a = false
theorem leD_refl (a : DU) : leD a a := ltD_irr a
theorem leD_of_lt {a b : DU} (h : ltD a b = true) : leD a b := by
  unfold leD
  rw [Bool.eq_false_iff]
  intro h2
  have := ltD_trans h h2
  rw [ltD_irr] at this
  cases this
theorem leD_trans {a b c : DU} (h1 : leD a b) (h2 : leD b c) : leD a c := by
  unfold leD at *
  rw [Bool.eq_false_iff]
  intro h
  by_cases hab : ltD a b = true
  · have := ltD_trans h hab
    rw [h2] at this
    cases this
  · have e := ltD_tri (by simpa using hab) h1
    rw [e, h2] at h
    cases h
/-! ### Heaps, as functions of the place -/
/-- Two places change what they hold. -/
def swapF (f : Nat → DU) (i j : Nat) : Nat → DU := fun k => if k = i then f j else if k = j then f i else f k
theorem swapF_l (f : Nat → DU) (i j : Nat) : swapF f i j i = f j := by simp [swapF]
theorem swapF_r (f : Nat → DU) (i j : Nat) : swapF f i j j = f i := by
  unfold swapF
  by_cases h : j = i
  · simp [h]
  · simp [h]
theorem swapF_o (f : Nat → DU) {i j k : Nat} (h1 : k ≠ i) (h2 : k ≠ j) : swapF f i j k = f k := by simp [swapF, h1, h2]
theorem swapF_mem (f : Nat → DU) {i j n : Nat} (hi : i < n) (hj : j < n) (z : DU) : (∃ k, k < n ∧ swapF f i j k = z) ↔ ∃ k, k < n ∧ f k = z := by
  constructor
  · rintro ⟨k, hk, h⟩
    by_cases h1 : k = i
    · subst h1; rw [swapF_l] at h; exact ⟨j, hj, h⟩
    · by_cases h2 : k = j
      · subst h2; rw [swapF_r] at h; exact ⟨i, hi, h⟩
      · rw [swapF_o f h1 h2] at h; exact ⟨k, hk, h⟩
  · rintro ⟨k, hk, h⟩
    by_cases h1 : k = i
    · subst h1; exact ⟨j, hj, by rw [swapF_r]; exact h⟩
    · by_cases h2 : k = j
      · subst h2; exact ⟨i, hi, by rw [swapF_l]; exact h⟩
      · exact ⟨k, hk, by rw [swapF_o f h1 h2]; exact h⟩
def Heap (f : Nat → DU) (n : Nat) : Prop := ∀ k, 0 < k → k < n → leD (f ((k - 1) / 2)) (f k)
theorem Heap.first {f : Nat → DU} {n : Nat} (h : Heap f n) : ∀ k, k < n → leD (f 0) (f k) := by
  intro k
  induction k using Nat.strongRecOn with
  | _ k ih =>
    intro hk
    rcases Nat.eq_zero_or_pos k with rfl | h0
    · exact leD_refl _
    · exact leD_trans (ih ((k - 1) / 2) (by omega) (by omega)) (h k h0 hk)
/-- A heap but for place j, which may be too small. -/
def HeapU (f : Nat → DU) (n j : Nat) : Prop := (∀ k, 0 < k → k < n → k ≠ j → leD (f ((k - 1) / 2)) (f k)) ∧ ∀ k, 0 < k → k < n → (k - 1) / 2 = j → 0 < j → leD (f ((j - 1) / 2)) (f k)
theorem HeapU.done0 {f : Nat → DU} {n : Nat} (h : HeapU f n 0) : Heap f n := fun k h0 hk => h.1 k h0 hk (by omega)
theorem HeapU.done {f : Nat → DU} {n j : Nat} (h : HeapU f n j) (hj : ltD (f j) (f ((j - 1) / 2)) = false) : Heap f n := fun k h0 hk => by
  by_cases e : k = j
  · subst e; exact hj
  · exact h.1 k h0 hk e
theorem HeapU.step {f : Nat → DU} {n j : Nat} (h : HeapU f n j) (h0 : 0 < j) (hj : ltD (f j) (f ((j - 1) / 2)) = true) : HeapU (swapF f ((j - 1) / 2) j) n ((j - 1) / 2) := by
  obtain ⟨p, hp⟩ : ∃ p, p = (j - 1) / 2 := ⟨_, rfl⟩
  rw [← hp] at hj ⊢
  have hpj : p < j := by omega
  constructor
  · intro k k0 kn kp
    by_cases e : k = j
    · subst e
      rw [← hp, swapF_l, swapF_r]
      exact leD_of_lt hj
    · rw [swapF_o f kp e]
      by_cases q1 : (k - 1) / 2 = j
      · rw [q1, swapF_r, hp]
        exact h.2 k k0 kn q1 h0
      · by_cases q2 : (k - 1) / 2 = p
        · rw [q2, swapF_l]
          have := h.1 k k0 kn e
          rw [q2] at this
          exact leD_trans (leD_of_lt hj) this
        · rw [swapF_o f q2 q1]
          exact h.1 k k0 kn e
  · intro k k0 kn kp p0
    have hg : (p - 1) / 2 < p := by omega
    rw [swapF_o f (by omega) (by omega)]
    have hgp := h.1 p p0 (by omega) (by omega)
    by_cases e : k = j
    · subst e
      rw [swapF_r]
      exact hgp
    · rw [swapF_o f (by omega) e]
      have := h.1 k k0 kn e
      rw [kp] at this
      exact leD_trans hgp this
/-- A heap but for place i, which may be too great. -/
def HeapD (f : Nat → DU) (n i : Nat) : Prop := (∀ k, 0 < k → k < n → (k - 1) / 2 ≠ i → leD (f ((k - 1) / 2)) (f k)) ∧ ∀ k, 0 < k → k < n → (k - 1) / 2 = i → 0 < i → leD (f ((i - 1) / 2)) (f k)
theorem HeapD.none {f : Nat → DU} {n i : Nat} (h : HeapD f n i) (hn : n ≤ 2 * i + 1) : Heap f n := fun k h0 hk => h.1 k h0 hk (by omega)
theorem HeapD.done {f : Nat → DU} {n i j : Nat} (h : HeapD f n i) (hm : ∀ k, 0 < k → k < n → (k - 1) / 2 = i → leD (f j) (f k)) (hj : ltD (f j) (f i) = false) : Heap f n := fun k h0 hk => by
  by_cases e : (k - 1) / 2 = i
  · rw [e]; exact leD_trans hj (hm k h0 hk e)
  · exact h.1 k h0 hk e
theorem HeapD.step {f : Nat → DU} {n i j : Nat} (h : HeapD f n i) (j0 : 0 < j) (jn : j < n) (hji : (j - 1) / 2 = i) (hm : ∀ k, 0 < k → k < n → (k - 1) / 2 = i → leD (f j) (f k)) (hj : ltD (f j) (f i) = true) : HeapD (swapF f i j) n j := by
  constructor
  · intro k k0 kn q
    by_cases q1 : (k - 1) / 2 = i
    · rw [q1, swapF_l]
      by_cases e : k = j
      · subst e
        rw [swapF_r]
        exact leD_of_lt hj
      · rw [swapF_o f (by omega) e]
        exact hm k k0 kn q1
    · rw [swapF_o f q1 q]
      by_cases e : k = i
      · subst e
        rw [swapF_l]
        exact h.2 j j0 jn hji (by omega)
      · rw [swapF_o f e (fun e => by subst e; exact q1 hji)]
        exact h.1 k k0 kn q1
  · intro k k0 kn q _
    rw [hji, swapF_l, swapF_o f (by omega) (by omega)]
    have := h.1 k k0 kn (by omega)
    rw [q] at this
    exact this
/-- What a list holds at a place. -/
def fn (L : List DU) : Nat → DU := fun k => L.getD k ⟨0, ⟨#[]⟩, 0⟩
theorem fn_get {L : List DU} {k : Nat} {x : DU} (h : L[k]? = some x) : fn L k = x := by simp [fn, List.getD, h]
theorem get_fn {L : List DU} {k : Nat} (h : k < L.length) : L[k]? = some (fn L k) := by
  rw [List.getElem?_eq_getElem h]
  simp [fn, List.getD, h]
theorem fn_mem (L : List DU) (z : DU) : z ∈ L ↔ ∃ k, k < L.length ∧ fn L k = z := by
  rw [List.mem_iff_getElem?]
  constructor
  · rintro ⟨k, h⟩
    exact ⟨k, (List.getElem?_eq_some_iff.1 h).1, fn_get h⟩
  · rintro ⟨k, hk, rfl⟩
    exact ⟨k, get_fn hk⟩
theorem fn_set {L : List DU} {i : Nat} (hi : i < L.length) (x : DU) (k : Nat) : fn (L.set i x) k = if k = i then x else fn L k := by
  unfold fn
  by_cases e : k = i
  · subst e
    simp [List.getD, List.getElem?_set_self hi]
  · simp [List.getD, List.getElem?_set_ne (fun h => e h.symm), e]
end Go.Proofs.Yteeginfbonfhlaa
