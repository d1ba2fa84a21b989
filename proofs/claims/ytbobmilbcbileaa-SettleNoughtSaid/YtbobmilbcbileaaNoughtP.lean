/- Nets of all days are what was moved: plain. -/
import Derived.Test.YtbobmilbcbileaaJoins
namespace Go.Proofs.Ytbobmilbcbileaa
open Go.RowKit Mem
def okN (k : Nat) (t : T6) : Prop := t.net = t.cs - t.ds ∧ 0 ≤ t.cs ∧ t.cs ≤ k * 1099511627776 ∧ 0 ≤ t.ds ∧ t.ds ≤ k * 1099511627776 ∧ 0 ≤ t.credits ∧ t.credits ≤ k ∧ 0 ≤ t.debits ∧ t.debits ≤ k
def cd (t : T6) : Int := t.credits + t.debits
theorem step_ok {k : Nat} {t : T6} {a : Int} (h : okN k t) (hk : k ≤ 1000) (h1 : -1099511627776 < a) (h2 : a < 1099511627776) :
    ok1 t a ∧ okN (k + 1) (step1 t a) ∧ (step1 t a).net = t.net + a ∧ (step1 t a).member = t.member ∧ cd (step1 t a) = cd t + (if a = 0 then 0 else 1) := by
  obtain ⟨h0, c1, c2, d1, d2, e1, e2, f1, f2⟩ := h
  refine ⟨⟨fun _ => by unfold isInt; omega, fun _ => by unfold isInt; omega⟩, ?_⟩
  unfold step1
  by_cases p : 0 < a
  · rw [if_pos p, if_neg (by omega)]
    have w1 : wrap64 (t.credits + 1) = t.credits + 1 := Lem.wrap_in (by omega) (by omega)
    have w2 : wrap64 (t.cs + a - t.ds) = t.cs + a - t.ds := Lem.wrap_in (by omega) (by omega)
    unfold okN cd
    refine ⟨⟨?_, ?_, ?_, ?_, ?_, ?_, ?_, ?_, ?_⟩, ?_, ?_, ?_⟩ <;> (try simp only [w1, w2]) <;> omega
  · by_cases q : a < 0
    · rw [if_neg p, if_pos q, if_neg (by omega)]
      have w1 : wrap64 (t.debits + 1) = t.debits + 1 := Lem.wrap_in (by omega) (by omega)
      have w2 : wrap64 (t.cs - (t.ds - a)) = t.cs - (t.ds - a) := Lem.wrap_in (by omega) (by omega)
      unfold okN cd
      refine ⟨⟨?_, ?_, ?_, ?_, ?_, ?_, ?_, ?_, ?_⟩, ?_, ?_, ?_⟩ <;> (try simp only [w1, w2]) <;> omega
    · have hz : a = 0 := by omega
      rw [if_neg p, if_neg q, if_pos hz]
      have w2 : wrap64 (t.cs - t.ds) = t.cs - t.ds := Lem.wrap_in (by omega) (by omega)
      unfold okN cd
      refine ⟨⟨?_, ?_, ?_, ?_, ?_, ?_, ?_, ?_, ?_⟩, ?_, ?_, ?_⟩ <;> (try simp only [w2]) <;> omega
def sumT (f : T6 → Int) : List T6 → Int
  | [] => 0
  | t :: l => f t + sumT f l
theorem sumT_append (f : T6 → Int) (a b : List T6) : sumT f (a ++ b) = sumT f a + sumT f b := by
  induction a with
  | nil => simp [sumT]
  | cons x a ih => rw [List.cons_append]; show f x + sumT f (a ++ b) = f x + sumT f a + sumT f b; omega
theorem sumT_succ {f : T6 → Int} {l : List T6} {k : Nat} {x : T6} (h : l[k]? = some x) : sumT f (l.take (k + 1)) = sumT f (l.take k) + f x := by
  rw [List.take_add_one, h, sumT_append]
  simp [sumT]
theorem sumT_set {f : T6 → Int} : ∀ {l : List T6} {i : Nat} {x y : T6}, l[i]? = some x → sumT f (l.set i y) = sumT f l - f x + f y
  | z :: l, 0, x, y, h => by
    obtain rfl : z = x := by simpa using h
    show f y + sumT f l = f z + sumT f l - f z + f y
    omega
  | z :: l, i + 1, x, y, h => by
    have := sumT_set (f := f) (l := l) (i := i) (x := x) (y := y) (by simpa using h)
    show f z + sumT f (l.set i y) = f z + sumT f l - f x + f y
    omega
  | [], i, x, y, h => by simp at h
theorem sumT_le {f : T6 → Int} {l : List T6} {b : Int} (h : ∀ t ∈ l, -b ≤ f t ∧ f t ≤ b) : -(l.length * b) ≤ sumT f l ∧ sumT f l ≤ l.length * b := by
  induction l with
  | nil => simp [sumT]
  | cons t l ih =>
    have h1 := ih (fun x hx => h x (List.mem_cons_of_mem _ hx))
    have h2 := h t (List.mem_cons_self ..)
    show -(((t :: l).length : Nat) * b) ≤ f t + sumT f l ∧ f t + sumT f l ≤ _
    rw [List.length_cons, Int.natCast_add, Int.add_mul]
    omega
/-- What holds behind k entries whose amounts sum to s. -/
structure Inv (k : Nat) (s : Int) (T : List T6) (Nl Ml : List Int) (cnt n : Int) : Prop where
  len : T.length = 4
  lenN : Nl.length = 4
  lenM : Ml.length = 4
  one : ∀ (i : Nat) (t : T6), T[i]? = some t → t.member = i ∧ okN k t
  bal : ∀ (i : Nat) (t : T6) (a b : Int), T[i]? = some t → Nl[i]? = some a → Ml[i]? = some b → a + t.net = b
  bM : ∀ (i : Nat) (b : Int), Ml[i]? = some b → -(k * 1099511627776) ≤ b ∧ b ≤ k * 1099511627776
  sum : sumT (·.net) T = s
  tl : cnt + sumT cd T = n
  cnt0 : 0 ≤ cnt
  nk : n ≤ k
theorem okN_mono {k k' : Nat} {t : T6} (h : okN k t) (hk : k ≤ k') : okN k' t := by
  obtain ⟨h0, c1, c2, d1, d2, e1, e2, f1, f2⟩ := h
  exact ⟨h0, c1, by omega, d1, by omega, e1, by omega, f1, by omega⟩
theorem Inv.entry {k : Nat} {s : Int} {T : List T6} {Nl Ml : List Int} {cnt n : Int} (h : Inv k s T Nl Ml cnt n) (hk : k ≤ 1000) {i : Nat} {t : T6} {a b : Int} (hi : T[i]? = some t) (hm : Ml[i]? = some b) (h1 : -1099511627776 < a) (h2 : a < 1099511627776) :
    ok1 t a ∧ Inv (k + 1) (s + a) (T.set i (step1 t a)) Nl (Ml.set i (b + a)) cnt (n + (if a = 0 then 0 else 1)) := by
  have ho := h.one i t hi
  obtain ⟨s1, s2, s3, s4, s5⟩ := step_ok ho.2 hk h1 h2
  have hil := (List.getElem?_eq_some_iff.1 hi).1
  have hml := (List.getElem?_eq_some_iff.1 hm).1
  refine ⟨s1, by rw [List.length_set]; exact h.len, h.lenN, by rw [List.length_set]; exact h.lenM, fun j u hj => ?_, fun j u x y hj hx hy => ?_, fun j y hy => ?_, ?_, ?_, h.cnt0, ?_⟩
  · by_cases e : i = j
    · subst e
      rw [List.getElem?_set_self hil] at hj
      injection hj with hj
      subst hj
      exact ⟨by rw [s4]; exact ho.1, s2⟩
    · rw [List.getElem?_set_ne e] at hj
      have := h.one j u hj
      exact ⟨this.1, okN_mono this.2 (by omega)⟩
  · by_cases e : i = j
    · subst e
      rw [List.getElem?_set_self hil] at hj
      rw [List.getElem?_set_self hml] at hy
      injection hj with hj
      injection hy with hy
      subst hj
      have := h.bal i t x b hi hx hm
      omega
    · rw [List.getElem?_set_ne e] at hj hy
      exact h.bal j u x y hj hx hy
  · by_cases e : i = j
    · subst e
      rw [List.getElem?_set_self hml] at hy
      injection hy with hy
      have := h.bM i b hm
      omega
    · rw [List.getElem?_set_ne e] at hy
      have := h.bM j y hy
      omega
  · have h3 := sumT_set (f := fun t : T6 => t.net) (y := step1 t a) hi
    have h4 := h.sum
    show sumT (fun t : T6 => t.net) (T.set i (step1 t a)) = s + a
    rw [h3]
    have h5 : sumT (fun t : T6 => t.net) T = s := h4
    omega
  · have h3 := sumT_set (f := cd) (y := step1 t a) hi
    have h4 := h.tl
    rw [h3, s5]
    omega
  · have := h.nk
    split <;> omega
theorem zeros_get {i : Nat} {t : T6} {m : Nat} (h : (zeros m)[i]? = some t) : t = zero6 i := by
  unfold zeros at h
  rw [List.getElem?_map] at h
  obtain ⟨j, hj, rfl⟩ := Option.map_eq_some_iff.1 h
  have : j = i := by
    obtain ⟨hl, hg⟩ := List.getElem?_eq_some_iff.1 hj
    simpa using hg.symm
  rw [this]
theorem Inv.cut {k : Nat} {T : List T6} {Nl Ml : List Int} {cnt n : Int} (h : Inv k 0 T Nl Ml cnt n) : Inv k 0 (zeros 4) Ml Ml (cnt + sumT cd T) n := by
  have hcd : 0 ≤ sumT cd T := by
    have : ∀ l : List T6, (∀ t ∈ l, 0 ≤ cd t) → 0 ≤ sumT cd l := by
      intro l hl
      induction l with
      | nil => exact Int.le_refl _
      | cons t l ih =>
        have h1 := ih (fun x hx => hl x (List.mem_cons_of_mem _ hx))
        have h2 := hl t (List.mem_cons_self ..)
        show 0 ≤ cd t + sumT cd l
        omega
    refine this T (fun t ht => ?_)
    obtain ⟨i, hi⟩ := List.mem_iff_getElem?.1 ht
    obtain ⟨_, _, _, _, _, _, e1, _, f1, _⟩ := h.one i t hi
    unfold cd
    omega
  refine ⟨rfl, h.lenM, h.lenM, fun i t hi => ?_, fun i t a b hi ha hb => ?_, h.bM, rfl, ?_, by have := h.cnt0; omega, h.nk⟩
  · rw [zeros_get hi]
    refine ⟨rfl, ?_⟩
    unfold okN zero6
    simp only
    omega
  · rw [zeros_get hi]
    rw [ha] at hb
    injection hb with hb
    unfold zero6
    simp only
    omega
  · have := h.tl
    have hz : sumT cd (zeros 4) = 0 := by decide +kernel
    rw [hz]
    omega
theorem inv_start : Inv 0 0 (zeros 4) [0, 0, 0, 0] [0, 0, 0, 0] 0 0 := by
  refine ⟨rfl, rfl, rfl, fun i t hi => ?_, fun i t a b hi ha hb => ?_, fun i b hb => ?_, rfl, by decide +kernel, Int.le_refl _, Int.le_refl _⟩
  · rw [zeros_get hi]
    exact ⟨rfl, by unfold okN zero6; simp⟩
  · rw [zeros_get hi]
    rw [ha] at hb
    injection hb with hb
    unfold zero6
    simp only
    omega
  · match i, hb with
    | 0, hb => simp at hb; omega
    | 1, hb => simp at hb; omega
    | 2, hb => simp at hb; omega
    | 3, hb => simp at hb; omega
    | i + 4, hb => simp at hb
/-- One move, as two entries. -/
theorem Inv.move {k : Nat} {T : List T6} {Nl Ml : List Int} {cnt n : Int} (h : Inv k 0 T Nl Ml cnt n) (hk : k ≤ 998) {f t : Nat} (hf : f < 4) (ht : t < 4) {m : Int} (h1 : -1099511627776 < m) (h2 : m < 1099511627776) :
    countE T [((f : Int), -m), ((t : Int), m)] = 0 ∧ ∃ b b' : Int, Ml[f]? = some b ∧ (Ml.set f (b - m))[t]? = some b' ∧ Inv (k + 2) 0 (countT T [((f : Int), -m), ((t : Int), m)]) Nl ((Ml.set f (b - m)).set t (b' + m)) cnt (n + (if m = 0 then 0 else 2)) := by
  obtain ⟨tf, htf⟩ : ∃ x, T[f]? = some x := ⟨_, List.getElem?_eq_getElem (by rw [h.len]; exact hf)⟩
  obtain ⟨b, hb⟩ : ∃ x, Ml[f]? = some x := ⟨_, List.getElem?_eq_getElem (by rw [h.lenM]; exact hf)⟩
  obtain ⟨o1, i1⟩ := h.entry (by omega) (a := -m) htf hb (by omega) (by omega)
  obtain ⟨tt, htt⟩ : ∃ x, (T.set f (step1 tf (-m)))[t]? = some x := ⟨_, List.getElem?_eq_getElem (by rw [i1.len]; exact ht)⟩
  obtain ⟨b', hb'⟩ : ∃ x, (Ml.set f (b + -m))[t]? = some x := ⟨_, List.getElem?_eq_getElem (by rw [i1.lenM]; exact ht)⟩
  obtain ⟨o2, i2⟩ := i1.entry (by omega) (a := m) htt hb' h1 h2
  have hall : inAll T.length [((f : Int), -m), ((t : Int), m)] := by
    intro e he
    rw [h.len]
    simp at he
    rcases he with rfl | rfl <;> simp only <;> omega
  have hfold : foldT T [((f : Int), -m), ((t : Int), m)] = some ((T.set f (step1 tf (-m))).set t (step1 tt m)) := by
    rw [foldT_cons]
    simp only [Int.toNat_natCast, htf]
    rw [if_pos o1, foldT_cons]
    simp only [Int.toNat_natCast, htt]
    rw [if_pos o2]
    rfl
  have hE : countE T [((f : Int), -m), ((t : Int), m)] = 0 := by
    unfold countE
    rw [if_neg (fun h' => h' hall), hfold]
  refine ⟨hE, b, b', hb, hb', ?_⟩
  rw [countT_some hall hfold]
  have e1 : (0 : Int) + -m + m = 0 := by omega
  have e2 : n + (if -m = 0 then 0 else 1) + (if m = 0 then 0 else 1) = n + (if m = 0 then 0 else 2) := by
    by_cases hz : m = 0
    · rw [if_pos hz, if_pos hz, if_pos (by omega)]
      omega
    · rw [if_neg hz, if_neg hz, if_neg (by omega)]
      omega
  rw [e1, e2] at i2
  exact i2
end Go.Proofs.Ytbobmilbcbileaa
