/- A day's book, account by account: plain. -/
import Derived.Test.YtbobmilbcbileaaJoins
namespace Go.Proofs.Ytbobmilbcbileaa
open Go.RowKit Mem
/-- One account's total behind some entries; none: a sum passes. -/
def foldA (a : Nat) : T6 → List (Int × Int) → Option T6
  | t, [] => some t
  | t, e :: es => if e.1 = (a : Int) then (if ok1 t e.2 then foldA a (step1 t e.2) es else none) else foldA a t es
theorem foldA_cons (a : Nat) (t : T6) (e : Int × Int) (es : List (Int × Int)) : foldA a t (e :: es) = if e.1 = (a : Int) then (if ok1 t e.2 then foldA a (step1 t e.2) es else none) else foldA a t es := rfl
theorem foldA_append (a : Nat) (t : T6) (x y : List (Int × Int)) : foldA a t (x ++ y) = (foldA a t x).bind (fun t' => foldA a t' y) := by
  induction x generalizing t with
  | nil => rfl
  | cons e x ih =>
    rw [List.cons_append, foldA_cons, foldA_cons]
    by_cases h : e.1 = (a : Int)
    · rw [if_pos h, if_pos h]
      by_cases h2 : ok1 t e.2
      · rw [if_pos h2, if_pos h2]; exact ih _
      · rw [if_neg h2, if_neg h2]; rfl
    · rw [if_neg h, if_neg h]; exact ih _
theorem foldA_of {T T' : List T6} {es : List (Int × Int)} (h : foldT T es = some T') (hin : inAll T.length es) {a : Nat} {t : T6} (ha : T[a]? = some t) : ∃ t', T'[a]? = some t' ∧ foldA a t es = some t' := by
  induction es generalizing T t with
  | nil =>
    unfold foldT at h
    injection h with h
    subst h
    exact ⟨t, ha, rfl⟩
  | cons e es ih =>
    have he := hin e (List.mem_cons_self ..)
    rw [foldT_cons] at h
    obtain ⟨x, hx⟩ : ∃ x, T[e.1.toNat]? = some x := ⟨_, List.getElem?_eq_getElem (by omega)⟩
    rw [hx] at h
    simp only at h
    by_cases ho : ok1 x e.2
    · rw [if_pos ho] at h
      have hin' : inAll (T.set e.1.toNat (step1 x e.2)).length es := by rw [List.length_set]; exact fun y hy => hin y (List.mem_cons_of_mem _ hy)
      rw [foldA_cons]
      by_cases hea : e.1 = (a : Int)
      · have hae : e.1.toNat = a := by omega
        rw [hae, ha] at hx
        injection hx with hx
        subst hx
        rw [if_pos hea, if_pos ho]
        exact ih h hin' (by rw [hae]; exact List.getElem?_set_self (List.getElem?_eq_some_iff.1 ha).1)
      · rw [if_neg hea]
        exact ih h hin' (by rw [List.getElem?_set_ne (by omega)]; exact ha)
    · rw [if_neg ho] at h; cases h
theorem foldA_none {T : List T6} {es : List (Int × Int)} (h : foldT T es = none) (hin : inAll T.length es) : ∃ (a : Nat) (t : T6), T[a]? = some t ∧ foldA a t es = none := by
  induction es generalizing T with
  | nil => unfold foldT at h; cases h
  | cons e es ih =>
    have he := hin e (List.mem_cons_self ..)
    rw [foldT_cons] at h
    obtain ⟨x, hx⟩ : ∃ x, T[e.1.toNat]? = some x := ⟨_, List.getElem?_eq_getElem (by omega)⟩
    rw [hx] at h
    simp only at h
    by_cases ho : ok1 x e.2
    · rw [if_pos ho] at h
      have hin' : inAll (T.set e.1.toNat (step1 x e.2)).length es := by rw [List.length_set]; exact fun y hy => hin y (List.mem_cons_of_mem _ hy)
      obtain ⟨a, t, ha, hn⟩ := ih h hin'
      by_cases hea : e.1.toNat = a
      · rw [hea] at ha hx
        rw [List.getElem?_set_self (List.getElem?_eq_some_iff.1 hx).1] at ha
        injection ha with ha
        subst ha
        exact ⟨a, x, hx, by rw [foldA_cons, if_pos (by omega), if_pos ho]; exact hn⟩
      · rw [List.getElem?_set_ne hea] at ha
        exact ⟨a, t, ha, by rw [foldA_cons, if_neg (by omega)]; exact hn⟩
    · exact ⟨e.1.toNat, x, hx, by rw [foldA_cons, if_pos (by omega), if_neg ho]⟩
theorem zeros_at {n i : Nat} (h : i < n) : (zeros n)[i]? = some (zero6 i) := by
  unfold zeros
  rw [List.getElem?_map, List.getElem?_range h]
  rfl
theorem rows_eq {n : Nat} {es : List (Int × Int)} {rows : List T6} (hl : rows.length = n) (h : ∀ i t, rows[i]? = some t → foldA i (zero6 i) es = some t) (hin : inAll n es) : foldT (zeros n) es = some rows := by
  have hin' : inAll (zeros n).length es := by rw [zeros_length]; exact hin
  cases hf : foldT (zeros n) es with
  | none =>
    obtain ⟨a, t, ha, hn⟩ := foldA_none hf hin'
    have hal := (List.getElem?_eq_some_iff.1 ha).1
    rw [zeros_length] at hal
    rw [zeros_at hal] at ha
    injection ha with ha
    subst ha
    have := h a _ (List.getElem?_eq_getElem (by omega))
    rw [hn] at this
    cases this
  | some T' =>
    have hl' : T'.length = n := by rw [foldT_length hf, zeros_length]
    congr 1
    apply List.ext_getElem?
    intro i
    rcases Nat.lt_or_ge i n with hi | hi
    · obtain ⟨t', h1, h2⟩ := foldA_of hf hin' (zeros_at hi)
      have h3 := h i _ (List.getElem?_eq_getElem (by omega))
      rw [h2] at h3
      rw [h1, List.getElem?_eq_getElem (by omega)]
      exact h3
    · rw [List.getElem?_eq_none (by omega), List.getElem?_eq_none (by omega)]
theorem rows_no {n : Nat} {es : List (Int × Int)} {a : Nat} (ha : a < n) (h : foldA a (zero6 a) es = none) (hin : inAll n es) : foldT (zeros n) es = none := by
  cases hf : foldT (zeros n) es with
  | none => rfl
  | some T' =>
    obtain ⟨t', _, h2⟩ := foldA_of hf (by rw [zeros_length]; exact hin) (zeros_at ha)
    rw [h] at h2
    cases h2
/-- What holds of an account's total. -/
def good (a : Nat) (t : T6) : Prop := t.member = a ∧ 0 ≤ t.cs ∧ t.cs ≤ 9223372036854775807 ∧ 0 ≤ t.ds ∧ t.ds ≤ 9223372036854775807 ∧ t.net = wrap64 (t.cs - t.ds)
theorem good_zero (a : Nat) : good a (zero6 a) := by
  unfold good zero6
  simp only
  exact ⟨trivial, by omega, by omega, by omega, by omega, by unfold wrap64; omega⟩
theorem good_step {a : Nat} {t : T6} {x : Int} (h : good a t) (ho : ok1 t x) : good a (step1 t x) := by
  obtain ⟨h1, h2, h3, h4, h5, h6⟩ := h
  unfold ok1 isInt at ho
  unfold step1
  by_cases p : 0 < x
  · rw [if_pos p]
    have := ho.1 p
    exact ⟨h1, by simp only; omega, by simp only; omega, h4, h5, rfl⟩
  · by_cases q : x < 0
    · rw [if_neg p, if_pos q]
      have := ho.2 q
      exact ⟨h1, h2, h3, by simp only; omega, by simp only; omega, rfl⟩
    · rw [if_neg p, if_neg q]
      exact ⟨h1, h2, h3, h4, h5, rfl⟩
theorem foldA_good {a : Nat} {es : List (Int × Int)} {t t' : T6} (h : foldA a t es = some t') (hg : good a t) : good a t' := by
  induction es generalizing t with
  | nil => unfold foldA at h; injection h with h; rw [← h]; exact hg
  | cons e es ih =>
    rw [foldA_cons] at h
    by_cases h1 : e.1 = (a : Int)
    · rw [if_pos h1] at h
      by_cases h2 : ok1 t e.2
      · rw [if_pos h2] at h; exact ih h (good_step hg h2)
      · rw [if_neg h2] at h; cases h
    · rw [if_neg h1] at h; exact ih h hg
theorem foldA_succ {a : Nat} {es : List (Int × Int)} {t t' : T6} {k : Nat} {e : Int × Int} (h : foldA a t (es.take k) = some t') (hk : es[k]? = some e) : foldA a t (es.take (k + 1)) = foldA a t' [e] := by
  rw [List.take_add_one, hk]
  show foldA a t (es.take k ++ [e]) = _
  rw [foldA_append, h]
  rfl
theorem foldA_fail {a : Nat} {es : List (Int × Int)} {t : T6} {k : Nat} (h : foldA a t (es.take k) = none) : foldA a t es = none := by
  have h2 := foldA_append a t (es.take k) (es.drop k)
  rw [List.take_append_drop, h] at h2
  exact h2
theorem foldA_one (a : Nat) (t : T6) (e : Int × Int) : foldA a t [e] = if e.1 = (a : Int) then (if ok1 t e.2 then some (step1 t e.2) else none) else some t := rfl
theorem good_zero_step {a : Nat} {t : T6} (h : good a t) : step1 t 0 = t := by
  obtain ⟨_, _, _, _, _, h6⟩ := h
  unfold step1
  rw [if_neg (by omega), if_neg (by omega), ← h6]
end Go.Proofs.Ytbobmilbcbileaa
