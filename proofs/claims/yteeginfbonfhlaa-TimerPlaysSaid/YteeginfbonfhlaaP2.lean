/- What is due, as a list of unlike things: plain. -/
import Derived.Test.YteeginfbonfhlaaP1
namespace Go.Proofs.Yteeginfbonfhlaa
open Go.RowKit Mem
/-- Is it this thing? -/
def same (d : DU) (s : ByteArray) (i : Int) : Bool := d.key.toList == s.toList && d.kind == i
theorem same_iff {d : DU} {s : ByteArray} {i : Int} : same d s i = true ↔ d.key = s ∧ d.kind = i := by
  unfold same
  simp only [Bool.and_eq_true, beq_iff_eq]
  exact and_congr_left' ⟨toList_inj, fun h => by rw [h]⟩
theorem same_self (d : DU) : same d d.key d.kind = true := same_iff.2 ⟨rfl, rfl⟩
/-- Without one thing. -/
def wo (L : List DU) (s : ByteArray) (i : Int) : List DU := L.filter (fun d => !same d s i)
/-- When a thing is due. -/
def getA (L : List DU) (s : ByteArray) (i : Int) : Option Int := (L.find? (fun d => same d s i)).map DU.at_
/-- No thing twice. -/
def Unlike (L : List DU) : Prop := L.Pairwise (fun a b => same a b.key b.kind = false)
theorem mem_wo {L : List DU} {s : ByteArray} {i : Int} {d : DU} : d ∈ wo L s i ↔ d ∈ L ∧ same d s i = false := by
  unfold wo
  simp
theorem getA_none {L : List DU} {s : ByteArray} {i : Int} : getA L s i = none ↔ ∀ d ∈ L, same d s i = false := by
  unfold getA
  simp
theorem getA_some {L : List DU} (hU : Unlike L) {s : ByteArray} {i v : Int} : getA L s i = some v ↔ (⟨v, s, i⟩ : DU) ∈ L := by
  constructor
  · intro h
    unfold getA at h
    obtain ⟨d, hd, rfl⟩ := Option.map_eq_some_iff.1 h
    have h1 := List.mem_of_find?_eq_some hd
    have h2 := List.find?_some hd
    obtain ⟨rfl, rfl⟩ := same_iff.1 h2
    exact h1
  · intro h
    induction L with
    | nil => cases h
    | cons a L ih =>
      have hU' := List.pairwise_cons.1 hU
      unfold getA
      rw [List.find?_cons]
      cases ha : same a s i
      · rcases List.mem_cons.1 h with e | h
        · rw [← e] at ha
          rw [same_self ⟨v, s, i⟩] at ha
          cases ha
        · exact ih hU'.2 h
      · rcases List.mem_cons.1 h with e | h
        · simp [← e]
        · have := hU'.1 _ h
          rw [ha] at this
          cases this
theorem wo_len {L : List DU} (hU : Unlike L) (s : ByteArray) (i : Int) : (wo L s i).length + (if (getA L s i).isSome then 1 else 0) = L.length := by
  induction L with
  | nil => rfl
  | cons a L ih =>
    have hU' := List.pairwise_cons.1 hU
    unfold wo getA
    rw [List.filter_cons, List.find?_cons]
    cases ha : same a s i
    · have := ih hU'.2
      unfold wo getA at this
      simp only [Bool.not_false, if_true, List.length_cons]
      omega
    · have h0 : L.filter (fun d => !same d s i) = L := by
        rw [List.filter_eq_self]
        intro d hd
        cases hs : same d s i
        · rfl
        · obtain ⟨rfl, rfl⟩ := same_iff.1 hs
          rw [hU'.1 d hd] at ha
          cases ha
      simp [h0]
theorem wo_unlike {L : List DU} (hU : Unlike L) (s : ByteArray) (i : Int) : Unlike (wo L s i) := List.Pairwise.sublist List.filter_sublist hU
theorem set_unlike {L : List DU} (hU : Unlike L) (d : DU) : Unlike (wo L d.key d.kind ++ [d]) := by
  unfold Unlike
  rw [List.pairwise_append]
  refine ⟨wo_unlike hU _ _, List.pairwise_singleton _ _, fun a ha b hb => ?_⟩
  rw [List.mem_singleton.1 hb]
  exact (mem_wo.1 ha).2
theorem getA_wo_same (L : List DU) (s : ByteArray) (i : Int) : getA (wo L s i) s i = none := getA_none.2 fun _ hd => (mem_wo.1 hd).2
theorem find_filter {α : Type} {f g : α → Bool} (h : ∀ x, f x = true → g x = true) : ∀ L : List α, (L.filter g).find? f = L.find? f
  | [] => rfl
  | a :: L => by
    rw [List.filter_cons]
    cases hg : g a
    · have hf : f a = false := by
        cases hf : f a
        · rfl
        · rw [h a hf] at hg; cases hg
      simp only [Bool.false_eq_true, if_false]
      rw [find_filter h L, List.find?_cons, hf]
    · simp only [if_true]
      rw [List.find?_cons, List.find?_cons, find_filter h L]
theorem getA_wo_other (L : List DU) {s t : ByteArray} {i j : Int} (h : ¬ (t = s ∧ j = i)) : getA (wo L s i) t j = getA L t j := by
  unfold getA wo
  rw [find_filter]
  intro x hx
  obtain ⟨rfl, rfl⟩ := same_iff.1 hx
  cases hs : same x s i
  · rfl
  · exact absurd (same_iff.1 hs) h
theorem getA_app (L : List DU) (d : DU) (s : ByteArray) (i : Int) : getA (L ++ [d]) s i = if (getA L s i).isSome then getA L s i else if same d s i then some d.at_ else none := by
  unfold getA
  rw [List.find?_append]
  cases hL : L.find? (fun d => same d s i)
  · simp only [Option.none_or, List.find?_cons, List.find?_nil]
    cases hd : same d s i <;> simp
  · simp
theorem getA_set_same (L : List DU) (d : DU) : getA (wo L d.key d.kind ++ [d]) d.key d.kind = some d.at_ := by
  rw [getA_app, getA_wo_same, same_self]
  simp
theorem getA_set_other (L : List DU) (d : DU) {t : ByteArray} {j : Int} (h : ¬ (t = d.key ∧ j = d.kind)) : getA (wo L d.key d.kind ++ [d]) t j = getA L t j := by
  rw [getA_app, getA_wo_other L h]
  have : same d t j = false := by
    cases hs : same d t j
    · rfl
    · obtain ⟨h1, h2⟩ := same_iff.1 hs
      exact absurd ⟨h1.symm, h2.symm⟩ h
  rw [this]
  cases getA L t j <;> simp
/-- Which is due first. -/
def IsMin (L : List DU) (x : DU) : Prop := x ∈ L ∧ ∀ y ∈ L, leD x y
theorem IsMin.uniq {L : List DU} {x y : DU} (hx : IsMin L x) (hy : IsMin L y) : x = y := ltD_tri (hy.2 x hx.1) (hx.2 y hy.1)
/-- By going through them. -/
def minD : List DU → Option DU
  | [] => none
  | a :: L => match minD L with
    | none => some a
    | some b => if ltD b a then some b else some a
theorem minD_none {L : List DU} : minD L = none ↔ L = [] := by
  cases L with
  | nil => simp [minD]
  | cons a L =>
    simp only [minD]
    cases minD L with
    | none => simp
    | some b => by_cases h : ltD b a = true <;> simp [h]
theorem minD_is {L : List DU} {x : DU} (h : minD L = some x) : IsMin L x := by
  induction L generalizing x with
  | nil => cases h
  | cons a L ih =>
    simp only [minD] at h
    cases hm : minD L with
    | none =>
      rw [hm] at h
      injection h with h
      subst h
      rw [minD_none.1 hm]
      exact ⟨by simp, fun y hy => by rw [List.mem_singleton.1 hy]; exact leD_refl _⟩
    | some b =>
      rw [hm] at h
      have hb := ih hm
      by_cases hl : ltD b a = true
      · simp only [hl, if_true] at h
        injection h with h
        subst h
        exact ⟨List.mem_cons_of_mem _ hb.1, fun y hy => by
          rcases List.mem_cons.1 hy with rfl | hy
          · exact leD_of_lt hl
          · exact hb.2 y hy⟩
      · simp only [hl] at h
        injection h with h
        subst h
        have hab : leD a b := by simpa [leD] using hl
        exact ⟨by simp, fun y hy => by
          rcases List.mem_cons.1 hy with rfl | hy
          · exact leD_refl _
          · exact leD_trans hab (hb.2 y hy)⟩
theorem minD_of {L : List DU} {x : DU} (h : IsMin L x) : minD L = some x := by
  cases hm : minD L with
  | none => rw [minD_none.1 hm] at h; cases h.1
  | some y => rw [IsMin.uniq h (minD_is hm)]
end Go.Proofs.Yteeginfbonfhlaa
