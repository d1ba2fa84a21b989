/- Timers gone through; the clock in one piece or in two: plain. -/
import Derived.Test.YteeginfbonfhlaaW8
namespace Go.Proofs.Yteeginfbonfhlaa
open Go.RowKit Mem
theorem leD_at {x d : DU} (h : leD x d) : x.at_ ≤ d.at_ := by
  rcases (show d.at_ < x.at_ ∨ x.at_ ≤ d.at_ by omega) with h1 | h1
  · have : ltD d x = true := (ltD_iff d x).2 (.inl h1)
    unfold leD at h
    rw [h] at this
    cases this
  · exact h1
theorem minD_mem {L : List DU} {x : DU} (h : minD L = some x) : x ∈ L := (minD_is h).1
theorem minD_get {L : List DU} (hU : Unlike L) {x : DU} (h : minD L = some x) : getA L x.key x.kind = some x.at_ := (getA_some hU).2 (minD_mem h)
theorem wo_min_len {L : List DU} (hU : Unlike L) {x : DU} (h : minD L = some x) : (wo L x.key x.kind).length + 1 = L.length := by
  have := wo_len hU x.key x.kind
  rw [minD_get hU h] at this
  simpa using this
theorem set_len {L : List DU} (hU : Unlike L) (d : DU) : (wo L d.key d.kind ++ [d]).length = L.length ∨ (wo L d.key d.kind ++ [d]).length = L.length + 1 := by
  have := wo_len hU d.key d.kind
  rw [List.length_append, List.length_singleton]
  split at this <;> omega
theorem someB_some {L : List DU} {x : DU} (h : minD L = some x) : someB L = true ∧ firstI L = x.at_ := by
  unfold someB firstI
  rw [h]
  exact ⟨rfl, rfl⟩
theorem goC_some {L : List DU} {x : DU} (h : minD L = some x) (c t : Int) : goC c L t = max c (min (min t x.at_) maxC) := by
  obtain ⟨h1, h2⟩ := someB_some h
  unfold goC goTo
  rw [h1, h2]
  rfl
theorem goC_none {L : List DU} (h : minD L = none) (c t : Int) : goC c L t = max c (min t maxC) := by
  unfold goC goTo someB
  rw [h]
  rfl
theorem dueR_some {L : List DU} {x : DU} (h : minD L = some x) (c : Int) : dueR c L = if x.at_ ≤ c then some x else none := by
  unfold dueR
  rw [h]
theorem dueR_none {L : List DU} (h : minD L = none) (c : Int) : dueR c L = none := by
  unfold dueR
  rw [h]
theorem dueL_of {c : Int} {L : List DU} {x : DU} (h : dueR c L = some x) : dueL c L = wo L x.key x.kind := by
  unfold dueL
  rw [h]
theorem dueL_no {c : Int} {L : List DU} (h : dueR c L = none) : dueL c L = L := by
  unfold dueL
  rw [h]
/-! ### The end of all things, one by one -/
/-- Behind Go to the end. -/
theorem order_step {c : Int} {L : List DU} (hU : Unlike L) (hok : ∀ d ∈ L, okD d) (hc : ∀ d ∈ L, c ≤ d.at_) {x : DU} (hm : minD L = some x) :
    goC c L 1125899906842624 = x.at_ ∧ dueR x.at_ L = some x ∧ dueL x.at_ L = wo L x.key x.kind ∧ (wo L x.key x.kind).length + 1 = L.length ∧ (∀ d ∈ wo L x.key x.kind, x.at_ ≤ d.at_) := by
  have hx := minD_mem hm
  have h1 := hc x hx
  have h2 := (hok x hx).2.2
  have hd : dueR x.at_ L = some x := by rw [dueR_some hm]; simp
  refine ⟨?_, hd, dueL_of hd, wo_min_len hU hm, fun d hd => leD_at ((minD_is hm).2 d (mem_wo.1 hd).1)⟩
  rw [goC_some hm]
  unfold maxC
  omega
/-! ### All that comes due till a time -/
def drain : Nat → Int → List DU → Int → List DU × Int × List DU
  | 0, c, L, x => ([], goC c L x, L)
  | k + 1, c, L, x => match dueR (goC c L x) L with
    | none => ([], goC (goC c L x) L x, L)
    | some d => (d :: (drain k (goC c L x) (wo L d.key d.kind) x).1, (drain k (goC c L x) (wo L d.key d.kind) x).2)
theorem drain_none {k : Nat} {c : Int} {L : List DU} {x : Int} (h : dueR (goC c L x) L = none) : drain (k + 1) c L x = ([], goC (goC c L x) L x, L) := by
  simp only [drain]
  rw [h]
theorem drain_some {k : Nat} {c : Int} {L : List DU} {x : Int} {d : DU} (h : dueR (goC c L x) L = some d) : drain (k + 1) c L x = (d :: (drain k (goC c L x) (wo L d.key d.kind) x).1, (drain k (goC c L x) (wo L d.key d.kind) x).2) := by
  simp only [drain]
  rw [h]
theorem dueR_min {c : Int} {L : List DU} {d : DU} (h : dueR c L = some d) : minD L = some d ∧ d.at_ ≤ c := by
  unfold dueR at h
  cases hm : minD L with
  | none => rw [hm] at h; cases h
  | some y =>
    rw [hm] at h
    by_cases hle : y.at_ ≤ c
    · simp only [hle, if_true] at h
      injection h with h
      subst h
      exact ⟨rfl, hle⟩
    · simp [hle] at h
theorem goC_again (c : Int) (L : List DU) (x : Int) : goC (goC c L x) L x = goC c L x := by
  unfold goC
  omega
theorem drain_fuel : ∀ (k k' : Nat) (c : Int) (L : List DU) (x : Int), Unlike L → L.length < k → L.length < k' → drain k c L x = drain k' c L x
  | 0, _, _, _, _, _, h, _ => by omega
  | _, 0, _, _, _, _, _, h => by omega
  | k + 1, k' + 1, c, L, x, hU, h1, h2 => by
    cases hd : dueR (goC c L x) L with
    | none => rw [drain_none hd, drain_none hd]
    | some d =>
      have hl := wo_min_len hU (dueR_min hd).1
      rw [drain_some hd, drain_some hd, drain_fuel k k' _ _ x (wo_unlike hU _ _) (by omega) (by omega)]
/-- The clock of the start is not seen but by the first step. -/
theorem drain_clock {k : Nat} {c c' : Int} {L : List DU} {x : Int} (h : goC c L x = goC c' L x) : drain (k + 1) c L x = drain (k + 1) c' L x := by
  simp only [drain]
  rw [h]
theorem drain_cut : ∀ (k : Nat) (c : Int) (L : List DU) (a b : Int), Unlike L → (∀ d ∈ L, okD d) → L.length < k → a ≤ b →
    drain k c L b = ((drain k c L a).1 ++ (drain k (drain k c L a).2.1 (drain k c L a).2.2 b).1, (drain k (drain k c L a).2.1 (drain k c L a).2.2 b).2)
  | 0, _, _, _, _, _, _, h, _ => by omega
  | k + 1, c, L, a, b, hU, hok, h, hab => by
    cases hd : dueR (goC c L a) L with
    | none =>
      rw [drain_none hd]
      have e : goC c L b = goC (goC (goC c L a) L a) L b := by
        rw [goC_again]
        cases hm : minD L with
        | none => rw [goC_none hm, goC_none hm, goC_none hm]; unfold maxC; omega
        | some x =>
          have hx := (hok x (minD_mem hm)).2.2
          rw [dueR_some hm, goC_some hm] at hd
          rw [goC_some hm, goC_some hm, goC_some hm]
          unfold maxC at *
          by_cases hle : x.at_ ≤ max c (min (min a x.at_) 1125899906842624)
          · rw [if_pos hle] at hd; cases hd
          · omega
      rw [drain_clock e]
      simp
    | some d =>
      obtain ⟨hm, hle⟩ := dueR_min hd
      have hx := (hok d (minD_mem hm)).2.2
      have hl := wo_min_len hU hm
      have e : goC c L a = goC c L b := by
        rw [goC_some hm] at hle ⊢
        rw [goC_some hm]
        unfold maxC at *
        omega
      have hd' : dueR (goC c L b) L = some d := by rw [← e]; exact hd
      have ih := drain_cut k (goC c L b) (wo L d.key d.kind) a b (wo_unlike hU _ _) (fun y hy => hok y (mem_wo.1 hy).1) (by omega) hab
      have hlen := drain_len k (goC c L b) (wo L d.key d.kind) a (wo_unlike hU _ _)
      have hun := drain_unlike k (goC c L b) (wo L d.key d.kind) a (wo_unlike hU _ _)
      rw [drain_some hd', drain_some hd, e, ih]
      have hf := drain_fuel k (k + 1) (drain k (goC c L b) (wo L d.key d.kind) a).2.1 (drain k (goC c L b) (wo L d.key d.kind) a).2.2 b hun (by omega) (by omega)
      simp only
      rw [← hf]
      rfl
where
  drain_len : ∀ (k : Nat) (c : Int) (L : List DU) (x : Int), Unlike L → (drain k c L x).2.2.length ≤ L.length
  | 0, _, _, _, _ => Nat.le_refl _
  | k + 1, c, L, x, hU => by
    cases hd : dueR (goC c L x) L with
    | none => rw [drain_none hd]; exact Nat.le_refl _
    | some d =>
      have hl := wo_min_len hU (dueR_min hd).1
      have := drain_len k (goC c L x) (wo L d.key d.kind) x (wo_unlike hU _ _)
      rw [drain_some hd]
      show (drain k (goC c L x) (wo L d.key d.kind) x).2.2.length ≤ _
      omega
  drain_unlike : ∀ (k : Nat) (c : Int) (L : List DU) (x : Int), Unlike L → Unlike (drain k c L x).2.2
  | 0, _, _, _, hU => hU
  | k + 1, c, L, x, hU => by
    cases hd : dueR (goC c L x) L with
    | none => rw [drain_none hd]; exact hU
    | some d =>
      rw [drain_some hd]
      exact drain_unlike k (goC c L x) (wo L d.key d.kind) x (wo_unlike hU _ _)
theorem drain_outs_len : ∀ (k : Nat) (c : Int) (L : List DU) (x : Int), (drain k c L x).1.length ≤ k
  | 0, _, _, _ => Nat.le_refl _
  | k + 1, c, L, x => by
    cases hd : dueR (goC c L x) L with
    | none => rw [drain_none hd]; exact Nat.zero_le _
    | some d =>
      have := drain_outs_len k (goC c L x) (wo L d.key d.kind) x
      rw [drain_some hd]
      show (drain k (goC c L x) (wo L d.key d.kind) x).1.length + 1 ≤ _
      omega
end Go.Proofs.Yteeginfbonfhlaa
