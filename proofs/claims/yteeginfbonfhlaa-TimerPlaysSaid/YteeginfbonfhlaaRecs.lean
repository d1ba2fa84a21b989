/- Slices of records that came in, opened: nil, empty and other ones alike. For any program. -/
import Derived.Test.YteeginfbonfhlaaOpen
namespace Go.Proofs.Yteeginfbonfhlaa.Mem
open Go.ChangeShapes Go.WideShapes Go.ChangeAt Go.RowKit
section
variable {H : Type} {enc : TypeId × Value → H} {P : Program} {w : World} {base : Nat} {spare : Nat → Bool} {held : Bool} {t e : TypeId} {cs : List Value} {x : DataW H × List MemPlace} {α : Type}
/-- What a slice's reading tells of its things. -/
def Recs (D : α → DataW H → Prop) (d : DataW H) (xs : List α) : Prop := (d = .nil ∧ xs = []) ∨ ∃ el sp, d = .slice el sp ∧ el.length = xs.length ∧ ∀ (i : Nat) (x : α), xs[i]? = some x → ∃ y, el[i]? = some y ∧ D x y
theorem recs_all {Q : α → Prop} {d : DataW H} {xs : List α} (h : Recs (fun x _ => Q x) d xs) : ∀ x ∈ xs, Q x := by
  intro x hx
  rcases h with ⟨_, rfl⟩ | ⟨el, sp, _, _, h⟩
  · simp at hx
  · obtain ⟨i, hi⟩ := List.getElem?_of_mem hx
    obtain ⟨_, _, h⟩ := h i x hi
    exact h
theorem recs_of_trod (E : Enc α) (D : α → DataW H → Prop) {fuel : Nat} (ht : P.underlying t = some (.slice e)) (hc : P.cellsOf e = E.size)
    (dec : ∀ (fuel : Nat) (cs : List Value) (y : DataW H × List MemPlace), DataW.trod enc P w base spare held fuel e cs = some y → ∃ x : α, cs = E.enc x ∧ D x y.1)
    (h : DataW.trod enc P w base spare held fuel t cs = some x) :
    ∃ (A : Option Addr) (n c : Nat) (xs : List α), cs = [.slice A n c] ∧ Reads E w A n xs ∧ n ≤ c ∧ c ≤ maxLen ∧ Recs D x.1 xs := by
  rcases DataW.trod_slice ht h with ⟨rfl, rfl⟩ | ⟨a, len, cap, elems, rest, n, _, rfl, rfl, hbb, hl, hm, hlen, hel, hsp, hns⟩
  · exact ⟨none, 0, 0, [], rfl, Reads.nil _ _ _, Nat.le_refl _, Nat.zero_le _, .inl ⟨rfl, rfl⟩⟩
  · have each : ∀ i : Fin len, ∃ x : α, w.cells? base (a.add (i * E.size)) E.size = some (E.enc x) ∧ ∃ y, (elems.map (·.1))[i.1]? = some y ∧ D x y := by
      intro i
      have hi := hel i.1 i.2
      have hil : i.1 < elems.length := by have := i.2; omega
      rw [List.getElem?_eq_getElem hil, hc, Option.bind_eq_some_iff] at hi
      obtain ⟨cs', hcs, hy⟩ := hi
      obtain ⟨x, rfl, hd⟩ := dec _ _ _ hy
      exact ⟨x, hcs, (elems[i.1]).1, by rw [List.getElem?_map, List.getElem?_eq_getElem hil]; rfl, hd⟩
    obtain ⟨hh, each⟩ := Classical.axiomOfChoice each
    refine ⟨some a, len, cap, List.ofFn hh, rfl, ⟨by simp, fun _ => ⟨a, rfl, fun i y j u hi hj => ?_⟩⟩, hl, hm, .inr ⟨_, _, rfl, by simp [hlen], fun i y hi => ?_⟩⟩
    · have hil : i < len := by
        have := (List.getElem?_eq_some_iff.1 hi).1
        simpa using this
      have e1 : hh ⟨i, hil⟩ = y := by simpa [List.getElem?_ofFn, hil] using hi
      have hjl : j < E.size := by
        have := (List.getElem?_eq_some_iff.1 hj).1
        rwa [E.len] at this
      have := ((World.cells?_some (each ⟨i, hil⟩).1).2.2 j hjl)
      rw [add_add, e1, hj] at this
      exact this
    · have hil : i < len := by
        have := (List.getElem?_eq_some_iff.1 hi).1
        simpa using this
      have e1 : hh ⟨i, hil⟩ = y := by simpa [List.getElem?_ofFn, hil] using hi
      rw [← e1]
      exact (each ⟨i, hil⟩).2
theorem open_recs {W : World} {b0 : Nat} {r : Reach} {v : Value} {d : DataW H} {p : List MemPlace} (E : Enc α) (D : α → DataW H → Prop) (ht : P.underlying t = some (.slice e)) (hc : P.cellsOf e = E.size)
    (dec : ∀ (fuel : Nat) (cs : List Value) (y : DataW H × List MemPlace), DataW.trod enc P W base spare held fuel e cs = some y → ∃ x : α, cs = E.enc x ∧ D x y.1)
    (hv : Value.okWide P W r b0 t v) (h : DataW.Trod enc P W base spare held t v d p) :
    ∃ (A : Option Addr) (n c : Nat) (xs : List α), v = .slice A n c ∧ Reads E W A n xs ∧ n ≤ c ∧ c ≤ maxLen ∧ Recs D d xs := by
  obtain ⟨A, n, c, rfl⟩ := okWide_slice ht hv
  obtain ⟨fuel, hf⟩ := h
  obtain ⟨A', n', c', xs, hcs, hr, hle, hmm, hd⟩ := recs_of_trod E D ht hc dec hf
  simp [Value.cells] at hcs
  obtain ⟨rfl, rfl, rfl⟩ := hcs
  exact ⟨A, n, c, xs, rfl, hr, hle, hmm, hd⟩
end
end Go.Proofs.Yteeginfbonfhlaa.Mem
