/- Arguments that came in, opened: bytes, numbers, rows of these; nil, empty and other ones alike. For any program. -/
import Derived.Test.YteeginfbonfhlaaStr
import Derived.ProofKit
import Derived.OpenShut
import Derived.SizedLaws
namespace Go.Proofs.Yteeginfbonfhlaa.Mem
open Go.ChangeShapes Go.WideShapes Go.ChangeAt Go.RowKit
/-- A number in a cell. -/
def num (k : IntKind) : Enc Int where
  enc := fun c => [.int k c]
  size := 1
  len := fun _ => rfl
  one := fun x u h => by simp at h; subst h; rfl
  pos := by decide
section
variable {H : Type} {enc : TypeId × Value → H} {P : Program} {w : World} {base fuel : Nat} {spare : Nat → Bool} {held : Bool} {t e : TypeId} {cs : List Value} {x : DataW H × List MemPlace}
/-- What a slice's reading tells of its length. -/
def SliceOf (d : DataW H) (n : Nat) : Prop := (d = .nil ∧ n = 0) ∨ ∃ el sp, d = .slice el sp ∧ el.length = n
theorem bytes_of_trod (ht : P.underlying t = some (.slice e)) (he : P.underlying e = some (.int .u8)) (hc : P.cellsOf e = 1) (h : DataW.trod enc P w base spare held fuel t cs = some x) :
    ∃ (A : Option Addr) (n c : Nat) (L : List Nat), cs = [.slice A n c] ∧ Reads byte w A n L ∧ (∀ c ∈ L, c < 256) ∧ n ≤ c ∧ SliceOf x.1 n := by
  rcases open_ints ht he hc h with ⟨rfl, rfl⟩ | ⟨a, len, cap, zs, rfl, _, hle, hmax, hlen, rfl, hcell, hwf⟩
  · exact ⟨none, 0, 0, [], rfl, Reads.nil _ _ _, by simp, Nat.le_refl _, .inl ⟨rfl, rfl⟩⟩
  · have hzl : len ≤ zs.length := by rw [hlen]; split <;> omega
    refine ⟨some a, len, cap, (zs.take len).map Int.toNat, rfl, ⟨by simp; omega, fun _ => ⟨a, rfl, fun i y j u hi hj => ?_⟩⟩, ?_, hle, .inr ⟨_, _, rfl, by simp [lits]; omega⟩⟩
    · rw [List.getElem?_map] at hi
      obtain ⟨z, hz, rfl⟩ := Option.map_eq_some_iff.1 hi
      have hil : i < len := by
        have := (List.getElem?_eq_some_iff.1 hz).1
        rw [List.length_take] at this
        omega
      rw [List.getElem?_take_of_lt hil] at hz
      have hb := bounds_u8 (hwf z (List.mem_of_getElem? hz))
      have hj0 : j = 0 := by
        rcases Nat.eq_zero_or_pos j with h0 | h0
        · exact h0
        · rw [List.getElem?_eq_none (by simp [byte]; omega)] at hj; cases hj
      subst hj0
      have hu : u = .int .u8 ((z.toNat : Nat) : Int) := by simpa [byte] using hj.symm
      rw [show i * byte.size + 0 = i from Nat.mul_one i, hcell i (by omega), hu]
      rw [List.getD_eq_getElem?_getD, hz, Option.getD_some, Int.toNat_of_nonneg hb.1]
    · intro c hc
      obtain ⟨z, hz, rfl⟩ := List.mem_map.1 hc
      have := bounds_u8 (hwf z (List.mem_of_mem_take hz))
      omega
theorem nums_of_trod {k : IntKind} (ht : P.underlying t = some (.slice e)) (he : P.underlying e = some (.int k)) (hc : P.cellsOf e = 1) (h : DataW.trod enc P w base spare held fuel t cs = some x) :
    ∃ (A : Option Addr) (n c : Nat) (L : List Int), cs = [.slice A n c] ∧ Reads (num k) w A n L ∧ (∀ z ∈ L, (Lit.int k z).wf = true) ∧ n ≤ c ∧ c ≤ maxLen ∧ SliceOf x.1 n := by
  rcases open_ints ht he hc h with ⟨rfl, rfl⟩ | ⟨a, len, cap, zs, rfl, _, hle, hmax, hlen, rfl, hcell, hwf⟩
  · exact ⟨none, 0, 0, [], rfl, Reads.nil _ _ _, by simp, Nat.le_refl _, Nat.zero_le _, .inl ⟨rfl, rfl⟩⟩
  · have hzl : len ≤ zs.length := by rw [hlen]; split <;> omega
    refine ⟨some a, len, cap, zs.take len, rfl, ⟨by simp; omega, fun _ => ⟨a, rfl, fun i y j u hi hj => ?_⟩⟩, fun z hz => hwf z (List.mem_of_mem_take hz), hle, hmax, .inr ⟨_, _, rfl, by simp [lits]; omega⟩⟩
    have hil : i < len := by
      have := (List.getElem?_eq_some_iff.1 hi).1
      rw [List.length_take] at this
      omega
    rw [List.getElem?_take_of_lt hil] at hi
    have hj0 : j = 0 := by
      rcases Nat.eq_zero_or_pos j with h0 | h0
      · exact h0
      · rw [List.getElem?_eq_none (by simp [num]; omega)] at hj; cases hj
    subst hj0
    have hu : u = .int k y := by simpa [num] using hj.symm
    rw [show i * (num k).size + 0 = i from Nat.mul_one i, hcell i (by omega), hu]
    rw [List.getD_eq_getElem?_getD, hi, Option.getD_some]
end
theorem open_bytes {H : Type} {enc : TypeId × Value → H} {P : Program} {W : World} {base b0 : Nat} {spare : Nat → Bool} {held : Bool} {r : Reach} {t e : TypeId} {v : Value} {d : DataW H} {p : List MemPlace}
    (ht : P.underlying t = some (.slice e)) (he : P.underlying e = some (.int .u8)) (hc : P.cellsOf e = 1) (hb : P.bytesOf e = 1) (hv : Value.okWide P W r b0 t v)
    (h : DataW.Trod enc P W base spare held t v d p) (hw : ∀ el sp, d = .slice el sp → (el.length + sp.length) * P.bytesOf e ≤ reachBytes) :
    ∃ (A : Option Addr) (n c : Nat) (L : List Nat), v = .slice A n c ∧ Reads byte W A n L ∧ (∀ x ∈ L, x < 256) ∧ n ≤ 140737488351232 ∧ n ≤ c ∧ SliceOf d n := by
  obtain ⟨A, n, c, rfl⟩ := okWide_slice ht hv
  obtain ⟨fuel, hf⟩ := h
  obtain ⟨A', n', c', L, hcs, hr, hl, hle, hd⟩ := bytes_of_trod ht he hc hf
  simp [Value.cells] at hcs
  obtain ⟨rfl, rfl, rfl⟩ := hcs
  refine ⟨A, n, c, L, rfl, hr, hl, ?_, hle, hd⟩
  rcases hd with ⟨_, h0⟩ | ⟨el, sp, hd, hel⟩
  · omega
  · have := hw el sp hd
    rw [hb] at this
    unfold reachBytes at this
    omega
theorem open_nums {H : Type} {enc : TypeId × Value → H} {P : Program} {W : World} {base b0 : Nat} {spare : Nat → Bool} {held : Bool} {r : Reach} {t e : TypeId} {k : IntKind} {v : Value} {d : DataW H} {p : List MemPlace}
    (ht : P.underlying t = some (.slice e)) (he : P.underlying e = some (.int k)) (hc : P.cellsOf e = 1) (hv : Value.okWide P W r b0 t v)
    (h : DataW.Trod enc P W base spare held t v d p) :
    ∃ (A : Option Addr) (n c : Nat) (L : List Int), v = .slice A n c ∧ Reads (num k) W A n L ∧ (∀ x ∈ L, (Lit.int k x).wf = true) ∧ n ≤ c ∧ c ≤ maxLen ∧ SliceOf d n := by
  obtain ⟨A, n, c, rfl⟩ := okWide_slice ht hv
  obtain ⟨fuel, hf⟩ := h
  obtain ⟨A', n', c', L, hcs, hr, hl, hle, hmm, hd⟩ := nums_of_trod ht he hc hf
  simp [Value.cells] at hcs
  obtain ⟨rfl, rfl, rfl⟩ := hcs
  exact ⟨A, n, c, L, rfl, hr, hl, hle, hmm, hd⟩
end Go.Proofs.Yteeginfbonfhlaa.Mem
