/- A slice of bytes that came in, opened: nil, empty and other ones alike. -/
import Derived.Test.YteincbegfamhpaaDoorW2
import Derived.ProofKit
import Derived.OpenShut
import Derived.SizedLaws
namespace Go.Proofs.YteincbegfamhpaaDoor
open Go.ChangeShapes Go.WideShapes Go.ChangeAt Go.RowKit
theorem open_bytes {H : Type} {enc : TypeId × Value → H} {P : Program} {W : World} {base b0 : Nat} {spare : Nat → Bool} {held : Bool} {r : Reach} {t e : TypeId} {v : Value} {d : DataW H} {p : List MemPlace}
    (ht : P.underlying t = some (.slice e)) (he : P.underlying e = some (.int .u8)) (hc : P.cellsOf e = 1) (hb : P.bytesOf e = 1) (hv : Value.okWide P W r b0 t v)
    (h : DataW.Trod enc P W base spare held t v d p) (hw : ∀ el sp, d = .slice el sp → (el.length + sp.length) * P.bytesOf e ≤ reachBytes) :
    ∃ (A : Option Addr) (n c : Nat) (L : List Nat), v = .slice A n c ∧ Bytes W A n L ∧ n ≤ 140737488351232 ∧ n ≤ c ∧ ((d = .nil ∧ n = 0) ∨ ∃ el sp, d = .slice el sp ∧ el.length = n) := by
  obtain ⟨A, n, c, rfl⟩ := okWide_slice ht hv
  obtain ⟨fuel, hf⟩ := h
  rcases open_ints ht he hc hf with ⟨hcs, hx⟩ | ⟨a, len, cap, zs, hcs, _, hle, hmax, hlen, hx, hcell, hwf⟩
  · simp [Value.cells] at hcs hx
    obtain ⟨rfl, rfl, rfl⟩ := hcs
    exact ⟨none, 0, 0, [], rfl, Bytes.nil W, by omega, by omega, .inl ⟨hx.1, rfl⟩⟩
  · simp [Value.cells] at hcs hx
    obtain ⟨rfl, rfl, rfl⟩ := hcs
    have hzl : n ≤ zs.length := by rw [hlen]; split <;> omega
    have hd := hx.1
    have hle2 := hw _ _ hd
    rw [hb] at hle2
    have hel : (lits (H := H) .u8 (zs.take n)).length = n := by simp [lits]; omega
    have hn : n ≤ 140737488351232 := by rw [hel] at hle2; unfold reachBytes at hle2; omega
    refine ⟨some a, n, c, (zs.take n).map Int.toNat, rfl, ⟨by simp; omega, by omega, ?_, fun _ => ⟨a, rfl, fun j hj => ?_⟩⟩, hn, hle, .inr ⟨_, _, hd, hel⟩⟩
    · intro x hx
      obtain ⟨z, hz, rfl⟩ := List.mem_map.1 hx
      have := bounds_u8 (hwf z (List.mem_of_mem_take hz))
      omega
    · rw [hcell j (by omega)]
      have hz : zs.getD j 0 = zs[j]'(by omega) := by rw [List.getD_eq_getElem?_getD, List.getElem?_eq_getElem (by omega)]; rfl
      have hb := bounds_u8 (hwf (zs[j]'(by omega)) (List.getElem_mem _))
      unfold at_
      rw [hz, List.getD_eq_getElem?_getD, List.getElem?_map, List.getElem?_take_of_lt hj, List.getElem?_eq_getElem (by omega)]
      simp only [Option.map_some, Option.getD_some]
      rw [Int.toNat_of_nonneg hb.1]
/-- A whole number that is not below nought, as a natural one. -/
theorem open_u32 {z : Int} (h : (Lit.int .u32 z).wf = true) : ∃ s : Nat, z = s ∧ s < 4294967296 := by
  have := bounds_u32 h
  exact ⟨z.toNat, by omega, by omega⟩
end Go.Proofs.YteincbegfamhpaaDoor
