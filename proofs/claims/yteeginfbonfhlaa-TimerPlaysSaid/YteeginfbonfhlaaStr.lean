/- Strings of bytes that lie in cells. For any program. -/
import Derived.Test.YteeginfbonfhlaaMem
import Derived.Laws.BytesArg
import Derived.Lib.Strings
namespace Go.Proofs.Yteeginfbonfhlaa.Mem
open Go.RowKit
/-- These bytes as a string. -/
def strB (l : List Nat) : ByteArray := ⟨(l.map UInt8.ofNat).toArray⟩
theorem strB_nums (l : List Nat) : strOfNums (l.map fun x : Nat => (x : Int)) = strB l := by
  unfold strOfNums strB
  simp [List.map_map, Function.comp_def]
theorem strB_inj {l m : List Nat} (hl : ∀ x ∈ l, x < 256) (hm : ∀ x ∈ m, x < 256) (h : strB l = strB m) : l = m := by
  have h1 : l.map UInt8.ofNat = m.map UInt8.ofNat := by
    have := congrArg (fun b => b.data.toList) h
    simpa [strB] using this
  have h2 : (l.map UInt8.ofNat).map UInt8.toNat = (m.map UInt8.ofNat).map UInt8.toNat := by rw [h1]
  have key : ∀ k : List Nat, (∀ x ∈ k, x < 256) → (k.map UInt8.ofNat).map UInt8.toNat = k := by
    intro k hk
    rw [List.map_map]
    conv => rhs; rw [← List.map_id k]
    refine List.map_congr_left fun x hx => ?_
    have := hk x hx
    simp
    omega
  rw [key l hl, key m hm] at h2
  exact h2
theorem strB_eq {l m : List Nat} (hl : ∀ x ∈ l, x < 256) (hm : ∀ x ∈ m, x < 256) : strB l = strB m ↔ l = m := ⟨strB_inj hl hm, fun h => by rw [h]⟩
theorem strB_test {l m : List Nat} (hl : ∀ x ∈ l, x < 256) (hm : ∀ x ∈ m, x < 256) : ((strB l).toList == (strB m).toList) = decide (l = m) := by
  by_cases h : l = m
  · subst h; simp
  · rw [decide_eq_false h]
    refine beq_false_of_ne fun e => h (strB_inj hl hm (by rw [ByteArray.toList_eq, ByteArray.toList_eq] at e; exact ByteArray.ext (Array.toList_inj.1 e)))
/-- 'string(b)'. -/
theorem Reads.str {P : Program} {w : World} {A : Option Addr} {n : Nat} {l : List Nat} (h : Reads byte w A n l) (c : Nat) (src e dst : TypeId) (hs : P.underlying src = some (.slice e)) (he : P.underlying e = some (.int .u8)) (hd : P.underlying dst = some .string) :
    (convert src dst (.slice A n c)).run P w = .ok (.string (strB l)) w := by
  have hn := h.1
  rcases Nat.eq_zero_or_pos n with h0 | h0
  · subst h0
    have hl0 : l = [] := List.eq_nil_of_length_eq_zero hn
    subst hl0
    rcases A with _ | ad
    · rw [run_convert_bytes_nil w src e hs he 0 c dst hd]
      rfl
    · have hl : (loadCells ad 0).run P w = .ok (([] : List Int).map (Value.int .u8)).toArray w := by
        simpa using run_loadCells_list (P := P) w ad [] (fun j v hj => by simp at hj)
      rw [run_convert_bytes_string w src dst e _ 0 c hs he hd, run_bytesToString w _ 0 c [] hl]
      rfl
  · obtain ⟨ad, rfl, hc⟩ := h.2 h0
    have hl : (loadCells ad n).run P w = .ok ((l.map fun x : Nat => (x : Int)).map (Value.int .u8)).toArray w := by
      have := run_loadCells_list (P := P) w ad ((l.map fun x : Nat => (x : Int)).map (Value.int .u8)) (fun j v hj => by
        simp only [List.map_map, List.getElem?_map, Option.map_eq_some_iff] at hj
        obtain ⟨x, hx, rfl⟩ := hj
        have := hc j x 0 _ hx rfl
        simpa [byte] using this)
      simpa [hn] using this
    rw [run_convert_bytes_string w src dst e _ n c hs he hd, run_bytesToString w _ n c _ hl, foldl_push_bytes, ← strB_nums]
    simp [strOfNums, ByteArray.empty, ByteArray.emptyWithCapacity]
    rfl
section
variable {α : Type} {E : Enc α} {w : World} {base : Nat} {e : TypeId} {l : List α} {g n c : Nat}
theorem Own.len_eq {v : Value} {A : Option Addr} (h : Own E w base e v l) (hv : v = .slice A n c) : l.length = n := by
  obtain ⟨A', c', e', _⟩ := h.slice
  rw [hv] at e'
  injection e' with _ e'
  exact e'.symm
theorem Own.frozen (h : Own E w base e (.slice (some ⟨g, 0, none⟩) n c) l) (j : Nat) : w.frozen? ⟨g, j, none⟩ = false := by
  have hn := h.len_eq rfl
  subst hn
  exact World.ownsRow.frozenAt h j
theorem Own.at_ (h : Own E w base e (.slice (some ⟨g, 0, none⟩) n c) l) {i j : Nat} {x : α} {u : Value} (hi : l[i]? = some x) (hj : (E.enc x)[j]? = some u) : w.cell? ⟨g, i * E.size + j, none⟩ = some u := by
  have hn := h.len_eq rfl
  subst hn
  have := World.ownsRow.cells h (g := g) rfl _ u (E.all_get l i j x u hi hj)
  rwa [add_at] at this
end
/-- One byte of a row of the call's own. -/
theorem Own.byte_at {w : World} {base : Nat} {e : TypeId} {l : List Nat} {g n c : Nat} (h : Own byte w base e (.slice (some ⟨g, 0, none⟩) n c) l) {i : Nat} (hi : i < n) : ∃ x, l[i]? = some x ∧ w.cell? ⟨g, i, none⟩ = some (.int .u8 ((x : Nat) : Int)) := by
  have hn := h.len_eq rfl
  subst hn
  refine ⟨l[i], List.getElem?_eq_getElem hi, ?_⟩
  have := h.at_ (List.getElem?_eq_getElem hi) (j := 0) rfl
  simpa [byte] using this
theorem Own.byte_set {w : World} {base : Nat} {e : TypeId} {l : List Nat} {g n c : Nat} (h : Own byte w base e (.slice (some ⟨g, 0, none⟩) n c) l) {i : Nat} (hi : i < n) (y : Nat) : Own byte (w.setCell ⟨g, i, none⟩ (.int .u8 ((y : Nat) : Int))) base e (.slice (some ⟨g, 0, none⟩) n c) (l.set i y) := by
  have hn := h.len_eq rfl
  subst hn
  have := h.store (y := y) (j := 0) (u := .int .u8 ((y : Nat) : Int)) (List.getElem?_eq_getElem hi) (by decide) rfl
  simpa [byte] using this
theorem Own.val {α : Type} {E : Enc α} {w : World} {base : Nat} {e : TypeId} {v : Value} {l : List α} {n : Nat} (h : Own E w base e v l) (hn : l.length = n) : ∃ A c, v = .slice A n c ∧ Reads E w A n l := by
  subst hn
  obtain ⟨A, c, e, hr, _⟩ := h.slice
  exact ⟨A, c, e, hr⟩
end Go.Proofs.Yteeginfbonfhlaa.Mem
