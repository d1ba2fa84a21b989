/- A row of rows of bytes that came in, opened. -/
import Derived.Test.YtaccdbiajcnlaaaOpen
import Derived.Test.YtaccdbiajcnlaaaUse
import Derived.Test.YtaccdbiajcnlaaaBulk
namespace Go.Proofs.Ytaccdbiajcnlaaa
open Go.ChangeShapes Go.WideShapes Go.ChangeAt Go.RowKit Mem
section
variable {H : Type} {enc : TypeId × Value → H} {P : Program} {w : World} {base fuel : Nat} {spare : Nat → Bool} {held : Bool} {t e b : TypeId} {cs : List Value} {x : DataW H × List MemPlace}
/-- What a reading tells of a row of lines. -/
def RowsOf (d : DataW H) (n : Nat) (fs : List (List Nat)) : Prop := (d = .nil ∧ n = 0 ∧ fs = []) ∨ ∃ el sp, d = .slice el sp ∧ el.length = n ∧ fs.length = n ∧ ∀ (i : Nat) (f : List Nat), fs[i]? = some f → ∃ y, el[i]? = some y ∧ SliceOf y f.length
theorem lines_of_trod (ht : P.underlying t = some (.slice e)) (he : P.underlying e = some (.slice b)) (hb : P.underlying b = some (.int .u8)) (hce : P.cellsOf e = 1) (hcb : P.cellsOf b = 1) (h : DataW.trod enc P w base spare held fuel t cs = some x) :
    ∃ (A : Option Addr) (n c : Nat) (hs : List Sl) (fs : List (List Nat)), cs = [.slice A n c] ∧ Lines w A n hs fs ∧ n ≤ c ∧ RowsOf x.1 n fs := by
  rcases DataW.trod_slice ht h with ⟨rfl, rfl⟩ | ⟨a, len, cap, elems, rest, n, _, rfl, rfl, hbb, hl, hm, hlen, hel, hsp, hns⟩
  · exact ⟨none, 0, 0, [], [], rfl, ⟨Reads.nil _ _ _, rfl, fun i h f hi => by simp at hi, by simp⟩, Nat.le_refl _, .inl ⟨rfl, rfl, rfl⟩⟩
  · have each : ∀ i : Fin len, ∃ (a' : Sl) (f : List Nat), w.cell? (a.add i) = some (.slice a'.A a'.n a'.c) ∧ Reads byte w a'.A a'.n f ∧ (∀ c ∈ f, c < 256) ∧ ∃ y, (elems.map (·.1))[i.1]? = some y ∧ SliceOf y f.length := by
      intro i
      have hi := hel i.1 i.2
      have hil : i.1 < elems.length := by have := i.2; omega
      rw [List.getElem?_eq_getElem hil, hce, Nat.mul_one, Option.bind_eq_some_iff] at hi
      obtain ⟨cs', hcs, hy⟩ := hi
      obtain ⟨A', n', c', L, rfl, hr, hsm, _, hd⟩ := bytes_of_trod he hb hcb hy
      refine ⟨⟨A', n', c'⟩, L, cell_of_cells?_one hcs, hr, hsm, (elems[i.1]).1, by rw [List.getElem?_map, List.getElem?_eq_getElem hil]; rfl, ?_⟩
      rw [hr.1]
      exact hd
    obtain ⟨hh, each⟩ := Classical.axiomOfChoice each
    obtain ⟨ff, hq⟩ := Classical.axiomOfChoice each
    refine ⟨some a, len, cap, List.ofFn hh, List.ofFn ff, rfl, ⟨⟨by simp, fun _ => ⟨a, rfl, fun i y j u hi hj => ?_⟩⟩, by simp, fun i y f hi hf => ?_, fun f hf => ?_⟩, hl, .inr ⟨_, _, rfl, by simp [hlen], by simp, fun i f hf => ?_⟩⟩
    · have hil : i < len := by
        have := (List.getElem?_eq_some_iff.1 hi).1
        simpa using this
      have e1 : hh ⟨i, hil⟩ = y := by simpa [List.getElem?_ofFn, hil] using hi
      have hj0 : j = 0 := by
        rcases Nat.eq_zero_or_pos j with h0 | h0
        · exact h0
        · rw [List.getElem?_eq_none (by simp [hdr]; omega)] at hj; cases hj
      subst hj0
      have hu : u = .slice y.A y.n y.c := by simpa [hdr] using hj.symm
      rw [show i * hdr.size + 0 = i from Nat.mul_one i, hu, ← e1]
      exact (hq ⟨i, hil⟩).1
    · have hil : i < len := by
        have := (List.getElem?_eq_some_iff.1 hi).1
        simpa using this
      have e1 : hh ⟨i, hil⟩ = y := by simpa [List.getElem?_ofFn, hil] using hi
      have e2 : ff ⟨i, hil⟩ = f := by simpa [List.getElem?_ofFn, hil] using hf
      rw [← e1, ← e2]
      exact (hq ⟨i, hil⟩).2.1
    · obtain ⟨i, rfl⟩ := by simpa using hf
      exact (hq i).2.2.1
    · have hil : i < len := by
        have := (List.getElem?_eq_some_iff.1 hf).1
        simpa using this
      have e2 : ff ⟨i, hil⟩ = f := by simpa [List.getElem?_ofFn, hil] using hf
      rw [← e2]
      exact (hq ⟨i, hil⟩).2.2.2
end
theorem open_lines {H : Type} {enc : TypeId × Value → H} {P : Program} {W : World} {base b0 : Nat} {spare : Nat → Bool} {held : Bool} {r : Reach} {t e b : TypeId} {v : Value} {d : DataW H} {p : List MemPlace}
    (ht : P.underlying t = some (.slice e)) (he : P.underlying e = some (.slice b)) (hb : P.underlying b = some (.int .u8)) (hce : P.cellsOf e = 1) (hcb : P.cellsOf b = 1) (hv : Value.okWide P W r b0 t v)
    (h : DataW.Trod enc P W base spare held t v d p) :
    ∃ (A : Option Addr) (n c : Nat) (hs : List Sl) (fs : List (List Nat)), v = .slice A n c ∧ Lines W A n hs fs ∧ n ≤ c ∧ RowsOf d n fs := by
  obtain ⟨A, n, c, rfl⟩ := okWide_slice ht hv
  obtain ⟨fuel, hf⟩ := h
  obtain ⟨A', n', c', hs, fs, hcs, hl, hle, hd⟩ := lines_of_trod ht he hb hce hcb hf
  simp [Value.cells] at hcs
  obtain ⟨rfl, rfl, rfl⟩ := hcs
  exact ⟨A, n, c, hs, fs, rfl, hl, hle, hd⟩
/-- How many bytes the lines have together. -/
def total (fs : List (List Nat)) : Nat := (fs.map List.length).sum
theorem total_nil : total [] = 0 := rfl
theorem total_cons (f : List Nat) (fs : List (List Nat)) : total (f :: fs) = f.length + total fs := rfl
theorem total_append (a b : List (List Nat)) : total (a ++ b) = total a + total b := by simp [total]
theorem total_take_succ {fs : List (List Nat)} {k : Nat} {f : List Nat} (h : fs[k]? = some f) : total (fs.take (k + 1)) = total (fs.take k) + f.length := by
  rw [List.take_add_one, h, total_append]
  simp [total]
theorem total_take_le (fs : List (List Nat)) (k : Nat) : total (fs.take k) ≤ total fs := by
  have := total_append (fs.take k) (fs.drop k)
  rw [List.take_append_drop] at this
  omega
theorem bulk_lines {H : Type} : ∀ (el : List (DataW H)) (fs : List (List Nat)), fs.length = el.length → (∀ (i : Nat) (f : List Nat), fs[i]? = some f → ∃ y, el[i]? = some y ∧ SliceOf y f.length) → total fs + fs.length ≤ Rows.uptoBulkAll el
  | [], [], _, _ => by simp [total]
  | [], _ :: _, h, _ => by simp at h
  | _ :: _, [], h, _ => by simp at h
  | y :: el, f :: fs, h, hq => by
    have h1 : f.length + 1 ≤ Rows.uptoBulk y := by
      obtain ⟨y', hy, hs⟩ := hq 0 f rfl
      obtain rfl : y = y' := by simpa using hy
      rcases hs with ⟨rfl, h0⟩ | ⟨a, b, rfl, h0⟩
      · rw [h0]; exact bulks.one_le _
      · have := bulks.slice_le a b; omega
    have h2 := bulk_lines el fs (by simpa using h) (fun i f' hf => hq (i + 1) f' (by simpa using hf))
    rw [total_cons]
    simp only [Rows.uptoBulkAll, List.length_cons]
    omega
theorem rows_bulk {H : Type} {d : DataW H} {n : Nat} {fs : List (List Nat)} (h : RowsOf d n fs) : total fs + n ≤ Rows.uptoBulk d := by
  rcases h with ⟨_, rfl, rfl⟩ | ⟨el, sp, rfl, h1, h2, h3⟩
  · simp [total]
  · have := bulk_lines el fs (by omega) h3
    have := bulks.slice_elems el sp
    omega
end Go.Proofs.Ytaccdbiajcnlaaa
