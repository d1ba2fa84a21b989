/- Rows of rows of entries that came in, opened. -/
import Derived.Test.YtklcooepolmemaaRows2
import Derived.Test.YtklcooepolmemaaWPosts
namespace Go.Proofs.Ytklcooepolmemaa
open Go.ChangeShapes Go.WideShapes Go.ChangeAt Go.RowKit Mem
section
variable {H : Type} {enc : TypeId × Value → H} {W : World} {base b0 : Nat} {spare : Nat → Bool} {held : Bool} {r : Reach}
def rowD (W : World) (r : ER) (d : DataW H) : Prop := okR 9223372036854775807 W r ∧ r.n ≤ Rows.uptoBulk d
theorem dec_row (fuel : Nat) (cs : List Value) (y : DataW H × List MemPlace) (h : DataW.trod enc Try.prog W base spare held fuel 22 cs = some y) : ∃ r : ER, cs = rowE.enc r ∧ rowD W r y.1 := by
  obtain ⟨A, n, c, xs, rfl, hr, hle, hm, hd⟩ := recs_of_trod entry (fun p _ => okE p) Try.underlying22 (by kernel_rfl) dec_entry h
  refine ⟨⟨A, n, c, xs⟩, rfl, ⟨hr, recs_all hd, ?_⟩, ?_⟩
  · show n ≤ 9223372036854775807
    unfold maxLen at hm
    omega
  · have h1 := recs_bulk hd
    rw [hr.1] at h1
    exact h1
theorem rows_all {d : DataW H} {rs : List ER} (h : Recs (rowD W) d rs) : ∀ r ∈ rs, okR 9223372036854775807 W r := by
  intro x hx
  rcases h with ⟨_, rfl⟩ | ⟨el, sp, _, _, h⟩
  · simp at hx
  · obtain ⟨i, hi⟩ := List.getElem?_of_mem hx
    obtain ⟨_, _, h⟩ := h i x hi
    exact h.1
theorem rows_small {d : DataW H} {rs : List ER} (h : Recs (rowD W) d rs) (hb : Rows.uptoBulk d ≤ 1048576) : ∀ r ∈ rs, okR 1048576 W r := by
  intro x hx
  rcases h with ⟨_, rfl⟩ | ⟨el, sp, rfl, _, h⟩
  · simp at hx
  · obtain ⟨i, hi⟩ := List.getElem?_of_mem hx
    obtain ⟨y, hy, h1, h2⟩ := h i x hi
    have h3 := bulks.part_le (List.mem_of_getElem? hy)
    have h4 := bulks.slice_elems el sp
    exact ⟨h1.1, h1.2.1, by omega⟩
end
end Go.Proofs.Ytklcooepolmemaa
