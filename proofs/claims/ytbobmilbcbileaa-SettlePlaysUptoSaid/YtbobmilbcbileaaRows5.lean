/- Calls that came in, opened. -/
import Derived.Test.YtbobmilbcbileaaRows2
import Derived.Test.YtbobmilbcbileaaPlays
namespace Go.Proofs.Ytbobmilbcbileaa
open Go.ChangeShapes Go.WideShapes Go.ChangeAt Go.RowKit Mem
section
variable {H : Type} {enc : TypeId × Value → H} {W : World} {base b0 : Nat} {spare : Nat → Bool} {held : Bool} {r : Reach}
def opD (W : World) (o : OPR) (d : DataW H) : Prop := isInt o.kind ∧ Reads entry W o.A o.n o.es ∧ (∀ e ∈ o.es, okE e) ∧ o.n ≤ Rows.uptoBulk d
theorem cells35 : Try.prog.cellsOf 35 = 1 := by kernel_rfl
theorem dec_op (fuel : Nat) (cs : List Value) (y : DataW H × List MemPlace) (h : DataW.trod enc Try.prog W base spare held fuel 57 cs = some y) : ∃ o : OPR, cs = opE.enc o ∧ opD W o y.1 := by
  obtain ⟨xs, n, _, hy, hl, hx, hf⟩ := DataW.trod_struct Try.underlying57 h
  have hl2 : cs.length = 2 := by rw [hl]; kernel_rfl
  have hx2 : xs.length = 2 := hx
  have h0 : DataW.trod enc Try.prog W base spare held n 3 ((cs.drop 0).take (Try.prog.cellsOf 3)) = xs[0]? := hf 0 _ rfl
  have h1 : DataW.trod enc Try.prog W base spare held n 35 ((cs.drop 1).take (Try.prog.cellsOf 35)) = xs[1]? := hf 1 _ rfl
  rw [List.getElem?_eq_getElem (by omega)] at h0 h1
  obtain ⟨a, ha, _, wa⟩ := DataW.trod_int Try.underlying3 h0
  rw [cells3] at ha
  rw [cells35] at h1
  obtain ⟨A, m, c, es, hb, hr, hle, hm, hd⟩ := recs_of_trod entry (fun p _ => okE p) Try.underlying35 (by kernel_rfl) dec_entry h1
  have ha := cut_one ha
  have hb := cut_one hb
  have hbulk := recs_bulk hd
  rw [hr.1] at hbulk
  refine ⟨⟨a, A, m, c, es⟩, ?_, int_wf wa, hr, recs_all hd, ?_⟩
  · match cs, hl2, ha, hb with
    | [u, v], _, ha, hb =>
      simp at ha hb
      rw [ha, hb]
      rfl
  · show m ≤ Rows.uptoBulk y.1
    rw [hy]
    have hmem : xs[1].1 ∈ xs.map (·.1) := List.mem_map.2 ⟨_, List.getElem_mem _, rfl⟩
    have := bulks.part_le hmem
    have h2 : Rows.uptoBulkAll (xs.map (·.1)) ≤ Rows.uptoBulk (.agg (xs.map (·.1))) := by simp only [Rows.uptoBulk]; omega
    show m ≤ Rows.uptoBulk (.agg (xs.map (·.1)))
    omega
theorem ops_small {d : DataW H} {os : List OPR} (h : Recs (opD W) d os) (hb : Rows.uptoBulk d ≤ 1048576) : ∀ o ∈ os, okO W o := by
  intro x hx
  rcases h with ⟨_, rfl⟩ | ⟨el, sp, rfl, _, h⟩
  · simp at hx
  · obtain ⟨i, hi⟩ := List.getElem?_of_mem hx
    obtain ⟨y, hy, h1, h2, h3, h4⟩ := h i x hi
    have h5 := bulks.part_le (List.mem_of_getElem? hy)
    have h6 := bulks.slice_elems el sp
    exact ⟨h1, h2, h3, by unfold bulkM; omega⟩
end
end Go.Proofs.Ytbobmilbcbileaa
