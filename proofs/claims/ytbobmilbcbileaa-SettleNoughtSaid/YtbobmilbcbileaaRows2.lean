/- Entries that came in, opened. -/
import Derived.Test.YtbobmilbcbileaaRecs
import Derived.Test.YtbobmilbcbileaaBulk
import Derived.Test.YtbobmilbcbileaaW4
namespace Go.Proofs.Ytbobmilbcbileaa
open Go.ChangeShapes Go.WideShapes Go.ChangeAt Go.RowKit Mem
section
variable {H : Type} {enc : TypeId × Value → H} {W : World} {base b0 : Nat} {spare : Nat → Bool} {held : Bool} {r : Reach}
theorem cut_one {α : Type} {cs : List α} {i : Nat} {a : α} (h : (cs.drop i).take 1 = [a]) : cs[i]? = some a := by
  have : ((cs.drop i).take 1)[0]? = some a := by rw [h]; rfl
  simpa using this
theorem int_wf {i : Int} (h : (Lit.int .i64 i).wf = true) : isInt i := by
  simp [Lit.wf, IntKind.min, IntKind.max, IntKind.signed, IntKind.bits] at h
  unfold isInt
  omega
theorem cells3 : Try.prog.cellsOf 3 = 1 := by kernel_rfl
theorem dec_entry (fuel : Nat) (cs : List Value) (y : DataW H × List MemPlace) (h : DataW.trod enc Try.prog W base spare held fuel 34 cs = some y) : ∃ p : Int × Int, cs = entry.enc p ∧ okE p := by
  obtain ⟨xs, n, _, _, hl, hx, hf⟩ := DataW.trod_struct Try.underlying34 h
  have hl2 : cs.length = 2 := by rw [hl]; kernel_rfl
  have hx2 : xs.length = 2 := hx
  have h0 : DataW.trod enc Try.prog W base spare held n 3 ((cs.drop 0).take (Try.prog.cellsOf 3)) = xs[0]? := hf 0 _ rfl
  have h1 : DataW.trod enc Try.prog W base spare held n 3 ((cs.drop 1).take (Try.prog.cellsOf 3)) = xs[1]? := hf 1 _ rfl
  rw [List.getElem?_eq_getElem (by omega)] at h0 h1
  obtain ⟨a, ha, _, wa⟩ := DataW.trod_int Try.underlying3 h0
  obtain ⟨b, hb, _, wb⟩ := DataW.trod_int Try.underlying3 h1
  rw [cells3] at ha hb
  have ha := cut_one ha
  have hb := cut_one hb
  refine ⟨(a, b), ?_, int_wf wa, int_wf wb⟩
  match cs, hl2, ha, hb with
  | [u, v], _, ha, hb =>
    simp at ha hb
    rw [ha, hb]
    rfl
/-- How long a row is, and how much it weighs. -/
theorem recs_bulk {α : Type} {D : α → DataW H → Prop} {d : DataW H} {xs : List α} (h : Recs D d xs) : xs.length ≤ Rows.uptoBulk d := by
  rcases h with ⟨_, rfl⟩ | ⟨el, sp, rfl, h, _⟩
  · simp
  · have := bulks.slice_le el sp
    omega
end
end Go.Proofs.Ytbobmilbcbileaa
