/- A key, and calls, that came in, opened. -/
import Derived.Test.YteeginfbonfhlaaOps
import Derived.Test.YteeginfbonfhlaaRecs
import Derived.Test.YteeginfbonfhlaaRows
namespace Go.Proofs.Yteeginfbonfhlaa
open Go.ChangeShapes Go.WideShapes Go.ChangeAt Go.RowKit Mem
section
variable {H : Type} {enc : TypeId × Value → H} {W : World} {base b0 : Nat} {spare : Nat → Bool} {held : Bool} {r : Reach}
theorem cut_one {α : Type} {cs : List α} {i : Nat} {a : α} (h : (cs.drop i).take 1 = [a]) : cs[i]? = some a := by
  have : ((cs.drop i).take 1)[0]? = some a := by rw [h]; rfl
  simpa using this
theorem dec_op (fuel : Nat) (cs : List Value) (y : DataW H × List MemPlace) (h : DataW.trod enc Try.prog W base spare held fuel 45 cs = some y) : ∃ o : OT, cs = opE.enc o ∧ okO o := by
  obtain ⟨xs, n, _, _, hl, hx, hf⟩ := DataW.trod_struct Try.underlying45 h
  have hl2 : cs.length = 4 := by rw [hl]; kernel_rfl
  have hx2 : xs.length = 4 := hx
  have h0 : DataW.trod enc Try.prog W base spare held n 3 ((cs.drop 0).take (Try.prog.cellsOf 3)) = xs[0]? := hf 0 _ rfl
  have h1 : DataW.trod enc Try.prog W base spare held n 3 ((cs.drop 1).take (Try.prog.cellsOf 3)) = xs[1]? := hf 1 _ rfl
  have h2 : DataW.trod enc Try.prog W base spare held n 3 ((cs.drop 2).take (Try.prog.cellsOf 3)) = xs[2]? := hf 2 _ rfl
  have h3 : DataW.trod enc Try.prog W base spare held n 9 ((cs.drop 3).take (Try.prog.cellsOf 9)) = xs[3]? := hf 3 _ rfl
  rw [List.getElem?_eq_getElem (by omega)] at h0 h1 h2 h3
  obtain ⟨a, ha, _, wa⟩ := DataW.trod_int Try.underlying3 h0
  obtain ⟨b, hb, _, wb⟩ := DataW.trod_int Try.underlying3 h1
  obtain ⟨c, hc, _, wc⟩ := DataW.trod_int Try.underlying3 h2
  obtain ⟨s, hs, _, ws⟩ := DataW.trod_string Try.underlying9 h3
  rw [cells3] at ha hb hc
  rw [cells9] at hs
  have ha := cut_one ha
  have hb := cut_one hb
  have hc := cut_one hc
  have hs := cut_one hs
  refine ⟨⟨a, b, c, s⟩, ?_, int_wf wa, int_wf wb, int_wf wc, ws⟩
  match cs, hl2, ha, hb, hc, hs with
  | [u, v, x, z], _, ha, hb, hc, hs =>
    simp at ha hb hc hs
    rw [ha, hb, hc, hs]
    rfl
theorem open_str {v : Value} {d : DataW H} {p : List MemPlace} (hv : Value.okWide Try.prog W r b0 9 v) (h : DataW.Trod enc Try.prog W base spare held 9 v d p) : ∃ s : ByteArray, v = .string s ∧ isStr s := by
  obtain ⟨s, rfl⟩ := okWide_string Try.underlying9 hv
  obtain ⟨fuel, hf⟩ := h
  obtain ⟨s', hs, _, hw⟩ := DataW.trod_string Try.underlying9 hf
  simp [Value.cells] at hs
  subst hs
  exact ⟨s, rfl, hw⟩
end
end Go.Proofs.Yteeginfbonfhlaa
