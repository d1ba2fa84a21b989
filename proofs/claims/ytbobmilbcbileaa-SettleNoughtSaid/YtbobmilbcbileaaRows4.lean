/- Moves that came in, opened. -/
import Derived.Test.YtbobmilbcbileaaRows2
import Derived.Test.YtbobmilbcbileaaNought
namespace Go.Proofs.Ytbobmilbcbileaa
open Go.ChangeShapes Go.WideShapes Go.ChangeAt Go.RowKit Mem
section
variable {H : Type} {enc : TypeId × Value → H} {W : World} {base b0 : Nat} {spare : Nat → Bool} {held : Bool} {r : Reach}
theorem cells4 : Try.prog.cellsOf 4 = 1 := by kernel_rfl
theorem dec_move (fuel : Nat) (cs : List Value) (y : DataW H × List MemPlace) (h : DataW.trod enc Try.prog W base spare held fuel 30 cs = some y) : ∃ p : MV, cs = moveE.enc p ∧ okM p := by
  obtain ⟨xs, n, _, _, hl, hx, hf⟩ := DataW.trod_struct Try.underlying30 h
  have hl2 : cs.length = 4 := by rw [hl]; kernel_rfl
  have hx2 : xs.length = 4 := hx
  have h0 : DataW.trod enc Try.prog W base spare held n 3 ((cs.drop 0).take (Try.prog.cellsOf 3)) = xs[0]? := hf 0 _ rfl
  have h1 : DataW.trod enc Try.prog W base spare held n 3 ((cs.drop 1).take (Try.prog.cellsOf 3)) = xs[1]? := hf 1 _ rfl
  have h2 : DataW.trod enc Try.prog W base spare held n 3 ((cs.drop 2).take (Try.prog.cellsOf 3)) = xs[2]? := hf 2 _ rfl
  have h3 : DataW.trod enc Try.prog W base spare held n 4 ((cs.drop 3).take (Try.prog.cellsOf 4)) = xs[3]? := hf 3 _ rfl
  rw [List.getElem?_eq_getElem (by omega)] at h0 h1 h2 h3
  obtain ⟨a, ha, _, wa⟩ := DataW.trod_int Try.underlying3 h0
  obtain ⟨b, hb, _, wb⟩ := DataW.trod_int Try.underlying3 h1
  obtain ⟨c, hc, _, wc⟩ := DataW.trod_int Try.underlying3 h2
  obtain ⟨d, hd, _⟩ := DataW.trod_bool Try.underlying4 h3
  rw [cells3] at ha hb hc
  rw [cells4] at hd
  have ha := cut_one ha
  have hb := cut_one hb
  have hc := cut_one hc
  have hd := cut_one hd
  refine ⟨⟨a, b, c, d⟩, ?_, int_wf wa, int_wf wb, int_wf wc⟩
  match cs, hl2, ha, hb, hc, hd with
  | [u, v, w, x], _, ha, hb, hc, hd =>
    simp at ha hb hc hd
    rw [ha, hb, hc, hd]
    rfl
end
end Go.Proofs.Ytbobmilbcbileaa
