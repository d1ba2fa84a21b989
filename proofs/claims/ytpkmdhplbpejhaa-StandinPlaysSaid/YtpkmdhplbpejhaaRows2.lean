/- A member's limits that came in, opened; and calls. -/
import Derived.Test.YtpkmdhplbpejhaaRecs
import Derived.Test.YtpkmdhplbpejhaaW1
namespace Go.Proofs.Ytpkmdhplbpejhaa
open Go.ChangeShapes Go.WideShapes Go.ChangeAt Go.RowKit Mem
section
variable {H : Type} {enc : TypeId × Value → H} {W : World} {base b0 : Nat} {spare : Nat → Bool} {held : Bool} {r : Reach}
/-- Four cells cut out of a row. -/
theorem cut_one {α : Type} {cs : List α} {i : Nat} {a : α} (h : (cs.drop i).take 1 = [a]) : cs[i]? = some a := by
  have : ((cs.drop i).take 1)[0]? = some a := by rw [h]; rfl
  simpa using this
theorem dec_stand (fuel : Nat) (cs : List Value) (y : DataW H × List MemPlace) (h : DataW.trod enc Try.prog W base spare held fuel 35 cs = some y) : ∃ p : Int × Int, cs = stand.enc p ∧ isInt p.1 ∧ isInt p.2 := by
  obtain ⟨xs, n, _, _, hl, hx, hf⟩ := DataW.trod_struct Try.underlying35 h
  have hl2 : cs.length = 2 := by rw [hl]; kernel_rfl
  have hx2 : xs.length = 2 := hx
  have h0 : DataW.trod enc Try.prog W base spare held n 3 ((cs.drop 0).take (Try.prog.cellsOf 3)) = xs[0]? := hf 0 _ rfl
  have h1 : DataW.trod enc Try.prog W base spare held n 3 ((cs.drop 1).take (Try.prog.cellsOf 3)) = xs[1]? := hf 1 _ rfl
  rw [List.getElem?_eq_getElem (by omega)] at h0 h1
  obtain ⟨a, ha, _, wa⟩ := DataW.trod_int Try.underlying3 h0
  obtain ⟨b, hb, _, wb⟩ := DataW.trod_int Try.underlying3 h1
  rw [cells3] at ha hb
  have ha := cut_one ha
  have hb := cut_one hb
  refine ⟨(a, b), ?_, int_wf wa, int_wf wb⟩
  match cs, hl2, ha, hb with
  | [u, v], _, ha, hb =>
    simp at ha hb
    rw [ha, hb]
    rfl
theorem open_stand {v : Value} {d : DataW H} {p : List MemPlace} (hv : Value.okWide Try.prog W r b0 35 v) (h : DataW.Trod enc Try.prog W base spare held 35 v d p) : ∃ q : Int × Int, v = .agg #[.int .i64 q.1, .int .i64 q.2] ∧ isInt q.1 ∧ isInt q.2 := by
  obtain ⟨cs, rfl, _⟩ := okWide_struct Try.underlying35 hv
  obtain ⟨fuel, hf⟩ := h
  obtain ⟨q, hq, h1, h2⟩ := dec_stand _ _ _ hf
  refine ⟨q, ?_, h1, h2⟩
  have : cs.toList = stand.enc q := hq
  rw [← Array.toArray_toList (xs := cs), this]
  rfl
end
end Go.Proofs.Ytpkmdhplbpejhaa
