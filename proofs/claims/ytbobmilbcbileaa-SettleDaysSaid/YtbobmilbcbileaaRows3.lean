/- Rows of entries that came in, opened. -/
import Derived.Test.YtbobmilbcbileaaRows2
import Derived.Test.YtbobmilbcbileaaDays
namespace Go.Proofs.Ytbobmilbcbileaa
open Go.ChangeShapes Go.WideShapes Go.ChangeAt Go.RowKit Mem
section
variable {H : Type} {enc : TypeId × Value → H} {W : World} {base b0 : Nat} {spare : Nat → Bool} {held : Bool} {r : Reach}
theorem dec_row (fuel : Nat) (cs : List Value) (y : DataW H × List MemPlace) (h : DataW.trod enc Try.prog W base spare held fuel 35 cs = some y) : ∃ r : ER, cs = rowE.enc r ∧ okR W r := by
  obtain ⟨A, n, c, xs, rfl, hr, hle, hm, hd⟩ := recs_of_trod entry (fun p _ => okE p) Try.underlying35 (by kernel_rfl) dec_entry h
  refine ⟨⟨A, n, c, xs⟩, rfl, hr, recs_all hd, ?_⟩
  show n ≤ 9223372036854775807
  unfold maxLen at hm
  omega
end
end Go.Proofs.Ytbobmilbcbileaa
