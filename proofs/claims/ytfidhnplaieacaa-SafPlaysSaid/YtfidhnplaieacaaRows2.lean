/- Rows of bools that came in, opened. -/
import Derived.Test.YtfidhnplaieacaaWOrder
import Derived.Test.YtfidhnplaieacaaRecs
import Derived.Test.YtfidhnplaieacaaRows
namespace Go.Proofs.Ytfidhnplaieacaa
open Go.ChangeShapes Go.WideShapes Go.ChangeAt Go.RowKit Mem
theorem int_wf {i : Int} (h : (Lit.int .i64 i).wf = true) : -9223372036854775808 ≤ i ∧ i ≤ 9223372036854775807 := by
  simp [Lit.wf, IntKind.min, IntKind.max, IntKind.signed, IntKind.bits] at h
  omega
theorem order_row (most names : Int) (hm : -9223372036854775808 ≤ most ∧ most ≤ 9223372036854775807) (hn : -9223372036854775808 ≤ names ∧ names ≤ 9223372036854775807) (S : Option Addr) (ns cs : Nat) (ss : List Bool) (w : World) (hr : Reads boolE w S ns ss) (hns : ns ≤ 9223372036854775807) :
    Calls Try.prog 3 #[.int .i64 most, .int .i64 names, .slice S ns cs] w fun e w' => e = .returned (.bool true) ∧ Below w.heap.size w w' :=
  (order_any most names hm hn S ns cs ss w hr hns).mono fun _ _ ⟨h, k⟩ => ⟨h, k.below (Nat.le_refl _) (fun _ _ h => h)⟩
section
variable {H : Type} {enc : TypeId × Value → H} {W : World} {base b0 : Nat} {spare : Nat → Bool} {held : Bool} {r : Reach}
theorem dec_bool (fuel : Nat) (cs : List Value) (y : DataW H × List MemPlace) (h : DataW.trod enc Try.prog W base spare held fuel 4 cs = some y) : ∃ b : Bool, cs = boolE.enc b ∧ True := by
  obtain ⟨b, h1, _⟩ := DataW.trod_bool Try.underlying4 h
  exact ⟨b, h1, trivial⟩
end
end Go.Proofs.Ytfidhnplaieacaa
