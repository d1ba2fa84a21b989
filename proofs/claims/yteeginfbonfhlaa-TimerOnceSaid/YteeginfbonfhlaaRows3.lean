/- TimerOnce: its row. -/
import Derived.Test.YteeginfbonfhlaaOnce
import Derived.Test.YteeginfbonfhlaaRows2
namespace Go.Proofs.Yteeginfbonfhlaa
open Go.ChangeShapes Go.WideShapes Go.ChangeAt Go.RowKit Mem
theorem once_row (s : ByteArray) (hs : isStr s) (i : Int) (hi : isInt i) (A : Option Addr) (n cp : Nat) (ts : List Int) (w : World) (hr : Reads (num .i64) w A n ts) (hz : ∀ x ∈ ts, (Lit.int .i64 x).wf = true) :
    Calls Try.prog 3 #[.string s, .int .i64 i, .slice A n cp] w fun e w' => e = .returned (.bool true) ∧ Below w.heap.size w w' :=
  (once_any s hs i hi A n cp ts w hr (fun x hx => int_wf (hz x hx))).mono fun _ _ ⟨h, k⟩ => ⟨h, k.below (Nat.le_refl _) (fun _ _ h => h)⟩
end Go.Proofs.Yteeginfbonfhlaa
