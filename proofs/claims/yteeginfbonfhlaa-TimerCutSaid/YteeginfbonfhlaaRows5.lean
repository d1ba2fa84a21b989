/- TimerCut: its row. -/
import Derived.Test.YteeginfbonfhlaaCut
import Derived.Test.YteeginfbonfhlaaRows2
namespace Go.Proofs.Yteeginfbonfhlaa
open Go.ChangeShapes Go.WideShapes Go.ChangeAt Go.RowKit Mem
theorem cut_row (S : Option Addr) (ns cs : Nat) (os : List OT) (a b : Int) (w : World) (hr : Reads opE w S ns os) (hok : ∀ o ∈ os, okO o) :
    Calls Try.prog 6 #[.slice S ns cs, .int .i64 a, .int .i64 b] w fun e w' => e = .returned (.bool true) ∧ Below w.heap.size w w' :=
  (cut_any S ns cs os a b w hr hok).mono fun _ _ ⟨h, k⟩ => ⟨h, k.below (Nat.le_refl _) (fun _ _ h => h)⟩
end Go.Proofs.Yteeginfbonfhlaa
