/- TimerPlays: its row. -/
import Derived.Test.YteeginfbonfhlaaPlays
import Derived.Test.YteeginfbonfhlaaRows2
namespace Go.Proofs.Yteeginfbonfhlaa
open Go.ChangeShapes Go.WideShapes Go.ChangeAt Go.RowKit Mem
theorem plays_row (S : Option Addr) (ns cs : Nat) (os : List OT) (w : World) (hr : Reads opE w S ns os) (hok : ∀ o ∈ os, okO o) :
    Calls Try.prog 4 #[.slice S ns cs] w fun e w' => e = .returned (.bool true) ∧ Below w.heap.size w w' :=
  (plays_any S ns cs os w hr hok).mono fun _ _ ⟨h, k⟩ => ⟨h, k.below (Nat.le_refl _) (fun _ _ h => h)⟩
end Go.Proofs.Yteeginfbonfhlaa
