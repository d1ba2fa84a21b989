/- TimerOrder: its row. -/
import Derived.Test.YteeginfbonfhlaaOrder
import Derived.Test.YteeginfbonfhlaaRows2
namespace Go.Proofs.Yteeginfbonfhlaa
open Go.ChangeShapes Go.WideShapes Go.ChangeAt Go.RowKit Mem
theorem order_row (S : Option Addr) (ns cs : Nat) (os : List OT) (w : World) (hr : Reads opE w S ns os) (hok : ∀ o ∈ os, okO o) :
    Calls Try.prog 5 #[.slice S ns cs] w fun e w' => e = .returned (.bool true) ∧ Below w.heap.size w w' :=
  (order_any S ns cs os w hr hok).mono fun _ _ ⟨h, k⟩ => ⟨h, k.below (Nat.le_refl _) (fun _ _ h => h)⟩
end Go.Proofs.Yteeginfbonfhlaa
