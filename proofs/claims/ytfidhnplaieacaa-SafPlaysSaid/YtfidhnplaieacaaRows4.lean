/- SafPlays: its row. -/
import Derived.Test.YtfidhnplaieacaaR10
import Derived.Test.YtfidhnplaieacaaRows3
namespace Go.Proofs.Ytfidhnplaieacaa
open Go.ChangeShapes Go.WideShapes Go.ChangeAt Go.RowKit Mem
theorem plays_row (most : Int) (S : Option Addr) (ns cs : Nat) (os : List OD) (w : World) (hr : Reads opE w S ns os) (hns : ns ≤ 9223372036854775807) (hok : ∀ o ∈ os, okO w o) :
    Calls Try.prog 5 #[.int .i64 most, .slice S ns cs] w fun e w' => e = .returned (.bool true) ∧ Below w.heap.size w w' := by
  by_cases h : most < 1 ∨ 16 < most
  · exact (plays_no most h S ns cs w).mono fun _ _ ⟨h, k⟩ => ⟨h, k.below (Nat.le_refl _) (fun _ _ h => h)⟩
  · obtain ⟨N, rfl⟩ : ∃ N : Nat, most = N := ⟨most.toNat, by omega⟩
    exact (plays_law N (by omega) S ns cs os w hr hns hok).mono fun _ _ ⟨h, k⟩ => ⟨h, k.below (Nat.le_refl _) (fun _ _ h => h)⟩
end Go.Proofs.Ytfidhnplaieacaa
