/-
  No cell of these rows narrows 'for every input' (looked for: loops, veiled, ifaces, maps, wideKeys, modest, calm, conditions, laid).
  DERIVED. THE GIVEN ROWS OF THIS SEAT. 3 by the template 'for every input the law returns true; each argument reads behind the call as it read before'; 0 by the template 'total and deterministic' (their statements: YtfidhnplaieacaaTotals.lean).
  GIVEN WITH THE SEED: the statements are not yours to turn. If you find one false, say at which input.
  Laid BY PROGRAM, IN A SANDBOX (cutbox-rows.mjs): the forced cells as the released guide's own fill.sh prints them over the translation 79180cb1d307c73f… (all of the seat's roots in one cut). By AI agents, Wed Nov 11 2026. No macro, syntax, notation, axiom, sorry.
-/
import Derived.Test.YtfidhnplaieacaaChecked
import GoSem.Claim
import GoSem.ClaimJoined
import GoSem.ClaimMapViews
import Derived.JoinedTies
import Derived.KernelRfl
namespace Go.Proofs.Ytfidhnplaieacaa
/- THE CELL 'sum', in the pinned program and in every row, IS THE sha256 OF THE DUMP (.gsa) THAT YtfidhnplaieacaaProg.lean LOADS. Nothing in Lean hashes anything: it is a label: what it is worth is what the hold of that sum in a sandbox is worth. -/
noncomputable def Try.pinned : Pinned := { name := "ytfidhnplaieacaa", sum := "79180cb1d307c73fc69c2cf708a9e4b786c33a3efbd5d50b0d82524e634c0d0d", checked := Try.checked }
namespace Rows
def none {H : Type} : Left H := { results := [], args := [] }

/-- 'groatlaw16.SafOrder': WHATEVER THE INPUT: true; the input reads as it did. -/
def safOrderSpec : ChangeSpec := { name := "safOrder", fn := fun _ => fun
  | [d1, d2, d3] => { results := [.lit (.bool true)], args := [d1, d2, d3] }
  | _ => none }
def safOrderRow : OpenClaim := { program := "ytfidhnplaieacaa", sum := "79180cb1d307c73fc69c2cf708a9e4b786c33a3efbd5d50b0d82524e634c0d0d", func := "groat/groatlaw16.SafOrder", spec := "safOrder", unfollowed := true, recurses := true, apart := false }
def SafOrderSaid : Prop := safOrderRow.holds Try.pinned (OpenSpec.ofChange safOrderSpec)

/-- ITS FALSE NEIGHBOUR: 'it returns false'. Refute it at one input. -/
def safOrderWrong : ChangeSpec := { name := "safOrder", fn := fun _ => fun
  | [d1, d2, d3] => { results := [.lit (.bool false)], args := [d1, d2, d3] }
  | _ => none }
def SafOrderWrongFalsely : Prop := safOrderRow.holds Try.pinned (OpenSpec.ofChange safOrderWrong)

/-- 'groatlaw16.SafRoom': WHATEVER THE INPUT: true; the input reads as it did. -/
def safRoomSpec : ChangeSpec := { name := "safRoom", fn := fun _ => fun
  | [d1, d2] => { results := [.lit (.bool true)], args := [d1, d2] }
  | _ => none }
def safRoomRow : OpenClaim := { program := "ytfidhnplaieacaa", sum := "79180cb1d307c73fc69c2cf708a9e4b786c33a3efbd5d50b0d82524e634c0d0d", func := "groat/groatlaw16.SafRoom", spec := "safRoom", unfollowed := true, recurses := true, apart := false }
def SafRoomSaid : Prop := safRoomRow.holds Try.pinned (OpenSpec.ofChange safRoomSpec)

/-- ITS FALSE NEIGHBOUR: 'it returns false'. Refute it at one input. -/
def safRoomWrong : ChangeSpec := { name := "safRoom", fn := fun _ => fun
  | [d1, d2] => { results := [.lit (.bool false)], args := [d1, d2] }
  | _ => none }
def SafRoomWrongFalsely : Prop := safRoomRow.holds Try.pinned (OpenSpec.ofChange safRoomWrong)

/-- 'groatlaw16.SafPlays': WHATEVER THE INPUT: true; the input reads as it did. -/
def safPlaysSpec : ChangeSpec := { name := "safPlays", fn := fun _ => fun
  | [d1, d2] => { results := [.lit (.bool true)], args := [d1, d2] }
  | _ => none }
def safPlaysRow : OpenClaim := { program := "ytfidhnplaieacaa", sum := "79180cb1d307c73fc69c2cf708a9e4b786c33a3efbd5d50b0d82524e634c0d0d", func := "groat/groatlaw16.SafPlays", spec := "safPlays", unfollowed := true, recurses := true, apart := false }
def SafPlaysSaid : Prop := safPlaysRow.holds Try.pinned (OpenSpec.ofChange safPlaysSpec)

/-- ITS FALSE NEIGHBOUR: 'it returns false'. Refute it at one input. -/
def safPlaysWrong : ChangeSpec := { name := "safPlays", fn := fun _ => fun
  | [d1, d2] => { results := [.lit (.bool false)], args := [d1, d2] }
  | _ => none }
def SafPlaysWrongFalsely : Prop := safPlaysRow.holds Try.pinned (OpenSpec.ofChange safPlaysWrong)

/- THE SECOND FORM. 'bulk': how many values and letters a reading holds, each counted each time it is reached (what is shared counts as often as it is met; a slice's spare places count too). A statement '..UptoSaid' is the law's where the arguments, and the package variables that the reading takes, are together of bulk at most 1048576: NARROWER than '..Said'. Prove '..Said' where nothing that the law and all that it calls make is longer than what came in: it says more and counts as full. Else prove '..UptoSaid'. A law counts once. -/
mutual
def uptoBulk {H : Type} : DataW H → Nat
  | .lit (.string bytes) => bytes.length + 1
  | .lit _ => 1
  | .nil => 1
  | .ptr d => uptoBulk d + 1
  | .slice elems spare => uptoBulkAll elems + uptoBulkAll spare + 1
  | .agg parts => uptoBulkAll parts + 1
  | .iface _ d => uptoBulk d + 1
  | .map entries => uptoBulkEntries entries + 1
  | .held _ => 1
def uptoBulkAll {H : Type} : List (DataW H) → Nat
  | [] => 0
  | d :: r => uptoBulk d + uptoBulkAll r
def uptoBulkEntries {H : Type} : List (Lit × DataW H) → Nat
  | [] => 0
  | x :: r => uptoBulkEntry x + uptoBulkEntries r
def uptoBulkEntry {H : Type} : Lit × DataW H → Nat
  | (.string bytes, d) => bytes.length + uptoBulk d + 1
  | (_, d) => uptoBulk d + 1
 end
def uptoSmall : (H : Type) → List (DataW H) → Bool := fun _ ds => decide (uptoBulkAll ds ≤ 1048576)
def OpenSpec.upto (s : _root_.Go.ChangeSpec) : _root_.Go.OpenSpec := { _root_.Go.OpenSpec.ofChange s with cond := some uptoSmall }

/-- 'groatlaw16.SafOrder', WHERE WHAT IT READS IS OF BULK AT MOST 1048576: true; the input reads as it did. -/
def safOrderUptoRow : OpenClaim := { program := "ytfidhnplaieacaa", sum := "79180cb1d307c73fc69c2cf708a9e4b786c33a3efbd5d50b0d82524e634c0d0d", func := "groat/groatlaw16.SafOrder", spec := "safOrder", unfollowed := true, recurses := true, apart := false, narrowed := true }
def SafOrderUptoSaid : Prop := safOrderUptoRow.holds Try.pinned (OpenSpec.upto safOrderSpec)

/-- 'groatlaw16.SafRoom', WHERE WHAT IT READS IS OF BULK AT MOST 1048576: true; the input reads as it did. -/
def safRoomUptoRow : OpenClaim := { program := "ytfidhnplaieacaa", sum := "79180cb1d307c73fc69c2cf708a9e4b786c33a3efbd5d50b0d82524e634c0d0d", func := "groat/groatlaw16.SafRoom", spec := "safRoom", unfollowed := true, recurses := true, apart := false, narrowed := true }
def SafRoomUptoSaid : Prop := safRoomUptoRow.holds Try.pinned (OpenSpec.upto safRoomSpec)

/-- 'groatlaw16.SafPlays', WHERE WHAT IT READS IS OF BULK AT MOST 1048576: true; the input reads as it did. -/
def safPlaysUptoRow : OpenClaim := { program := "ytfidhnplaieacaa", sum := "79180cb1d307c73fc69c2cf708a9e4b786c33a3efbd5d50b0d82524e634c0d0d", func := "groat/groatlaw16.SafPlays", spec := "safPlays", unfollowed := true, recurses := true, apart := false, narrowed := true }
def SafPlaysUptoSaid : Prop := safPlaysUptoRow.holds Try.pinned (OpenSpec.upto safPlaysSpec)

end Rows
end Go.Proofs.Ytfidhnplaieacaa
