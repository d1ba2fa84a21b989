/-
  No cell of these rows narrows 'for every input' (looked for: loops, veiled, ifaces, maps, wideKeys, modest, calm, conditions, laid).
  DERIVED. THE GIVEN ROWS OF THIS SEAT. 3 by the template 'for every input the law returns true; each argument reads behind the call as it read before'; 0 by the template 'total and deterministic' (their statements: YtpkmdhplbpejhaaTotals.lean).
  GIVEN WITH THE SEED: the statements are not yours to turn. If you find one false, say at which input.
  Laid BY PROGRAM, IN A SANDBOX (cutbox-rows.mjs): the forced cells as the released guide's own fill.sh prints them over the translation cbd3fb4068746c8a… (all of the seat's roots in one cut). By AI agents, Wed Nov 11 2026. No macro, syntax, notation, axiom, sorry.
-/
import Derived.Test.YtpkmdhplbpejhaaChecked
import GoSem.Claim
import GoSem.ClaimJoined
import GoSem.ClaimMapViews
import Derived.JoinedTies
import Derived.KernelRfl
namespace Go.Proofs.Ytpkmdhplbpejhaa
/- THE CELL 'sum', in the pinned program and in every row, IS THE sha256 OF THE DUMP (.gsa) THAT YtpkmdhplbpejhaaProg.lean LOADS. Nothing in Lean hashes anything: it is a label: what it is worth is what the hold of that sum in a sandbox is worth. -/
noncomputable def Try.pinned : Pinned := { name := "ytpkmdhplbpejhaa", sum := "cbd3fb4068746c8a18d6a87466fc5d3e4d28b9fb4e90ad4ba755b43366aefdec", checked := Try.checked }
namespace Rows
def none {H : Type} : Left H := { results := [], args := [] }

/-- 'groatlaw15.StandinBounds': WHATEVER THE INPUT: true; the input reads as it did. -/
def standinBoundsSpec : ChangeSpec := { name := "standinBounds", fn := fun _ => fun
  | [d1, d2, d3] => { results := [.lit (.bool true)], args := [d1, d2, d3] }
  | _ => none }
def standinBoundsRow : OpenClaim := { program := "ytpkmdhplbpejhaa", sum := "cbd3fb4068746c8a18d6a87466fc5d3e4d28b9fb4e90ad4ba755b43366aefdec", func := "groat/groatlaw15.StandinBounds", spec := "standinBounds", plainKeys := false, apart := false }
def StandinBoundsSaid : Prop := standinBoundsRow.holds Try.pinned (OpenSpec.ofChange standinBoundsSpec)

/-- ITS FALSE NEIGHBOUR: 'it returns false'. Refute it at one input. -/
def standinBoundsWrong : ChangeSpec := { name := "standinBounds", fn := fun _ => fun
  | [d1, d2, d3] => { results := [.lit (.bool false)], args := [d1, d2, d3] }
  | _ => none }
def StandinBoundsWrongFalsely : Prop := standinBoundsRow.holds Try.pinned (OpenSpec.ofChange standinBoundsWrong)

/-- 'groatlaw15.StandinSums': WHATEVER THE INPUT: true; the input reads as it did. -/
def standinSumsSpec : ChangeSpec := { name := "standinSums", fn := fun _ => fun
  | [d1, d2] => { results := [.lit (.bool true)], args := [d1, d2] }
  | _ => none }
def standinSumsRow : OpenClaim := { program := "ytpkmdhplbpejhaa", sum := "cbd3fb4068746c8a18d6a87466fc5d3e4d28b9fb4e90ad4ba755b43366aefdec", func := "groat/groatlaw15.StandinSums", spec := "standinSums", plainKeys := false, apart := false }
def StandinSumsSaid : Prop := standinSumsRow.holds Try.pinned (OpenSpec.ofChange standinSumsSpec)

/-- ITS FALSE NEIGHBOUR: 'it returns false'. Refute it at one input. -/
def standinSumsWrong : ChangeSpec := { name := "standinSums", fn := fun _ => fun
  | [d1, d2] => { results := [.lit (.bool false)], args := [d1, d2] }
  | _ => none }
def StandinSumsWrongFalsely : Prop := standinSumsRow.holds Try.pinned (OpenSpec.ofChange standinSumsWrong)

/-- 'groatlaw15.StandinPlays': WHATEVER THE INPUT: true; the input reads as it did. -/
def standinPlaysSpec : ChangeSpec := { name := "standinPlays", fn := fun _ => fun
  | [d1, d2] => { results := [.lit (.bool true)], args := [d1, d2] }
  | _ => none }
def standinPlaysRow : OpenClaim := { program := "ytpkmdhplbpejhaa", sum := "cbd3fb4068746c8a18d6a87466fc5d3e4d28b9fb4e90ad4ba755b43366aefdec", func := "groat/groatlaw15.StandinPlays", spec := "standinPlays", inPlace := ["maps.clone"], plainKeys := false, apart := false }
def StandinPlaysSaid : Prop := standinPlaysRow.holds Try.pinned (OpenSpec.ofChange standinPlaysSpec)

/-- ITS FALSE NEIGHBOUR: 'it returns false'. Refute it at one input. -/
def standinPlaysWrong : ChangeSpec := { name := "standinPlays", fn := fun _ => fun
  | [d1, d2] => { results := [.lit (.bool false)], args := [d1, d2] }
  | _ => none }
def StandinPlaysWrongFalsely : Prop := standinPlaysRow.holds Try.pinned (OpenSpec.ofChange standinPlaysWrong)

/- THE SECOND FORM. 'bulk': how many values and letters a reading holds, each counted each time it is reached (what is shared counts as often as it is met; a slice's spare places count too). A statement '..UptoSaid' is the law's where the arguments, and the package variables that the reading takes, are together of bulk at most 1048576: NARROWER than '..Said'. Prove '..Said' where nothing that the law and all that it calls make is longer than what came in: it says more and counts as full. Else prove '..UptoSaid'. A law counts once. -/
mutual
def uptoBulk {H : Type} : DataW H → Nat
  | .lit (.string bytes) => bytes.length + 1
  | .lit _ => 1
  | .nil => 1
  | .ptr d => uptoBulk d + 1
  | .slice elems spare => uptoBulkAll elems + uptoBulkAll spare + 1
  | .agg parts => uptoBulkAll parts + 1
  | .iface _ d => uptoBulk d + 1
  | .map entries => uptoBulkEntries entries + 1
  | .held _ => 1
def uptoBulkAll {H : Type} : List (DataW H) → Nat
  | [] => 0
  | d :: r => uptoBulk d + uptoBulkAll r
def uptoBulkEntries {H : Type} : List (Lit × DataW H) → Nat
  | [] => 0
  | x :: r => uptoBulkEntry x + uptoBulkEntries r
def uptoBulkEntry {H : Type} : Lit × DataW H → Nat
  | (.string bytes, d) => bytes.length + uptoBulk d + 1
  | (_, d) => uptoBulk d + 1
 end
def uptoSmall : (H : Type) → List (DataW H) → Bool := fun _ ds => decide (uptoBulkAll ds ≤ 1048576)
def OpenSpec.upto (s : _root_.Go.ChangeSpec) : _root_.Go.OpenSpec := { _root_.Go.OpenSpec.ofChange s with cond := some uptoSmall }

/-- 'groatlaw15.StandinBounds', WHERE WHAT IT READS IS OF BULK AT MOST 1048576: true; the input reads as it did. -/
def standinBoundsUptoRow : OpenClaim := { program := "ytpkmdhplbpejhaa", sum := "cbd3fb4068746c8a18d6a87466fc5d3e4d28b9fb4e90ad4ba755b43366aefdec", func := "groat/groatlaw15.StandinBounds", spec := "standinBounds", plainKeys := false, apart := false, narrowed := true }
def StandinBoundsUptoSaid : Prop := standinBoundsUptoRow.holds Try.pinned (OpenSpec.upto standinBoundsSpec)

/-- 'groatlaw15.StandinSums', WHERE WHAT IT READS IS OF BULK AT MOST 1048576: true; the input reads as it did. -/
def standinSumsUptoRow : OpenClaim := { program := "ytpkmdhplbpejhaa", sum := "cbd3fb4068746c8a18d6a87466fc5d3e4d28b9fb4e90ad4ba755b43366aefdec", func := "groat/groatlaw15.StandinSums", spec := "standinSums", plainKeys := false, apart := false, narrowed := true }
def StandinSumsUptoSaid : Prop := standinSumsUptoRow.holds Try.pinned (OpenSpec.upto standinSumsSpec)

/-- 'groatlaw15.StandinPlays', WHERE WHAT IT READS IS OF BULK AT MOST 1048576: true; the input reads as it did. -/
def standinPlaysUptoRow : OpenClaim := { program := "ytpkmdhplbpejhaa", sum := "cbd3fb4068746c8a18d6a87466fc5d3e4d28b9fb4e90ad4ba755b43366aefdec", func := "groat/groatlaw15.StandinPlays", spec := "standinPlays", inPlace := ["maps.clone"], plainKeys := false, apart := false, narrowed := true }
def StandinPlaysUptoSaid : Prop := standinPlaysUptoRow.holds Try.pinned (OpenSpec.upto standinPlaysSpec)

end Rows
end Go.Proofs.Ytpkmdhplbpejhaa
