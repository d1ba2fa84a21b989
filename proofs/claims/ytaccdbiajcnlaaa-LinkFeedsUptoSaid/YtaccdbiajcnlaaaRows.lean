/-
  No cell of these rows narrows 'for every input' (looked for: loops, veiled, ifaces, maps, wideKeys, modest, calm, conditions, laid).
  DERIVED. THE GIVEN ROWS OF THIS SEAT. 6 by the template 'for every input the law returns true; each argument reads behind the call as it read before'; 0 by the template 'total and deterministic' (their statements: YtaccdbiajcnlaaaTotals.lean).
  GIVEN WITH THE SEED: the statements are not yours to turn. If you find one false, say at which input.
  Laid BY PROGRAM, IN A SANDBOX (cutbox-rows.mjs): the forced cells as the released guide's own fill.sh prints them over the translation 39a9b64c2f7bceb7… (all of the seat's roots in one cut). By AI agents, Wed Nov 11 2026. No macro, syntax, notation, axiom, sorry.
-/
import Derived.Test.YtaccdbiajcnlaaaChecked
import GoSem.Claim
import GoSem.ClaimJoined
import GoSem.ClaimMapViews
import Derived.JoinedTies
import Derived.KernelRfl
namespace Go.Proofs.Ytaccdbiajcnlaaa
/- THE CELL 'sum', in the pinned program and in every row, IS THE sha256 OF THE DUMP (.gsa) THAT YtaccdbiajcnlaaaProg.lean LOADS. Nothing in Lean hashes anything: it is a label: what it is worth is what the hold of that sum in a sandbox is worth. -/
noncomputable def Try.pinned : Pinned := { name := "ytaccdbiajcnlaaa", sum := "39a9b64c2f7bceb7790b3b20ffb1b692bca8e0cc7fcea0f3549e09e45ed71f6e", checked := Try.checked }
namespace Rows
def none {H : Type} : Left H := { results := [], args := [] }

/-- 'groatlaw06.LinkPacks': WHATEVER THE INPUT: true; the input reads as it did. -/
def linkPacksSpec : ChangeSpec := { name := "linkPacks", fn := fun _ => fun
  | [d] => { results := [.lit (.bool true)], args := [d] }
  | _ => none }
def linkPacksRow : OpenClaim := { program := "ytaccdbiajcnlaaa", sum := "39a9b64c2f7bceb7790b3b20ffb1b692bca8e0cc7fcea0f3549e09e45ed71f6e", func := "groat/groatlaw06.LinkPacks", spec := "linkPacks", unfollowed := true, recurses := true, apart := false }
def LinkPacksSaid : Prop := linkPacksRow.holds Try.pinned (OpenSpec.ofChange linkPacksSpec)

/-- ITS FALSE NEIGHBOUR: 'it returns false'. Refute it at one input. -/
def linkPacksWrong : ChangeSpec := { name := "linkPacks", fn := fun _ => fun
  | [d] => { results := [.lit (.bool false)], args := [d] }
  | _ => none }
def LinkPacksWrongFalsely : Prop := linkPacksRow.holds Try.pinned (OpenSpec.ofChange linkPacksWrong)

/-- 'groatlaw06.LinkWhole': WHATEVER THE INPUT: true; the input reads as it did. -/
def linkWholeSpec : ChangeSpec := { name := "linkWhole", fn := fun _ => fun
  | [d1, d2] => { results := [.lit (.bool true)], args := [d1, d2] }
  | _ => none }
def linkWholeRow : OpenClaim := { program := "ytaccdbiajcnlaaa", sum := "39a9b64c2f7bceb7790b3b20ffb1b692bca8e0cc7fcea0f3549e09e45ed71f6e", func := "groat/groatlaw06.LinkWhole", spec := "linkWhole", unfollowed := true, recurses := true, apart := false }
def LinkWholeSaid : Prop := linkWholeRow.holds Try.pinned (OpenSpec.ofChange linkWholeSpec)

/-- ITS FALSE NEIGHBOUR: 'it returns false'. Refute it at one input. -/
def linkWholeWrong : ChangeSpec := { name := "linkWhole", fn := fun _ => fun
  | [d1, d2] => { results := [.lit (.bool false)], args := [d1, d2] }
  | _ => none }
def LinkWholeWrongFalsely : Prop := linkWholeRow.holds Try.pinned (OpenSpec.ofChange linkWholeWrong)

/-- 'groatlaw06.LinkAnew': WHATEVER THE INPUT: true; the input reads as it did. -/
def linkAnewSpec : ChangeSpec := { name := "linkAnew", fn := fun _ => fun
  | [d1, d2] => { results := [.lit (.bool true)], args := [d1, d2] }
  | _ => none }
def linkAnewRow : OpenClaim := { program := "ytaccdbiajcnlaaa", sum := "39a9b64c2f7bceb7790b3b20ffb1b692bca8e0cc7fcea0f3549e09e45ed71f6e", func := "groat/groatlaw06.LinkAnew", spec := "linkAnew", unfollowed := true, recurses := true, apart := false }
def LinkAnewSaid : Prop := linkAnewRow.holds Try.pinned (OpenSpec.ofChange linkAnewSpec)

/-- ITS FALSE NEIGHBOUR: 'it returns false'. Refute it at one input. -/
def linkAnewWrong : ChangeSpec := { name := "linkAnew", fn := fun _ => fun
  | [d1, d2] => { results := [.lit (.bool false)], args := [d1, d2] }
  | _ => none }
def LinkAnewWrongFalsely : Prop := linkAnewRow.holds Try.pinned (OpenSpec.ofChange linkAnewWrong)

/-- 'groatlaw06.LinkJoins': WHATEVER THE INPUT: true; the input reads as it did. -/
def linkJoinsSpec : ChangeSpec := { name := "linkJoins", fn := fun _ => fun
  | [d1, d2] => { results := [.lit (.bool true)], args := [d1, d2] }
  | _ => none }
def linkJoinsRow : OpenClaim := { program := "ytaccdbiajcnlaaa", sum := "39a9b64c2f7bceb7790b3b20ffb1b692bca8e0cc7fcea0f3549e09e45ed71f6e", func := "groat/groatlaw06.LinkJoins", spec := "linkJoins", unfollowed := true, recurses := true, apart := false }
def LinkJoinsSaid : Prop := linkJoinsRow.holds Try.pinned (OpenSpec.ofChange linkJoinsSpec)

/-- ITS FALSE NEIGHBOUR: 'it returns false'. Refute it at one input. -/
def linkJoinsWrong : ChangeSpec := { name := "linkJoins", fn := fun _ => fun
  | [d1, d2] => { results := [.lit (.bool false)], args := [d1, d2] }
  | _ => none }
def LinkJoinsWrongFalsely : Prop := linkJoinsRow.holds Try.pinned (OpenSpec.ofChange linkJoinsWrong)

/-- 'groatlaw06.LinkHolds': WHATEVER THE INPUT: true; the input reads as it did. -/
def linkHoldsSpec : ChangeSpec := { name := "linkHolds", fn := fun _ => fun
  | [d] => { results := [.lit (.bool true)], args := [d] }
  | _ => none }
def linkHoldsRow : OpenClaim := { program := "ytaccdbiajcnlaaa", sum := "39a9b64c2f7bceb7790b3b20ffb1b692bca8e0cc7fcea0f3549e09e45ed71f6e", func := "groat/groatlaw06.LinkHolds", spec := "linkHolds", unfollowed := true, recurses := true, apart := false }
def LinkHoldsSaid : Prop := linkHoldsRow.holds Try.pinned (OpenSpec.ofChange linkHoldsSpec)

/-- ITS FALSE NEIGHBOUR: 'it returns false'. Refute it at one input. -/
def linkHoldsWrong : ChangeSpec := { name := "linkHolds", fn := fun _ => fun
  | [d] => { results := [.lit (.bool false)], args := [d] }
  | _ => none }
def LinkHoldsWrongFalsely : Prop := linkHoldsRow.holds Try.pinned (OpenSpec.ofChange linkHoldsWrong)

/-- 'groatlaw06.LinkFeeds': WHATEVER THE INPUT: true; the input reads as it did. -/
def linkFeedsSpec : ChangeSpec := { name := "linkFeeds", fn := fun _ => fun
  | [d1, d2] => { results := [.lit (.bool true)], args := [d1, d2] }
  | _ => none }
def linkFeedsRow : OpenClaim := { program := "ytaccdbiajcnlaaa", sum := "39a9b64c2f7bceb7790b3b20ffb1b692bca8e0cc7fcea0f3549e09e45ed71f6e", func := "groat/groatlaw06.LinkFeeds", spec := "linkFeeds", unfollowed := true, recurses := true, apart := false }
def LinkFeedsSaid : Prop := linkFeedsRow.holds Try.pinned (OpenSpec.ofChange linkFeedsSpec)

/-- ITS FALSE NEIGHBOUR: 'it returns false'. Refute it at one input. -/
def linkFeedsWrong : ChangeSpec := { name := "linkFeeds", fn := fun _ => fun
  | [d1, d2] => { results := [.lit (.bool false)], args := [d1, d2] }
  | _ => none }
def LinkFeedsWrongFalsely : Prop := linkFeedsRow.holds Try.pinned (OpenSpec.ofChange linkFeedsWrong)

/- THE SECOND FORM. 'bulk': how many values and letters a reading holds, each counted each time it is reached (what is shared counts as often as it is met; a slice's spare places count too). A statement '..UptoSaid' is the law's where the arguments, and the package variables that the reading takes, are together of bulk at most 1048576: NARROWER than '..Said'. Prove '..Said' where nothing that the law and all that it calls make is longer than what came in: it says more and counts as full. Else prove '..UptoSaid'. A law counts once. -/
mutual
def uptoBulk {H : Type} : DataW H → Nat
  | .lit (.string bytes) => bytes.length + 1
  | .lit _ => 1
  | .nil => 1
  | .ptr d => uptoBulk d + 1
  | .slice elems spare => uptoBulkAll elems + uptoBulkAll spare + 1
  | .agg parts => uptoBulkAll parts + 1
  | .iface _ d => uptoBulk d + 1
  | .map entries => uptoBulkEntries entries + 1
  | .held _ => 1
def uptoBulkAll {H : Type} : List (DataW H) → Nat
  | [] => 0
  | d :: r => uptoBulk d + uptoBulkAll r
def uptoBulkEntries {H : Type} : List (Lit × DataW H) → Nat
  | [] => 0
  | x :: r => uptoBulkEntry x + uptoBulkEntries r
def uptoBulkEntry {H : Type} : Lit × DataW H → Nat
  | (.string bytes, d) => bytes.length + uptoBulk d + 1
  | (_, d) => uptoBulk d + 1
 end
def uptoSmall : (H : Type) → List (DataW H) → Bool := fun _ ds => decide (uptoBulkAll ds ≤ 1048576)
def OpenSpec.upto (s : _root_.Go.ChangeSpec) : _root_.Go.OpenSpec := { _root_.Go.OpenSpec.ofChange s with cond := some uptoSmall }

/-- 'groatlaw06.LinkPacks', WHERE WHAT IT READS IS OF BULK AT MOST 1048576: true; the input reads as it did. -/
def linkPacksUptoRow : OpenClaim := { program := "ytaccdbiajcnlaaa", sum := "39a9b64c2f7bceb7790b3b20ffb1b692bca8e0cc7fcea0f3549e09e45ed71f6e", func := "groat/groatlaw06.LinkPacks", spec := "linkPacks", unfollowed := true, recurses := true, apart := false, narrowed := true }
def LinkPacksUptoSaid : Prop := linkPacksUptoRow.holds Try.pinned (OpenSpec.upto linkPacksSpec)

/-- 'groatlaw06.LinkWhole', WHERE WHAT IT READS IS OF BULK AT MOST 1048576: true; the input reads as it did. -/
def linkWholeUptoRow : OpenClaim := { program := "ytaccdbiajcnlaaa", sum := "39a9b64c2f7bceb7790b3b20ffb1b692bca8e0cc7fcea0f3549e09e45ed71f6e", func := "groat/groatlaw06.LinkWhole", spec := "linkWhole", unfollowed := true, recurses := true, apart := false, narrowed := true }
def LinkWholeUptoSaid : Prop := linkWholeUptoRow.holds Try.pinned (OpenSpec.upto linkWholeSpec)

/-- 'groatlaw06.LinkAnew', WHERE WHAT IT READS IS OF BULK AT MOST 1048576: true; the input reads as it did. -/
def linkAnewUptoRow : OpenClaim := { program := "ytaccdbiajcnlaaa", sum := "39a9b64c2f7bceb7790b3b20ffb1b692bca8e0cc7fcea0f3549e09e45ed71f6e", func := "groat/groatlaw06.LinkAnew", spec := "linkAnew", unfollowed := true, recurses := true, apart := false, narrowed := true }
def LinkAnewUptoSaid : Prop := linkAnewUptoRow.holds Try.pinned (OpenSpec.upto linkAnewSpec)

/-- 'groatlaw06.LinkJoins', WHERE WHAT IT READS IS OF BULK AT MOST 1048576: true; the input reads as it did. -/
def linkJoinsUptoRow : OpenClaim := { program := "ytaccdbiajcnlaaa", sum := "39a9b64c2f7bceb7790b3b20ffb1b692bca8e0cc7fcea0f3549e09e45ed71f6e", func := "groat/groatlaw06.LinkJoins", spec := "linkJoins", unfollowed := true, recurses := true, apart := false, narrowed := true }
def LinkJoinsUptoSaid : Prop := linkJoinsUptoRow.holds Try.pinned (OpenSpec.upto linkJoinsSpec)

/-- 'groatlaw06.LinkHolds', WHERE WHAT IT READS IS OF BULK AT MOST 1048576: true; the input reads as it did. -/
def linkHoldsUptoRow : OpenClaim := { program := "ytaccdbiajcnlaaa", sum := "39a9b64c2f7bceb7790b3b20ffb1b692bca8e0cc7fcea0f3549e09e45ed71f6e", func := "groat/groatlaw06.LinkHolds", spec := "linkHolds", unfollowed := true, recurses := true, apart := false, narrowed := true }
def LinkHoldsUptoSaid : Prop := linkHoldsUptoRow.holds Try.pinned (OpenSpec.upto linkHoldsSpec)

/-- 'groatlaw06.LinkFeeds', WHERE WHAT IT READS IS OF BULK AT MOST 1048576: true; the input reads as it did. -/
def linkFeedsUptoRow : OpenClaim := { program := "ytaccdbiajcnlaaa", sum := "39a9b64c2f7bceb7790b3b20ffb1b692bca8e0cc7fcea0f3549e09e45ed71f6e", func := "groat/groatlaw06.LinkFeeds", spec := "linkFeeds", unfollowed := true, recurses := true, apart := false, narrowed := true }
def LinkFeedsUptoSaid : Prop := linkFeedsUptoRow.holds Try.pinned (OpenSpec.upto linkFeedsSpec)

end Rows
end Go.Proofs.Ytaccdbiajcnlaaa
