/-
  No cell of these rows narrows 'for every input' (looked for: loops, veiled, ifaces, maps, wideKeys, modest, calm, conditions, laid).
  DERIVED. THE GIVEN ROWS OF THIS SEAT. 5 by the template 'for every input the law returns true; each argument reads behind the call as it read before'; 0 by the template 'total and deterministic' (their statements: YtklcooepolmemaaTotals.lean).
  GIVEN WITH THE SEED: the statements are not yours to turn. If you find one false, say at which input.
  Laid BY PROGRAM, IN A SANDBOX (cutbox-rows.mjs): the forced cells as the released guide's own fill.sh prints them over the translation 68ff81bba09c599a… (all of the seat's roots in one cut). By AI agents, Wed Nov 11 2026. No macro, syntax, notation, axiom, sorry.
-/
import Derived.Test.YtklcooepolmemaaChecked
import GoSem.Claim
import GoSem.ClaimJoined
import GoSem.ClaimMapViews
import Derived.JoinedTies
import Derived.KernelRfl
namespace Go.Proofs.Ytklcooepolmemaa
/- THE CELL 'sum', in the pinned program and in every row, IS THE sha256 OF THE DUMP (.gsa) THAT YtklcooepolmemaaProg.lean LOADS. Nothing in Lean hashes anything: it is a label: what it is worth is what the hold of that sum in a sandbox is worth. -/
noncomputable def Try.pinned : Pinned := { name := "ytklcooepolmemaa", sum := "68ff81bba09c599a417a20caafe75b0a0471ec6c006006c94d41094122cfd2e3", checked := Try.checked }
namespace Rows
def none {H : Type} : Left H := { results := [], args := [] }

/-- 'groatlaw12.LedgerOrder': WHATEVER THE INPUT: true; the input reads as it did. -/
def ledgerOrderSpec : ChangeSpec := { name := "ledgerOrder", fn := fun _ => fun
  | [d1, d2] => { results := [.lit (.bool true)], args := [d1, d2] }
  | _ => none }
def ledgerOrderRow : OpenClaim := { program := "ytklcooepolmemaa", sum := "68ff81bba09c599a417a20caafe75b0a0471ec6c006006c94d41094122cfd2e3", func := "groat/groatlaw12.LedgerOrder", spec := "ledgerOrder", inPlace := ["math/bits.Add64"], unfollowed := true, recurses := true, apart := false }
def LedgerOrderSaid : Prop := ledgerOrderRow.holds Try.pinned (OpenSpec.ofChange ledgerOrderSpec)

/-- ITS FALSE NEIGHBOUR: 'it returns false'. Refute it at one input. -/
def ledgerOrderWrong : ChangeSpec := { name := "ledgerOrder", fn := fun _ => fun
  | [d1, d2] => { results := [.lit (.bool false)], args := [d1, d2] }
  | _ => none }
def LedgerOrderWrongFalsely : Prop := ledgerOrderRow.holds Try.pinned (OpenSpec.ofChange ledgerOrderWrong)

/-- 'groatlaw12.LedgerApart': WHATEVER THE INPUT: true; the input reads as it did. -/
def ledgerApartSpec : ChangeSpec := { name := "ledgerApart", fn := fun _ => fun
  | [d1, d2] => { results := [.lit (.bool true)], args := [d1, d2] }
  | _ => none }
def ledgerApartRow : OpenClaim := { program := "ytklcooepolmemaa", sum := "68ff81bba09c599a417a20caafe75b0a0471ec6c006006c94d41094122cfd2e3", func := "groat/groatlaw12.LedgerApart", spec := "ledgerApart", inPlace := ["math/bits.Add64"], unfollowed := true, recurses := true, apart := false }
def LedgerApartSaid : Prop := ledgerApartRow.holds Try.pinned (OpenSpec.ofChange ledgerApartSpec)

/-- ITS FALSE NEIGHBOUR: 'it returns false'. Refute it at one input. -/
def ledgerApartWrong : ChangeSpec := { name := "ledgerApart", fn := fun _ => fun
  | [d1, d2] => { results := [.lit (.bool false)], args := [d1, d2] }
  | _ => none }
def LedgerApartWrongFalsely : Prop := ledgerApartRow.holds Try.pinned (OpenSpec.ofChange ledgerApartWrong)

/-- 'groatlaw12.LedgerPosts': WHATEVER THE INPUT: true; the input reads as it did. -/
def ledgerPostsSpec : ChangeSpec := { name := "ledgerPosts", fn := fun _ => fun
  | [d1, d2, d3] => { results := [.lit (.bool true)], args := [d1, d2, d3] }
  | _ => none }
def ledgerPostsRow : OpenClaim := { program := "ytklcooepolmemaa", sum := "68ff81bba09c599a417a20caafe75b0a0471ec6c006006c94d41094122cfd2e3", func := "groat/groatlaw12.LedgerPosts", spec := "ledgerPosts", inPlace := ["math/bits.Add64"], unfollowed := true, recurses := true, apart := false }
def LedgerPostsSaid : Prop := ledgerPostsRow.holds Try.pinned (OpenSpec.ofChange ledgerPostsSpec)

/-- ITS FALSE NEIGHBOUR: 'it returns false'. Refute it at one input. -/
def ledgerPostsWrong : ChangeSpec := { name := "ledgerPosts", fn := fun _ => fun
  | [d1, d2, d3] => { results := [.lit (.bool false)], args := [d1, d2, d3] }
  | _ => none }
def LedgerPostsWrongFalsely : Prop := ledgerPostsRow.holds Try.pinned (OpenSpec.ofChange ledgerPostsWrong)

/-- 'groatlaw12.LedgerPays': WHATEVER THE INPUT: true; the input reads as it did. -/
def ledgerPaysSpec : ChangeSpec := { name := "ledgerPays", fn := fun _ => fun
  | [d1, d2, d3] => { results := [.lit (.bool true)], args := [d1, d2, d3] }
  | _ => none }
def ledgerPaysRow : OpenClaim := { program := "ytklcooepolmemaa", sum := "68ff81bba09c599a417a20caafe75b0a0471ec6c006006c94d41094122cfd2e3", func := "groat/groatlaw12.LedgerPays", spec := "ledgerPays", inPlace := ["math/bits.Add64"], unfollowed := true, recurses := true, apart := false }
def LedgerPaysSaid : Prop := ledgerPaysRow.holds Try.pinned (OpenSpec.ofChange ledgerPaysSpec)

/-- ITS FALSE NEIGHBOUR: 'it returns false'. Refute it at one input. -/
def ledgerPaysWrong : ChangeSpec := { name := "ledgerPays", fn := fun _ => fun
  | [d1, d2, d3] => { results := [.lit (.bool false)], args := [d1, d2, d3] }
  | _ => none }
def LedgerPaysWrongFalsely : Prop := ledgerPaysRow.holds Try.pinned (OpenSpec.ofChange ledgerPaysWrong)

/-- 'groatlaw12.LedgerNought': WHATEVER THE INPUT: true; the input reads as it did. -/
def ledgerNoughtSpec : ChangeSpec := { name := "ledgerNought", fn := fun _ => fun
  | [d1, d2, d3] => { results := [.lit (.bool true)], args := [d1, d2, d3] }
  | _ => none }
def ledgerNoughtRow : OpenClaim := { program := "ytklcooepolmemaa", sum := "68ff81bba09c599a417a20caafe75b0a0471ec6c006006c94d41094122cfd2e3", func := "groat/groatlaw12.LedgerNought", spec := "ledgerNought", inPlace := ["math/bits.Add64"], unfollowed := true, recurses := true, apart := false }
def LedgerNoughtSaid : Prop := ledgerNoughtRow.holds Try.pinned (OpenSpec.ofChange ledgerNoughtSpec)

/-- ITS FALSE NEIGHBOUR: 'it returns false'. Refute it at one input. -/
def ledgerNoughtWrong : ChangeSpec := { name := "ledgerNought", fn := fun _ => fun
  | [d1, d2, d3] => { results := [.lit (.bool false)], args := [d1, d2, d3] }
  | _ => none }
def LedgerNoughtWrongFalsely : Prop := ledgerNoughtRow.holds Try.pinned (OpenSpec.ofChange ledgerNoughtWrong)

/- THE SECOND FORM. 'bulk': how many values and letters a reading holds, each counted each time it is reached (what is shared counts as often as it is met; a slice's spare places count too). A statement '..UptoSaid' is the law's where the arguments, and the package variables that the reading takes, are together of bulk at most 1048576: NARROWER than '..Said'. Prove '..Said' where nothing that the law and all that it calls make is longer than what came in: it says more and counts as full. Else prove '..UptoSaid'. A law counts once. -/
mutual
def uptoBulk {H : Type} : DataW H → Nat
  | .lit (.string bytes) => bytes.length + 1
  | .lit _ => 1
  | .nil => 1
  | .ptr d => uptoBulk d + 1
  | .slice elems spare => uptoBulkAll elems + uptoBulkAll spare + 1
  | .agg parts => uptoBulkAll parts + 1
  | .iface _ d => uptoBulk d + 1
  | .map entries => uptoBulkEntries entries + 1
  | .held _ => 1
def uptoBulkAll {H : Type} : List (DataW H) → Nat
  | [] => 0
  | d :: r => uptoBulk d + uptoBulkAll r
def uptoBulkEntries {H : Type} : List (Lit × DataW H) → Nat
  | [] => 0
  | x :: r => uptoBulkEntry x + uptoBulkEntries r
def uptoBulkEntry {H : Type} : Lit × DataW H → Nat
  | (.string bytes, d) => bytes.length + uptoBulk d + 1
  | (_, d) => uptoBulk d + 1
 end
def uptoSmall : (H : Type) → List (DataW H) → Bool := fun _ ds => decide (uptoBulkAll ds ≤ 1048576)
def OpenSpec.upto (s : _root_.Go.ChangeSpec) : _root_.Go.OpenSpec := { _root_.Go.OpenSpec.ofChange s with cond := some uptoSmall }

/-- 'groatlaw12.LedgerOrder', WHERE WHAT IT READS IS OF BULK AT MOST 1048576: true; the input reads as it did. -/
def ledgerOrderUptoRow : OpenClaim := { program := "ytklcooepolmemaa", sum := "68ff81bba09c599a417a20caafe75b0a0471ec6c006006c94d41094122cfd2e3", func := "groat/groatlaw12.LedgerOrder", spec := "ledgerOrder", inPlace := ["math/bits.Add64"], unfollowed := true, recurses := true, apart := false, narrowed := true }
def LedgerOrderUptoSaid : Prop := ledgerOrderUptoRow.holds Try.pinned (OpenSpec.upto ledgerOrderSpec)

/-- 'groatlaw12.LedgerApart', WHERE WHAT IT READS IS OF BULK AT MOST 1048576: true; the input reads as it did. -/
def ledgerApartUptoRow : OpenClaim := { program := "ytklcooepolmemaa", sum := "68ff81bba09c599a417a20caafe75b0a0471ec6c006006c94d41094122cfd2e3", func := "groat/groatlaw12.LedgerApart", spec := "ledgerApart", inPlace := ["math/bits.Add64"], unfollowed := true, recurses := true, apart := false, narrowed := true }
def LedgerApartUptoSaid : Prop := ledgerApartUptoRow.holds Try.pinned (OpenSpec.upto ledgerApartSpec)

/-- 'groatlaw12.LedgerPosts', WHERE WHAT IT READS IS OF BULK AT MOST 1048576: true; the input reads as it did. -/
def ledgerPostsUptoRow : OpenClaim := { program := "ytklcooepolmemaa", sum := "68ff81bba09c599a417a20caafe75b0a0471ec6c006006c94d41094122cfd2e3", func := "groat/groatlaw12.LedgerPosts", spec := "ledgerPosts", inPlace := ["math/bits.Add64"], unfollowed := true, recurses := true, apart := false, narrowed := true }
def LedgerPostsUptoSaid : Prop := ledgerPostsUptoRow.holds Try.pinned (OpenSpec.upto ledgerPostsSpec)

/-- 'groatlaw12.LedgerPays', WHERE WHAT IT READS IS OF BULK AT MOST 1048576: true; the input reads as it did. -/
def ledgerPaysUptoRow : OpenClaim := { program := "ytklcooepolmemaa", sum := "68ff81bba09c599a417a20caafe75b0a0471ec6c006006c94d41094122cfd2e3", func := "groat/groatlaw12.LedgerPays", spec := "ledgerPays", inPlace := ["math/bits.Add64"], unfollowed := true, recurses := true, apart := false, narrowed := true }
def LedgerPaysUptoSaid : Prop := ledgerPaysUptoRow.holds Try.pinned (OpenSpec.upto ledgerPaysSpec)

/-- 'groatlaw12.LedgerNought', WHERE WHAT IT READS IS OF BULK AT MOST 1048576: true; the input reads as it did. -/
def ledgerNoughtUptoRow : OpenClaim := { program := "ytklcooepolmemaa", sum := "68ff81bba09c599a417a20caafe75b0a0471ec6c006006c94d41094122cfd2e3", func := "groat/groatlaw12.LedgerNought", spec := "ledgerNought", inPlace := ["math/bits.Add64"], unfollowed := true, recurses := true, apart := false, narrowed := true }
def LedgerNoughtUptoSaid : Prop := ledgerNoughtUptoRow.holds Try.pinned (OpenSpec.upto ledgerNoughtSpec)

end Rows
end Go.Proofs.Ytklcooepolmemaa
