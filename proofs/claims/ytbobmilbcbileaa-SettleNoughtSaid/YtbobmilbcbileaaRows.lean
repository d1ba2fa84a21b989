/-
  No cell of these rows narrows 'for every input' (looked for: loops, veiled, ifaces, maps, wideKeys, modest, calm, conditions, laid).
  DERIVED. THE GIVEN ROWS OF THIS SEAT. 4 by the template 'for every input the law returns true; each argument reads behind the call as it read before'; 0 by the template 'total and deterministic' (their statements: YtbobmilbcbileaaTotals.lean).
  GIVEN WITH THE SEED: the statements are not yours to turn. If you find one false, say at which input.
  Laid BY PROGRAM, IN A SANDBOX (cutbox-rows.mjs): the forced cells as the released guide's own fill.sh prints them over the translation 8c5f5f11829df0fb… (all of the seat's roots in one cut). By AI agents, Wed Nov 11 2026. No macro, syntax, notation, axiom, sorry.
-/
import Derived.Test.YtbobmilbcbileaaChecked
import GoSem.Claim
import GoSem.ClaimJoined
import GoSem.ClaimMapViews
import Derived.JoinedTies
import Derived.KernelRfl
namespace Go.Proofs.Ytbobmilbcbileaa
/- THE CELL 'sum', in the pinned program and in every row, IS THE sha256 OF THE DUMP (.gsa) THAT YtbobmilbcbileaaProg.lean LOADS. Nothing in Lean hashes anything: it is a label: what it is worth is what the hold of that sum in a sandbox is worth. -/
noncomputable def Try.pinned : Pinned := { name := "ytbobmilbcbileaa", sum := "8c5f5f11829df0fb3d5faae41f87f59297de21d3327cd39133bd1da3bcb67bcb", checked := Try.checked }
namespace Rows
def none {H : Type} : Left H := { results := [], args := [] }

/-- 'groatlaw18.SettleNought': WHATEVER THE INPUT: true; the input reads as it did. -/
def settleNoughtSpec : ChangeSpec := { name := "settleNought", fn := fun _ => fun
  | [d] => { results := [.lit (.bool true)], args := [d] }
  | _ => none }
def settleNoughtRow : OpenClaim := { program := "ytbobmilbcbileaa", sum := "8c5f5f11829df0fb3d5faae41f87f59297de21d3327cd39133bd1da3bcb67bcb", func := "groat/groatlaw18.SettleNought", spec := "settleNought", apart := false }
def SettleNoughtSaid : Prop := settleNoughtRow.holds Try.pinned (OpenSpec.ofChange settleNoughtSpec)

/-- ITS FALSE NEIGHBOUR: 'it returns false'. Refute it at one input. -/
def settleNoughtWrong : ChangeSpec := { name := "settleNought", fn := fun _ => fun
  | [d] => { results := [.lit (.bool false)], args := [d] }
  | _ => none }
def SettleNoughtWrongFalsely : Prop := settleNoughtRow.holds Try.pinned (OpenSpec.ofChange settleNoughtWrong)

/-- 'groatlaw18.SettleJoins': WHATEVER THE INPUT: true; the input reads as it did. -/
def settleJoinsSpec : ChangeSpec := { name := "settleJoins", fn := fun _ => fun
  | [d1, d2] => { results := [.lit (.bool true)], args := [d1, d2] }
  | _ => none }
def settleJoinsRow : OpenClaim := { program := "ytbobmilbcbileaa", sum := "8c5f5f11829df0fb3d5faae41f87f59297de21d3327cd39133bd1da3bcb67bcb", func := "groat/groatlaw18.SettleJoins", spec := "settleJoins", apart := false }
def SettleJoinsSaid : Prop := settleJoinsRow.holds Try.pinned (OpenSpec.ofChange settleJoinsSpec)

/-- ITS FALSE NEIGHBOUR: 'it returns false'. Refute it at one input. -/
def settleJoinsWrong : ChangeSpec := { name := "settleJoins", fn := fun _ => fun
  | [d1, d2] => { results := [.lit (.bool false)], args := [d1, d2] }
  | _ => none }
def SettleJoinsWrongFalsely : Prop := settleJoinsRow.holds Try.pinned (OpenSpec.ofChange settleJoinsWrong)

/-- 'groatlaw18.SettleDays': WHATEVER THE INPUT: true; the input reads as it did. -/
def settleDaysSpec : ChangeSpec := { name := "settleDays", fn := fun _ => fun
  | [d] => { results := [.lit (.bool true)], args := [d] }
  | _ => none }
def settleDaysRow : OpenClaim := { program := "ytbobmilbcbileaa", sum := "8c5f5f11829df0fb3d5faae41f87f59297de21d3327cd39133bd1da3bcb67bcb", func := "groat/groatlaw18.SettleDays", spec := "settleDays", apart := false }
def SettleDaysSaid : Prop := settleDaysRow.holds Try.pinned (OpenSpec.ofChange settleDaysSpec)

/-- ITS FALSE NEIGHBOUR: 'it returns false'. Refute it at one input. -/
def settleDaysWrong : ChangeSpec := { name := "settleDays", fn := fun _ => fun
  | [d] => { results := [.lit (.bool false)], args := [d] }
  | _ => none }
def SettleDaysWrongFalsely : Prop := settleDaysRow.holds Try.pinned (OpenSpec.ofChange settleDaysWrong)

/-- 'groatlaw18.SettlePlays': WHATEVER THE INPUT: true; the input reads as it did. -/
def settlePlaysSpec : ChangeSpec := { name := "settlePlays", fn := fun _ => fun
  | [d1, d2] => { results := [.lit (.bool true)], args := [d1, d2] }
  | _ => none }
def settlePlaysRow : OpenClaim := { program := "ytbobmilbcbileaa", sum := "8c5f5f11829df0fb3d5faae41f87f59297de21d3327cd39133bd1da3bcb67bcb", func := "groat/groatlaw18.SettlePlays", spec := "settlePlays", apart := false }
def SettlePlaysSaid : Prop := settlePlaysRow.holds Try.pinned (OpenSpec.ofChange settlePlaysSpec)

/-- ITS FALSE NEIGHBOUR: 'it returns false'. Refute it at one input. -/
def settlePlaysWrong : ChangeSpec := { name := "settlePlays", fn := fun _ => fun
  | [d1, d2] => { results := [.lit (.bool false)], args := [d1, d2] }
  | _ => none }
def SettlePlaysWrongFalsely : Prop := settlePlaysRow.holds Try.pinned (OpenSpec.ofChange settlePlaysWrong)

/- THE SECOND FORM. 'bulk': how many values and letters a reading holds, each counted each time it is reached (what is shared counts as often as it is met; a slice's spare places count too). A statement '..UptoSaid' is the law's where the arguments, and the package variables that the reading takes, are together of bulk at most 1048576: NARROWER than '..Said'. Prove '..Said' where nothing that the law and all that it calls make is longer than what came in: it says more and counts as full. Else prove '..UptoSaid'. A law counts once. -/
mutual
def uptoBulk {H : Type} : DataW H → Nat
  | .lit (.string bytes) => bytes.length + 1
  | .lit _ => 1
  | .nil => 1
  | .ptr d => uptoBulk d + 1
  | .slice elems spare => uptoBulkAll elems + uptoBulkAll spare + 1
  | .agg parts => uptoBulkAll parts + 1
  | .iface _ d => uptoBulk d + 1
  | .map entries => uptoBulkEntries entries + 1
  | .held _ => 1
def uptoBulkAll {H : Type} : List (DataW H) → Nat
  | [] => 0
  | d :: r => uptoBulk d + uptoBulkAll r
def uptoBulkEntries {H : Type} : List (Lit × DataW H) → Nat
  | [] => 0
  | x :: r => uptoBulkEntry x + uptoBulkEntries r
def uptoBulkEntry {H : Type} : Lit × DataW H → Nat
  | (.string bytes, d) => bytes.length + uptoBulk d + 1
  | (_, d) => uptoBulk d + 1
 end
def uptoSmall : (H : Type) → List (DataW H) → Bool := fun _ ds => decide (uptoBulkAll ds ≤ 1048576)
def OpenSpec.upto (s : _root_.Go.ChangeSpec) : _root_.Go.OpenSpec := { _root_.Go.OpenSpec.ofChange s with cond := some uptoSmall }

/-- 'groatlaw18.SettleNought', WHERE WHAT IT READS IS OF BULK AT MOST 1048576: true; the input reads as it did. -/
def settleNoughtUptoRow : OpenClaim := { program := "ytbobmilbcbileaa", sum := "8c5f5f11829df0fb3d5faae41f87f59297de21d3327cd39133bd1da3bcb67bcb", func := "groat/groatlaw18.SettleNought", spec := "settleNought", apart := false, narrowed := true }
def SettleNoughtUptoSaid : Prop := settleNoughtUptoRow.holds Try.pinned (OpenSpec.upto settleNoughtSpec)

/-- 'groatlaw18.SettleJoins', WHERE WHAT IT READS IS OF BULK AT MOST 1048576: true; the input reads as it did. -/
def settleJoinsUptoRow : OpenClaim := { program := "ytbobmilbcbileaa", sum := "8c5f5f11829df0fb3d5faae41f87f59297de21d3327cd39133bd1da3bcb67bcb", func := "groat/groatlaw18.SettleJoins", spec := "settleJoins", apart := false, narrowed := true }
def SettleJoinsUptoSaid : Prop := settleJoinsUptoRow.holds Try.pinned (OpenSpec.upto settleJoinsSpec)

/-- 'groatlaw18.SettleDays', WHERE WHAT IT READS IS OF BULK AT MOST 1048576: true; the input reads as it did. -/
def settleDaysUptoRow : OpenClaim := { program := "ytbobmilbcbileaa", sum := "8c5f5f11829df0fb3d5faae41f87f59297de21d3327cd39133bd1da3bcb67bcb", func := "groat/groatlaw18.SettleDays", spec := "settleDays", apart := false, narrowed := true }
def SettleDaysUptoSaid : Prop := settleDaysUptoRow.holds Try.pinned (OpenSpec.upto settleDaysSpec)

/-- 'groatlaw18.SettlePlays', WHERE WHAT IT READS IS OF BULK AT MOST 1048576: true; the input reads as it did. -/
def settlePlaysUptoRow : OpenClaim := { program := "ytbobmilbcbileaa", sum := "8c5f5f11829df0fb3d5faae41f87f59297de21d3327cd39133bd1da3bcb67bcb", func := "groat/groatlaw18.SettlePlays", spec := "settlePlays", apart := false, narrowed := true }
def SettlePlaysUptoSaid : Prop := settlePlaysUptoRow.holds Try.pinned (OpenSpec.upto settlePlaysSpec)

end Rows
end Go.Proofs.Ytbobmilbcbileaa
