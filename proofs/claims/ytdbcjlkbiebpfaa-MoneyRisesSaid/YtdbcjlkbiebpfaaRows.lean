/-
  No cell of these rows narrows 'for every input' (looked for: loops, veiled, ifaces, maps, wideKeys, modest, calm, conditions, laid).
  DERIVED. THE GIVEN ROWS OF THIS SEAT. 7 by the template 'for every input the law returns true; each argument reads behind the call as it read before'; 0 by the template 'total and deterministic' (their statements: YtdbcjlkbiebpfaaTotals.lean).
  GIVEN WITH THE SEED: the statements are not yours to turn. If you find one false, say at which input.
  Laid BY PROGRAM, IN A SANDBOX (cutbox-rows.mjs): the forced cells as the released guide's own fill.sh prints them over the translation 586b1f8c930cbbc3… (all of the seat's roots in one cut). By AI agents, Wed Nov 11 2026. No macro, syntax, notation, axiom, sorry.
-/
import Derived.Test.YtdbcjlkbiebpfaaChecked
import GoSem.Claim
import GoSem.ClaimJoined
import GoSem.ClaimMapViews
import Derived.JoinedTies
import Derived.KernelRfl
namespace Go.Proofs.Ytdbcjlkbiebpfaa
/- THE CELL 'sum', in the pinned program and in every row, IS THE sha256 OF THE DUMP (.gsa) THAT YtdbcjlkbiebpfaaProg.lean LOADS. Nothing in Lean hashes anything: it is a label: what it is worth is what the hold of that sum in a sandbox is worth. -/
noncomputable def Try.pinned : Pinned := { name := "ytdbcjlkbiebpfaa", sum := "586b1f8c930cbbc3e61854b18ce0fcbcb4b7000b77a481f52c9cfe6a174af3f9", checked := Try.checked }
namespace Rows
def none {H : Type} : Left H := { results := [], args := [] }

/-- 'groatlaw10.MoneySums': WHATEVER THE INPUT: true; the input reads as it did. -/
def moneySumsSpec : ChangeSpec := { name := "moneySums", fn := fun _ => fun
  | [d1, d2] => { results := [.lit (.bool true)], args := [d1, d2] }
  | _ => none }
def moneySumsRow : OpenClaim := { program := "ytdbcjlkbiebpfaa", sum := "586b1f8c930cbbc3e61854b18ce0fcbcb4b7000b77a481f52c9cfe6a174af3f9", func := "groat/groatlaw10.MoneySums", spec := "moneySums", apart := false }
def MoneySumsSaid : Prop := moneySumsRow.holds Try.pinned (OpenSpec.ofChange moneySumsSpec)

/-- ITS FALSE NEIGHBOUR: 'it returns false'. Refute it at one input. -/
def moneySumsWrong : ChangeSpec := { name := "moneySums", fn := fun _ => fun
  | [d1, d2] => { results := [.lit (.bool false)], args := [d1, d2] }
  | _ => none }
def MoneySumsWrongFalsely : Prop := moneySumsRow.holds Try.pinned (OpenSpec.ofChange moneySumsWrong)

/-- 'groatlaw10.MoneyFees': WHATEVER THE INPUT: true; the input reads as it did. -/
def moneyFeesSpec : ChangeSpec := { name := "moneyFees", fn := fun _ => fun
  | [d1, d2] => { results := [.lit (.bool true)], args := [d1, d2] }
  | _ => none }
def moneyFeesRow : OpenClaim := { program := "ytdbcjlkbiebpfaa", sum := "586b1f8c930cbbc3e61854b18ce0fcbcb4b7000b77a481f52c9cfe6a174af3f9", func := "groat/groatlaw10.MoneyFees", spec := "moneyFees", apart := false }
def MoneyFeesSaid : Prop := moneyFeesRow.holds Try.pinned (OpenSpec.ofChange moneyFeesSpec)

/-- ITS FALSE NEIGHBOUR: 'it returns false'. Refute it at one input. -/
def moneyFeesWrong : ChangeSpec := { name := "moneyFees", fn := fun _ => fun
  | [d1, d2] => { results := [.lit (.bool false)], args := [d1, d2] }
  | _ => none }
def MoneyFeesWrongFalsely : Prop := moneyFeesRow.holds Try.pinned (OpenSpec.ofChange moneyFeesWrong)

/-- 'groatlaw10.MoneyUndoes': WHATEVER THE INPUT: true; the input reads as it did. -/
def moneyUndoesSpec : ChangeSpec := { name := "moneyUndoes", fn := fun _ => fun
  | [d1, d2, d3] => { results := [.lit (.bool true)], args := [d1, d2, d3] }
  | _ => none }
def moneyUndoesRow : OpenClaim := { program := "ytdbcjlkbiebpfaa", sum := "586b1f8c930cbbc3e61854b18ce0fcbcb4b7000b77a481f52c9cfe6a174af3f9", func := "groat/groatlaw10.MoneyUndoes", spec := "moneyUndoes", apart := false }
def MoneyUndoesSaid : Prop := moneyUndoesRow.holds Try.pinned (OpenSpec.ofChange moneyUndoesSpec)

/-- ITS FALSE NEIGHBOUR: 'it returns false'. Refute it at one input. -/
def moneyUndoesWrong : ChangeSpec := { name := "moneyUndoes", fn := fun _ => fun
  | [d1, d2, d3] => { results := [.lit (.bool false)], args := [d1, d2, d3] }
  | _ => none }
def MoneyUndoesWrongFalsely : Prop := moneyUndoesRow.holds Try.pinned (OpenSpec.ofChange moneyUndoesWrong)

/-- 'groatlaw10.MoneyRises': WHATEVER THE INPUT: true; the input reads as it did. -/
def moneyRisesSpec : ChangeSpec := { name := "moneyRises", fn := fun _ => fun
  | [d1, d2, d3] => { results := [.lit (.bool true)], args := [d1, d2, d3] }
  | _ => none }
def moneyRisesRow : OpenClaim := { program := "ytdbcjlkbiebpfaa", sum := "586b1f8c930cbbc3e61854b18ce0fcbcb4b7000b77a481f52c9cfe6a174af3f9", func := "groat/groatlaw10.MoneyRises", spec := "moneyRises", apart := false }
def MoneyRisesSaid : Prop := moneyRisesRow.holds Try.pinned (OpenSpec.ofChange moneyRisesSpec)

/-- ITS FALSE NEIGHBOUR: 'it returns false'. Refute it at one input. -/
def moneyRisesWrong : ChangeSpec := { name := "moneyRises", fn := fun _ => fun
  | [d1, d2, d3] => { results := [.lit (.bool false)], args := [d1, d2, d3] }
  | _ => none }
def MoneyRisesWrongFalsely : Prop := moneyRisesRow.holds Try.pinned (OpenSpec.ofChange moneyRisesWrong)

/-- 'groatlaw10.MoneyParts': WHATEVER THE INPUT: true; the input reads as it did. -/
def moneyPartsSpec : ChangeSpec := { name := "moneyParts", fn := fun _ => fun
  | [d1, d2] => { results := [.lit (.bool true)], args := [d1, d2] }
  | _ => none }
def moneyPartsRow : OpenClaim := { program := "ytdbcjlkbiebpfaa", sum := "586b1f8c930cbbc3e61854b18ce0fcbcb4b7000b77a481f52c9cfe6a174af3f9", func := "groat/groatlaw10.MoneyParts", spec := "moneyParts", apart := false }
def MoneyPartsSaid : Prop := moneyPartsRow.holds Try.pinned (OpenSpec.ofChange moneyPartsSpec)

/-- ITS FALSE NEIGHBOUR: 'it returns false'. Refute it at one input. -/
def moneyPartsWrong : ChangeSpec := { name := "moneyParts", fn := fun _ => fun
  | [d1, d2] => { results := [.lit (.bool false)], args := [d1, d2] }
  | _ => none }
def MoneyPartsWrongFalsely : Prop := moneyPartsRow.holds Try.pinned (OpenSpec.ofChange moneyPartsWrong)

/-- 'groatlaw10.MoneyEnds': WHATEVER THE INPUT: true; the input reads as it did. -/
def moneyEndsSpec : ChangeSpec := { name := "moneyEnds", fn := fun _ => fun
  | [d1, d2] => { results := [.lit (.bool true)], args := [d1, d2] }
  | _ => none }
def moneyEndsRow : OpenClaim := { program := "ytdbcjlkbiebpfaa", sum := "586b1f8c930cbbc3e61854b18ce0fcbcb4b7000b77a481f52c9cfe6a174af3f9", func := "groat/groatlaw10.MoneyEnds", spec := "moneyEnds", apart := false }
def MoneyEndsSaid : Prop := moneyEndsRow.holds Try.pinned (OpenSpec.ofChange moneyEndsSpec)

/-- ITS FALSE NEIGHBOUR: 'it returns false'. Refute it at one input. -/
def moneyEndsWrong : ChangeSpec := { name := "moneyEnds", fn := fun _ => fun
  | [d1, d2] => { results := [.lit (.bool false)], args := [d1, d2] }
  | _ => none }
def MoneyEndsWrongFalsely : Prop := moneyEndsRow.holds Try.pinned (OpenSpec.ofChange moneyEndsWrong)

/-- 'groatlaw10.MoneyPairs': WHATEVER THE INPUT: true; the input reads as it did. -/
def moneyPairsSpec : ChangeSpec := { name := "moneyPairs", fn := fun _ => fun
  | [d1, d2, d3] => { results := [.lit (.bool true)], args := [d1, d2, d3] }
  | _ => none }
def moneyPairsRow : OpenClaim := { program := "ytdbcjlkbiebpfaa", sum := "586b1f8c930cbbc3e61854b18ce0fcbcb4b7000b77a481f52c9cfe6a174af3f9", func := "groat/groatlaw10.MoneyPairs", spec := "moneyPairs", apart := false }
def MoneyPairsSaid : Prop := moneyPairsRow.holds Try.pinned (OpenSpec.ofChange moneyPairsSpec)

/-- ITS FALSE NEIGHBOUR: 'it returns false'. Refute it at one input. -/
def moneyPairsWrong : ChangeSpec := { name := "moneyPairs", fn := fun _ => fun
  | [d1, d2, d3] => { results := [.lit (.bool false)], args := [d1, d2, d3] }
  | _ => none }
def MoneyPairsWrongFalsely : Prop := moneyPairsRow.holds Try.pinned (OpenSpec.ofChange moneyPairsWrong)

/- THE SECOND FORM. 'bulk': how many values and letters a reading holds, each counted each time it is reached (what is shared counts as often as it is met; a slice's spare places count too). A statement '..UptoSaid' is the law's where the arguments, and the package variables that the reading takes, are together of bulk at most 1048576: NARROWER than '..Said'. Prove '..Said' where nothing that the law and all that it calls make is longer than what came in: it says more and counts as full. Else prove '..UptoSaid'. A law counts once. -/
mutual
def uptoBulk {H : Type} : DataW H → Nat
  | .lit (.string bytes) => bytes.length + 1
  | .lit _ => 1
  | .nil => 1
  | .ptr d => uptoBulk d + 1
  | .slice elems spare => uptoBulkAll elems + uptoBulkAll spare + 1
  | .agg parts => uptoBulkAll parts + 1
  | .iface _ d => uptoBulk d + 1
  | .map entries => uptoBulkEntries entries + 1
  | .held _ => 1
def uptoBulkAll {H : Type} : List (DataW H) → Nat
  | [] => 0
  | d :: r => uptoBulk d + uptoBulkAll r
def uptoBulkEntries {H : Type} : List (Lit × DataW H) → Nat
  | [] => 0
  | x :: r => uptoBulkEntry x + uptoBulkEntries r
def uptoBulkEntry {H : Type} : Lit × DataW H → Nat
  | (.string bytes, d) => bytes.length + uptoBulk d + 1
  | (_, d) => uptoBulk d + 1
 end
def uptoSmall : (H : Type) → List (DataW H) → Bool := fun _ ds => decide (uptoBulkAll ds ≤ 1048576)
def OpenSpec.upto (s : _root_.Go.ChangeSpec) : _root_.Go.OpenSpec := { _root_.Go.OpenSpec.ofChange s with cond := some uptoSmall }

/-- 'groatlaw10.MoneySums', WHERE WHAT IT READS IS OF BULK AT MOST 1048576: true; the input reads as it did. -/
def moneySumsUptoRow : OpenClaim := { program := "ytdbcjlkbiebpfaa", sum := "586b1f8c930cbbc3e61854b18ce0fcbcb4b7000b77a481f52c9cfe6a174af3f9", func := "groat/groatlaw10.MoneySums", spec := "moneySums", apart := false, narrowed := true }
def MoneySumsUptoSaid : Prop := moneySumsUptoRow.holds Try.pinned (OpenSpec.upto moneySumsSpec)

/-- 'groatlaw10.MoneyFees', WHERE WHAT IT READS IS OF BULK AT MOST 1048576: true; the input reads as it did. -/
def moneyFeesUptoRow : OpenClaim := { program := "ytdbcjlkbiebpfaa", sum := "586b1f8c930cbbc3e61854b18ce0fcbcb4b7000b77a481f52c9cfe6a174af3f9", func := "groat/groatlaw10.MoneyFees", spec := "moneyFees", apart := false, narrowed := true }
def MoneyFeesUptoSaid : Prop := moneyFeesUptoRow.holds Try.pinned (OpenSpec.upto moneyFeesSpec)

/-- 'groatlaw10.MoneyUndoes', WHERE WHAT IT READS IS OF BULK AT MOST 1048576: true; the input reads as it did. -/
def moneyUndoesUptoRow : OpenClaim := { program := "ytdbcjlkbiebpfaa", sum := "586b1f8c930cbbc3e61854b18ce0fcbcb4b7000b77a481f52c9cfe6a174af3f9", func := "groat/groatlaw10.MoneyUndoes", spec := "moneyUndoes", apart := false, narrowed := true }
def MoneyUndoesUptoSaid : Prop := moneyUndoesUptoRow.holds Try.pinned (OpenSpec.upto moneyUndoesSpec)

/-- 'groatlaw10.MoneyRises', WHERE WHAT IT READS IS OF BULK AT MOST 1048576: true; the input reads as it did. -/
def moneyRisesUptoRow : OpenClaim := { program := "ytdbcjlkbiebpfaa", sum := "586b1f8c930cbbc3e61854b18ce0fcbcb4b7000b77a481f52c9cfe6a174af3f9", func := "groat/groatlaw10.MoneyRises", spec := "moneyRises", apart := false, narrowed := true }
def MoneyRisesUptoSaid : Prop := moneyRisesUptoRow.holds Try.pinned (OpenSpec.upto moneyRisesSpec)

/-- 'groatlaw10.MoneyParts', WHERE WHAT IT READS IS OF BULK AT MOST 1048576: true; the input reads as it did. -/
def moneyPartsUptoRow : OpenClaim := { program := "ytdbcjlkbiebpfaa", sum := "586b1f8c930cbbc3e61854b18ce0fcbcb4b7000b77a481f52c9cfe6a174af3f9", func := "groat/groatlaw10.MoneyParts", spec := "moneyParts", apart := false, narrowed := true }
def MoneyPartsUptoSaid : Prop := moneyPartsUptoRow.holds Try.pinned (OpenSpec.upto moneyPartsSpec)

/-- 'groatlaw10.MoneyEnds', WHERE WHAT IT READS IS OF BULK AT MOST 1048576: true; the input reads as it did. -/
def moneyEndsUptoRow : OpenClaim := { program := "ytdbcjlkbiebpfaa", sum := "586b1f8c930cbbc3e61854b18ce0fcbcb4b7000b77a481f52c9cfe6a174af3f9", func := "groat/groatlaw10.MoneyEnds", spec := "moneyEnds", apart := false, narrowed := true }
def MoneyEndsUptoSaid : Prop := moneyEndsUptoRow.holds Try.pinned (OpenSpec.upto moneyEndsSpec)

/-- 'groatlaw10.MoneyPairs', WHERE WHAT IT READS IS OF BULK AT MOST 1048576: true; the input reads as it did. -/
def moneyPairsUptoRow : OpenClaim := { program := "ytdbcjlkbiebpfaa", sum := "586b1f8c930cbbc3e61854b18ce0fcbcb4b7000b77a481f52c9cfe6a174af3f9", func := "groat/groatlaw10.MoneyPairs", spec := "moneyPairs", apart := false, narrowed := true }
def MoneyPairsUptoSaid : Prop := moneyPairsUptoRow.holds Try.pinned (OpenSpec.upto moneyPairsSpec)

end Rows
end Go.Proofs.Ytdbcjlkbiebpfaa
