/-
  DERIVED. GIVEN WITH THE SEED: THE CARDS: each row of YteincbegfamhpaaDoorRows.lean that lists a variable, with what it lists TIED to the program's text (the seventh form; the later family's looks); each row that meets fmt, with fmt's text TOLD by the authors' own Lean function (tested against real Go, not proved from fmt's source: count such statements apart). THE CARD IS WHAT COUNTS. Prove the row's statement (the work); the ties are given (YteincbegfamhpaaDoorTie.lean); close each card by the builder's one call (the guide's Derived/Test/ToyasCard.lean, 'card_holds'). Laid BY PROGRAM, IN A SANDBOX (cutbox-door.mjs). By AI agents, Wed Nov 11 2026. No macro, syntax, notation, axiom, sorry.
-/
import Derived.Test.YteincbegfamhpaaDoorRows
import GoSem.ClaimSeven
namespace Go.Proofs.YteincbegfamhpaaDoor
namespace Rows

/-- THE TIED CARD OF 'groatlaw01.CrcSums'. -/
def crcSumsCard : Claim7 := { stood := { row := crcSumsRow, standIns := [], harness := (true, "c6ad071d82d8d5b7a72c06634c5e50ea352cbd7a653d5dc1f82cc99bebdba2c6"), looks := false }, kinds := [], alts := [], laidByText := true, laidKinds := [.data], laidTests := true, laidLooks := .later }
def CrcSumsCardSaid : Prop := Claim7.holds Tryd.pinned (.plain (OpenSpec.ofChange crcSumsSpec)) crcSumsCard

/-- THE TIED CARD OF 'groatlaw01.CrcJoins'. -/
def crcJoinsCard : Claim7 := { stood := { row := crcJoinsRow, standIns := [], harness := (true, "c6ad071d82d8d5b7a72c06634c5e50ea352cbd7a653d5dc1f82cc99bebdba2c6"), looks := false }, kinds := [], alts := [], laidByText := true, laidKinds := [.data], laidTests := true, laidLooks := .later }
def CrcJoinsCardSaid : Prop := Claim7.holds Tryd.pinned (.plain (OpenSpec.ofChange crcJoinsSpec)) crcJoinsCard

/-- THE TIED CARD OF 'groatlaw01.CrcTells'. -/
def crcTellsCard : Claim7 := { stood := { row := crcTellsRow, standIns := [], harness := (true, "c6ad071d82d8d5b7a72c06634c5e50ea352cbd7a653d5dc1f82cc99bebdba2c6"), looks := false }, kinds := [], alts := [], laidByText := true, laidKinds := [.data], laidTests := true, laidLooks := .later }
def CrcTellsCardSaid : Prop := Claim7.holds Tryd.pinned (.plain (OpenSpec.ofChange crcTellsSpec)) crcTellsCard

/-- THE TIED CARD OF 'groatlaw01.CrcLinear'. -/
def crcLinearCard : Claim7 := { stood := { row := crcLinearRow, standIns := [], harness := (true, "c6ad071d82d8d5b7a72c06634c5e50ea352cbd7a653d5dc1f82cc99bebdba2c6"), looks := false }, kinds := [], alts := [], laidByText := true, laidKinds := [.data], laidTests := true, laidLooks := .later }
def CrcLinearCardSaid : Prop := Claim7.holds Tryd.pinned (.plain (OpenSpec.ofChange crcLinearSpec)) crcLinearCard

/-- THE TIED CARD OF 'groatlaw01.CrcResidue'. -/
def crcResidueCard : Claim7 := { stood := { row := crcResidueRow, standIns := [], harness := (true, "c6ad071d82d8d5b7a72c06634c5e50ea352cbd7a653d5dc1f82cc99bebdba2c6"), looks := false }, kinds := [], alts := [], laidByText := true, laidKinds := [.data], laidTests := true, laidLooks := .later }
def CrcResidueCardSaid : Prop := Claim7.holds Tryd.pinned (.plain (OpenSpec.ofChange crcResidueSpec)) crcResidueCard

/-- THE SECOND FORM's CARD OF 'groatlaw01.CrcSums'. -/
def crcSumsUptoCard : Claim7 := { stood := { row := crcSumsUptoRow, standIns := [], harness := (true, "c6ad071d82d8d5b7a72c06634c5e50ea352cbd7a653d5dc1f82cc99bebdba2c6"), looks := false }, kinds := [], alts := [], laidByText := true, laidKinds := [.data], laidTests := true, laidLooks := .later }
def CrcSumsUptoCardSaid : Prop := Claim7.holds Tryd.pinned (.plain (OpenSpec.upto crcSumsSpec)) crcSumsUptoCard

/-- THE SECOND FORM's CARD OF 'groatlaw01.CrcJoins'. -/
def crcJoinsUptoCard : Claim7 := { stood := { row := crcJoinsUptoRow, standIns := [], harness := (true, "c6ad071d82d8d5b7a72c06634c5e50ea352cbd7a653d5dc1f82cc99bebdba2c6"), looks := false }, kinds := [], alts := [], laidByText := true, laidKinds := [.data], laidTests := true, laidLooks := .later }
def CrcJoinsUptoCardSaid : Prop := Claim7.holds Tryd.pinned (.plain (OpenSpec.upto crcJoinsSpec)) crcJoinsUptoCard

/-- THE SECOND FORM's CARD OF 'groatlaw01.CrcTells'. -/
def crcTellsUptoCard : Claim7 := { stood := { row := crcTellsUptoRow, standIns := [], harness := (true, "c6ad071d82d8d5b7a72c06634c5e50ea352cbd7a653d5dc1f82cc99bebdba2c6"), looks := false }, kinds := [], alts := [], laidByText := true, laidKinds := [.data], laidTests := true, laidLooks := .later }
def CrcTellsUptoCardSaid : Prop := Claim7.holds Tryd.pinned (.plain (OpenSpec.upto crcTellsSpec)) crcTellsUptoCard

/-- THE SECOND FORM's CARD OF 'groatlaw01.CrcLinear'. -/
def crcLinearUptoCard : Claim7 := { stood := { row := crcLinearUptoRow, standIns := [], harness := (true, "c6ad071d82d8d5b7a72c06634c5e50ea352cbd7a653d5dc1f82cc99bebdba2c6"), looks := false }, kinds := [], alts := [], laidByText := true, laidKinds := [.data], laidTests := true, laidLooks := .later }
def CrcLinearUptoCardSaid : Prop := Claim7.holds Tryd.pinned (.plain (OpenSpec.upto crcLinearSpec)) crcLinearUptoCard

/-- THE SECOND FORM's CARD OF 'groatlaw01.CrcResidue'. -/
def crcResidueUptoCard : Claim7 := { stood := { row := crcResidueUptoRow, standIns := [], harness := (true, "c6ad071d82d8d5b7a72c06634c5e50ea352cbd7a653d5dc1f82cc99bebdba2c6"), looks := false }, kinds := [], alts := [], laidByText := true, laidKinds := [.data], laidTests := true, laidLooks := .later }
def CrcResidueUptoCardSaid : Prop := Claim7.holds Tryd.pinned (.plain (OpenSpec.upto crcResidueSpec)) crcResidueUptoCard
end Rows
end Go.Proofs.YteincbegfamhpaaDoor
