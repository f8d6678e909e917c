/-
  DERIVED. GIVEN WITH THE SEED: THE CARDS: each row of YtmlaackdcnpjmaaDoorRows.lean that lists a variable, with what it lists TIED to the program's text (the seventh form; the later family's looks); each row that meets fmt, with fmt's text TOLD by the authors' own Lean function (tested against real Go, not proved from fmt's source: count such statements apart). THE CARD IS WHAT COUNTS. Prove the row's statement (the work); the ties are given (YtmlaackdcnpjmaaDoorTie.lean); close each card by the builder's one call (the guide's Derived/Test/ToyasCard.lean, 'card_holds'). Laid BY PROGRAM, IN A SANDBOX (cutbox-door.mjs). By AI agents, Wed Nov 11 2026. No macro, syntax, notation, axiom, sorry.
-/
import Derived.Test.YtmlaackdcnpjmaaDoorRows
import GoSem.ClaimSeven
namespace Go.Proofs.YtmlaackdcnpjmaaDoor
namespace Rows

/-- THE TIED CARD OF 'stillroomlaw09.SkipOrders'. -/
def skipOrdersCard : Claim7 := { stood := { row := skipOrdersRow, standIns := [], harness := (true, "448de094a372fd104ed67184a7d9fba22cda60c12eea2ccd83f7748f03d99db2"), looks := false }, kinds := [], alts := [], laidByText := true, laidKinds := [.data], laidTests := true, laidLooks := .later }
def SkipOrdersCardSaid : Prop := Claim7.holds Tryd.pinned (.plain (OpenSpec.ofChange skipOrdersSpec)) skipOrdersCard

/-- THE TIED CARD OF 'stillroomlaw09.SkipCuts'. -/
def skipCutsCard : Claim7 := { stood := { row := skipCutsRow, standIns := [], harness := (true, "448de094a372fd104ed67184a7d9fba22cda60c12eea2ccd83f7748f03d99db2"), looks := false }, kinds := [], alts := [], laidByText := true, laidKinds := [.data], laidTests := true, laidLooks := .later }
def SkipCutsCardSaid : Prop := Claim7.holds Tryd.pinned (.plain (OpenSpec.ofChange skipCutsSpec)) skipCutsCard

/-- THE TIED CARD OF 'stillroomlaw09.SkipRanks'. -/
def skipRanksCard : Claim7 := { stood := { row := skipRanksRow, standIns := [], harness := (true, "448de094a372fd104ed67184a7d9fba22cda60c12eea2ccd83f7748f03d99db2"), looks := false }, kinds := [], alts := [], laidByText := true, laidKinds := [.data], laidTests := true, laidLooks := .later }
def SkipRanksCardSaid : Prop := Claim7.holds Tryd.pinned (.plain (OpenSpec.ofChange skipRanksSpec)) skipRanksCard

/-- THE SECOND FORM's CARD OF 'stillroomlaw09.SkipOrders'. -/
def skipOrdersUptoCard : Claim7 := { stood := { row := skipOrdersUptoRow, standIns := [], harness := (true, "448de094a372fd104ed67184a7d9fba22cda60c12eea2ccd83f7748f03d99db2"), looks := false }, kinds := [], alts := [], laidByText := true, laidKinds := [.data], laidTests := true, laidLooks := .later }
def SkipOrdersUptoCardSaid : Prop := Claim7.holds Tryd.pinned (.plain (OpenSpec.upto skipOrdersSpec)) skipOrdersUptoCard

/-- THE SECOND FORM's CARD OF 'stillroomlaw09.SkipCuts'. -/
def skipCutsUptoCard : Claim7 := { stood := { row := skipCutsUptoRow, standIns := [], harness := (true, "448de094a372fd104ed67184a7d9fba22cda60c12eea2ccd83f7748f03d99db2"), looks := false }, kinds := [], alts := [], laidByText := true, laidKinds := [.data], laidTests := true, laidLooks := .later }
def SkipCutsUptoCardSaid : Prop := Claim7.holds Tryd.pinned (.plain (OpenSpec.upto skipCutsSpec)) skipCutsUptoCard

/-- THE SECOND FORM's CARD OF 'stillroomlaw09.SkipRanks'. -/
def skipRanksUptoCard : Claim7 := { stood := { row := skipRanksUptoRow, standIns := [], harness := (true, "448de094a372fd104ed67184a7d9fba22cda60c12eea2ccd83f7748f03d99db2"), looks := false }, kinds := [], alts := [], laidByText := true, laidKinds := [.data], laidTests := true, laidLooks := .later }
def SkipRanksUptoCardSaid : Prop := Claim7.holds Tryd.pinned (.plain (OpenSpec.upto skipRanksSpec)) skipRanksUptoCard
end Rows
end Go.Proofs.YtmlaackdcnpjmaaDoor
