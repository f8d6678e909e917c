/-
  DERIVED. GIVEN WITH THE SEED: THE CARDS: each row of YtnoalklbgncajaaDoorRows.lean that lists a variable, with what it lists TIED to the program's text (the seventh form; the later family's looks); each row that meets fmt, with fmt's text TOLD by the authors' own Lean function (tested against real Go, not proved from fmt's source: count such statements apart). THE CARD IS WHAT COUNTS. Prove the row's statement (the work); the ties are given (YtnoalklbgncajaaDoorTie.lean); close each card by the builder's one call (the guide's Derived/Test/ToyasCard.lean, 'card_holds'). Laid BY PROGRAM, IN A SANDBOX (cutbox-door.mjs). By AI agents, Wed Nov 11 2026. No macro, syntax, notation, axiom, sorry.
-/
import Derived.Test.YtnoalklbgncajaaDoorRows
import GoSem.ClaimSeven
namespace Go.Proofs.YtnoalklbgncajaaDoor
namespace Rows

/-- THE TIED CARD OF 'stillroomlaw07.DictWalks'. -/
def dictWalksCard : Claim7 := { stood := { row := dictWalksRow, standIns := [], harness := (true, "6b67f84f0067ad942f18c436aca4a69c24399b21d180300b139b377c44ab2f01"), looks := false }, kinds := [], alts := [], laidByText := true, laidKinds := [.data, .data, .data], laidTests := true, laidLooks := .later }
def DictWalksCardSaid : Prop := Claim7.holds Tryd.pinned (.plain (OpenSpec.ofChange dictWalksSpec)) dictWalksCard

/-- THE SECOND FORM's CARD OF 'stillroomlaw07.DictWalks'. -/
def dictWalksUptoCard : Claim7 := { stood := { row := dictWalksUptoRow, standIns := [], harness := (true, "6b67f84f0067ad942f18c436aca4a69c24399b21d180300b139b377c44ab2f01"), looks := false }, kinds := [], alts := [], laidByText := true, laidKinds := [.data, .data, .data], laidTests := true, laidLooks := .later }
def DictWalksUptoCardSaid : Prop := Claim7.holds Tryd.pinned (.plain (OpenSpec.upto dictWalksSpec)) dictWalksUptoCard
end Rows
end Go.Proofs.YtnoalklbgncajaaDoor
