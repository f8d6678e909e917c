/-
  No cell of these rows narrows 'for every input' (looked for: loops, veiled, ifaces, maps, wideKeys, modest, calm, conditions, laid).
  DERIVED. THE GIVEN ROWS OF THIS SEAT. 4 by the template 'for every input the law returns true; each argument reads behind the call as it read before'; 0 by the template 'total and deterministic' (their statements: YtjjcicfilbfbjaaTotals.lean).
  GIVEN WITH THE SEED: the statements are not yours to turn. If you find one false, say at which input.
  Laid BY PROGRAM, IN A SANDBOX (cutbox-rows.mjs): the forced cells as the released guide's own fill.sh prints them over the translation f0c832cfe59de2b3… (all of the seat's roots in one cut). By AI agents, Wed Nov 11 2026. No macro, syntax, notation, axiom, sorry.
-/
import Derived.Test.YtjjcicfilbfbjaaChecked
import GoSem.Claim
import GoSem.ClaimJoined
import GoSem.ClaimMapViews
import Derived.JoinedTies
import Derived.KernelRfl
namespace Go.Proofs.Ytjjcicfilbfbjaa
/- THE CELL 'sum', in the pinned program and in every row, IS THE sha256 OF THE DUMP (.gsa) THAT YtjjcicfilbfbjaaProg.lean LOADS. Nothing in Lean hashes anything: it is a label: what it is worth is what the hold of that sum in a sandbox is worth. -/
noncomputable def Try.pinned : Pinned := { name := "ytjjcicfilbfbjaa", sum := "f0c832cfe59de2b3113b60834ba86427c4fc60a9cf9723e297accc6b32911317", checked := Try.checked }
namespace Rows
def none {H : Type} : Left H := { results := [], args := [] }

/-- 'stillroomlaw04.FileCrashes': WHATEVER THE INPUT: true; the input reads as it did. -/
def fileCrashesSpec : ChangeSpec := { name := "fileCrashes", fn := fun _ => fun
  | [d1, d2] => { results := [.lit (.bool true)], args := [d1, d2] }
  | _ => none }
def fileCrashesRow : OpenClaim := { program := "ytjjcicfilbfbjaa", sum := "f0c832cfe59de2b3113b60834ba86427c4fc60a9cf9723e297accc6b32911317", func := "stillroom/stillroomlaw04.FileCrashes", spec := "fileCrashes", unfollowed := true, recurses := true, apart := false }
def FileCrashesSaid : Prop := fileCrashesRow.holds Try.pinned (OpenSpec.ofChange fileCrashesSpec)

/-- ITS FALSE NEIGHBOUR: 'it returns false'. Refute it at one input. -/
def fileCrashesWrong : ChangeSpec := { name := "fileCrashes", fn := fun _ => fun
  | [d1, d2] => { results := [.lit (.bool false)], args := [d1, d2] }
  | _ => none }
def FileCrashesWrongFalsely : Prop := fileCrashesRow.holds Try.pinned (OpenSpec.ofChange fileCrashesWrong)

/-- 'stillroomlaw04.FileFails': WHATEVER THE INPUT: true; the input reads as it did. -/
def fileFailsSpec : ChangeSpec := { name := "fileFails", fn := fun _ => fun
  | [d1, d2] => { results := [.lit (.bool true)], args := [d1, d2] }
  | _ => none }
def fileFailsRow : OpenClaim := { program := "ytjjcicfilbfbjaa", sum := "f0c832cfe59de2b3113b60834ba86427c4fc60a9cf9723e297accc6b32911317", func := "stillroom/stillroomlaw04.FileFails", spec := "fileFails", unfollowed := true, recurses := true, apart := false }
def FileFailsSaid : Prop := fileFailsRow.holds Try.pinned (OpenSpec.ofChange fileFailsSpec)

/-- ITS FALSE NEIGHBOUR: 'it returns false'. Refute it at one input. -/
def fileFailsWrong : ChangeSpec := { name := "fileFails", fn := fun _ => fun
  | [d1, d2] => { results := [.lit (.bool false)], args := [d1, d2] }
  | _ => none }
def FileFailsWrongFalsely : Prop := fileFailsRow.holds Try.pinned (OpenSpec.ofChange fileFailsWrong)

/-- 'stillroomlaw04.FileMoves': WHATEVER THE INPUT: true; the input reads as it did. -/
def fileMovesSpec : ChangeSpec := { name := "fileMoves", fn := fun _ => fun
  | [d] => { results := [.lit (.bool true)], args := [d] }
  | _ => none }
def fileMovesRow : OpenClaim := { program := "ytjjcicfilbfbjaa", sum := "f0c832cfe59de2b3113b60834ba86427c4fc60a9cf9723e297accc6b32911317", func := "stillroom/stillroomlaw04.FileMoves", spec := "fileMoves", unfollowed := true, recurses := true, apart := false }
def FileMovesSaid : Prop := fileMovesRow.holds Try.pinned (OpenSpec.ofChange fileMovesSpec)

/-- ITS FALSE NEIGHBOUR: 'it returns false'. Refute it at one input. -/
def fileMovesWrong : ChangeSpec := { name := "fileMoves", fn := fun _ => fun
  | [d] => { results := [.lit (.bool false)], args := [d] }
  | _ => none }
def FileMovesWrongFalsely : Prop := fileMovesRow.holds Try.pinned (OpenSpec.ofChange fileMovesWrong)

/-- 'stillroomlaw04.FileNone': WHATEVER THE INPUT: true; the input reads as it did. -/
def fileNoneSpec : ChangeSpec := { name := "fileNone", fn := fun _ => fun
  | [d] => { results := [.lit (.bool true)], args := [d] }
  | _ => none }
def fileNoneRow : OpenClaim := { program := "ytjjcicfilbfbjaa", sum := "f0c832cfe59de2b3113b60834ba86427c4fc60a9cf9723e297accc6b32911317", func := "stillroom/stillroomlaw04.FileNone", spec := "fileNone", unfollowed := true, recurses := true, apart := false }
def FileNoneSaid : Prop := fileNoneRow.holds Try.pinned (OpenSpec.ofChange fileNoneSpec)

/-- ITS FALSE NEIGHBOUR: 'it returns false'. Refute it at one input. -/
def fileNoneWrong : ChangeSpec := { name := "fileNone", fn := fun _ => fun
  | [d] => { results := [.lit (.bool false)], args := [d] }
  | _ => none }
def FileNoneWrongFalsely : Prop := fileNoneRow.holds Try.pinned (OpenSpec.ofChange fileNoneWrong)

/- THE SECOND FORM. 'bulk': how many values and letters a reading holds, each counted each time it is reached (what is shared counts as often as it is met; a slice's spare places count too). A statement '..UptoSaid' is the law's where the arguments, and the package variables that the reading takes, are together of bulk at most 1048576: NARROWER than '..Said'. Prove '..Said' where nothing that the law and all that it calls make is longer than what came in: it says more and counts as full. Else prove '..UptoSaid'. A law counts once. -/
mutual
def uptoBulk {H : Type} : DataW H → Nat
  | .lit (.string bytes) => bytes.length + 1
  | .lit _ => 1
  | .nil => 1
  | .ptr d => uptoBulk d + 1
  | .slice elems spare => uptoBulkAll elems + uptoBulkAll spare + 1
  | .agg parts => uptoBulkAll parts + 1
  | .iface _ d => uptoBulk d + 1
  | .map entries => uptoBulkEntries entries + 1
  | .held _ => 1
def uptoBulkAll {H : Type} : List (DataW H) → Nat
  | [] => 0
  | d :: r => uptoBulk d + uptoBulkAll r
def uptoBulkEntries {H : Type} : List (Lit × DataW H) → Nat
  | [] => 0
  | x :: r => uptoBulkEntry x + uptoBulkEntries r
def uptoBulkEntry {H : Type} : Lit × DataW H → Nat
  | (.string bytes, d) => bytes.length + uptoBulk d + 1
  | (_, d) => uptoBulk d + 1
 end
def uptoSmall : (H : Type) → List (DataW H) → Bool := fun _ ds => decide (uptoBulkAll ds ≤ 1048576)
def OpenSpec.upto (s : _root_.Go.ChangeSpec) : _root_.Go.OpenSpec := { _root_.Go.OpenSpec.ofChange s with cond := some uptoSmall }

/-- 'stillroomlaw04.FileCrashes', WHERE WHAT IT READS IS OF BULK AT MOST 1048576: true; the input reads as it did. -/
def fileCrashesUptoRow : OpenClaim := { program := "ytjjcicfilbfbjaa", sum := "f0c832cfe59de2b3113b60834ba86427c4fc60a9cf9723e297accc6b32911317", func := "stillroom/stillroomlaw04.FileCrashes", spec := "fileCrashes", unfollowed := true, recurses := true, apart := false, narrowed := true }
def FileCrashesUptoSaid : Prop := fileCrashesUptoRow.holds Try.pinned (OpenSpec.upto fileCrashesSpec)

/-- 'stillroomlaw04.FileFails', WHERE WHAT IT READS IS OF BULK AT MOST 1048576: true; the input reads as it did. -/
def fileFailsUptoRow : OpenClaim := { program := "ytjjcicfilbfbjaa", sum := "f0c832cfe59de2b3113b60834ba86427c4fc60a9cf9723e297accc6b32911317", func := "stillroom/stillroomlaw04.FileFails", spec := "fileFails", unfollowed := true, recurses := true, apart := false, narrowed := true }
def FileFailsUptoSaid : Prop := fileFailsUptoRow.holds Try.pinned (OpenSpec.upto fileFailsSpec)

/-- 'stillroomlaw04.FileMoves', WHERE WHAT IT READS IS OF BULK AT MOST 1048576: true; the input reads as it did. -/
def fileMovesUptoRow : OpenClaim := { program := "ytjjcicfilbfbjaa", sum := "f0c832cfe59de2b3113b60834ba86427c4fc60a9cf9723e297accc6b32911317", func := "stillroom/stillroomlaw04.FileMoves", spec := "fileMoves", unfollowed := true, recurses := true, apart := false, narrowed := true }
def FileMovesUptoSaid : Prop := fileMovesUptoRow.holds Try.pinned (OpenSpec.upto fileMovesSpec)

/-- 'stillroomlaw04.FileNone', WHERE WHAT IT READS IS OF BULK AT MOST 1048576: true; the input reads as it did. -/
def fileNoneUptoRow : OpenClaim := { program := "ytjjcicfilbfbjaa", sum := "f0c832cfe59de2b3113b60834ba86427c4fc60a9cf9723e297accc6b32911317", func := "stillroom/stillroomlaw04.FileNone", spec := "fileNone", unfollowed := true, recurses := true, apart := false, narrowed := true }
def FileNoneUptoSaid : Prop := fileNoneUptoRow.holds Try.pinned (OpenSpec.upto fileNoneSpec)

end Rows
end Go.Proofs.Ytjjcicfilbfbjaa
