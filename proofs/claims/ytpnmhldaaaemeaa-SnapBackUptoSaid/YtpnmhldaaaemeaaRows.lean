/-
  No cell of these rows narrows 'for every input' (looked for: loops, veiled, ifaces, maps, wideKeys, modest, calm, conditions, laid).
  DERIVED. THE GIVEN ROWS OF THIS SEAT. 5 by the template 'for every input the law returns true; each argument reads behind the call as it read before'; 0 by the template 'total and deterministic' (their statements: YtpnmhldaaaemeaaTotals.lean).
  GIVEN WITH THE SEED: the statements are not yours to turn. If you find one false, say at which input.
  Laid BY PROGRAM, IN A SANDBOX (cutbox-rows.mjs): the forced cells as the released guide's own fill.sh prints them over the translation b937beffd55ca13b… (all of the seat's roots in one cut). By AI agents, Wed Nov 11 2026. No macro, syntax, notation, axiom, sorry.
-/
import Derived.Test.YtpnmhldaaaemeaaChecked
import GoSem.Claim
import GoSem.ClaimJoined
import GoSem.ClaimMapViews
import Derived.JoinedTies
import Derived.KernelRfl
namespace Go.Proofs.Ytpnmhldaaaemeaa
/- THE CELL 'sum', in the pinned program and in every row, IS THE sha256 OF THE DUMP (.gsa) THAT YtpnmhldaaaemeaaProg.lean LOADS. Nothing in Lean hashes anything: it is a label: what it is worth is what the hold of that sum in a sandbox is worth. -/
noncomputable def Try.pinned : Pinned := { name := "ytpnmhldaaaemeaa", sum := "b937beffd55ca13b6591d8c9333bac78d64e30b808dacea5daf9a220a6456907", checked := Try.checked }
namespace Rows
def none {H : Type} : Left H := { results := [], args := [] }

/-- 'stillroomlaw24.SnapChecks': WHATEVER THE INPUT: true; the input reads as it did. -/
def snapChecksSpec : ChangeSpec := { name := "snapChecks", fn := fun _ => fun
  | [d] => { results := [.lit (.bool true)], args := [d] }
  | _ => none }
def snapChecksRow : OpenClaim := { program := "ytpnmhldaaaemeaa", sum := "b937beffd55ca13b6591d8c9333bac78d64e30b808dacea5daf9a220a6456907", func := "stillroom/stillroomlaw24.SnapChecks", spec := "snapChecks", inPlace := ["math.Float64bits", "math.Float64frombits"], unfollowed := true, recurses := true, apart := false }
def SnapChecksSaid : Prop := snapChecksRow.holds Try.pinned (OpenSpec.ofChange snapChecksSpec)

/-- ITS FALSE NEIGHBOUR: 'it returns false'. Refute it at one input. -/
def snapChecksWrong : ChangeSpec := { name := "snapChecks", fn := fun _ => fun
  | [d] => { results := [.lit (.bool false)], args := [d] }
  | _ => none }
def SnapChecksWrongFalsely : Prop := snapChecksRow.holds Try.pinned (OpenSpec.ofChange snapChecksWrong)

/-- 'stillroomlaw24.SnapBack': WHATEVER THE INPUT: true; the input reads as it did. -/
def snapBackSpec : ChangeSpec := { name := "snapBack", fn := fun _ => fun
  | [d1, d2, d3] => { results := [.lit (.bool true)], args := [d1, d2, d3] }
  | _ => none }
def snapBackRow : OpenClaim := { program := "ytpnmhldaaaemeaa", sum := "b937beffd55ca13b6591d8c9333bac78d64e30b808dacea5daf9a220a6456907", func := "stillroom/stillroomlaw24.SnapBack", spec := "snapBack", inPlace := ["math.Float64bits", "math.Float64frombits"], unfollowed := true, recurses := true, apart := false }
def SnapBackSaid : Prop := snapBackRow.holds Try.pinned (OpenSpec.ofChange snapBackSpec)

/-- ITS FALSE NEIGHBOUR: 'it returns false'. Refute it at one input. -/
def snapBackWrong : ChangeSpec := { name := "snapBack", fn := fun _ => fun
  | [d1, d2, d3] => { results := [.lit (.bool false)], args := [d1, d2, d3] }
  | _ => none }
def SnapBackWrongFalsely : Prop := snapBackRow.holds Try.pinned (OpenSpec.ofChange snapBackWrong)

/-- 'stillroomlaw24.SnapOne': WHATEVER THE INPUT: true; the input reads as it did. -/
def snapOneSpec : ChangeSpec := { name := "snapOne", fn := fun _ => fun
  | [d] => { results := [.lit (.bool true)], args := [d] }
  | _ => none }
def snapOneRow : OpenClaim := { program := "ytpnmhldaaaemeaa", sum := "b937beffd55ca13b6591d8c9333bac78d64e30b808dacea5daf9a220a6456907", func := "stillroom/stillroomlaw24.SnapOne", spec := "snapOne", inPlace := ["math.Float64bits", "math.Float64frombits"], unfollowed := true, recurses := true, apart := false }
def SnapOneSaid : Prop := snapOneRow.holds Try.pinned (OpenSpec.ofChange snapOneSpec)

/-- ITS FALSE NEIGHBOUR: 'it returns false'. Refute it at one input. -/
def snapOneWrong : ChangeSpec := { name := "snapOne", fn := fun _ => fun
  | [d] => { results := [.lit (.bool false)], args := [d] }
  | _ => none }
def SnapOneWrongFalsely : Prop := snapOneRow.holds Try.pinned (OpenSpec.ofChange snapOneWrong)

/-- 'stillroomlaw24.SnapSpoils': WHATEVER THE INPUT: true; the input reads as it did. -/
def snapSpoilsSpec : ChangeSpec := { name := "snapSpoils", fn := fun _ => fun
  | [d1, d2, d3] => { results := [.lit (.bool true)], args := [d1, d2, d3] }
  | _ => none }
def snapSpoilsRow : OpenClaim := { program := "ytpnmhldaaaemeaa", sum := "b937beffd55ca13b6591d8c9333bac78d64e30b808dacea5daf9a220a6456907", func := "stillroom/stillroomlaw24.SnapSpoils", spec := "snapSpoils", inPlace := ["math.Float64bits", "math.Float64frombits"], unfollowed := true, recurses := true, apart := false }
def SnapSpoilsSaid : Prop := snapSpoilsRow.holds Try.pinned (OpenSpec.ofChange snapSpoilsSpec)

/-- ITS FALSE NEIGHBOUR: 'it returns false'. Refute it at one input. -/
def snapSpoilsWrong : ChangeSpec := { name := "snapSpoils", fn := fun _ => fun
  | [d1, d2, d3] => { results := [.lit (.bool false)], args := [d1, d2, d3] }
  | _ => none }
def SnapSpoilsWrongFalsely : Prop := snapSpoilsRow.holds Try.pinned (OpenSpec.ofChange snapSpoilsWrong)

/-- 'stillroomlaw24.SnapApart': WHATEVER THE INPUT: true; the input reads as it did. -/
def snapApartSpec : ChangeSpec := { name := "snapApart", fn := fun _ => fun
  | [d1, d2] => { results := [.lit (.bool true)], args := [d1, d2] }
  | _ => none }
def snapApartRow : OpenClaim := { program := "ytpnmhldaaaemeaa", sum := "b937beffd55ca13b6591d8c9333bac78d64e30b808dacea5daf9a220a6456907", func := "stillroom/stillroomlaw24.SnapApart", spec := "snapApart", inPlace := ["math.Float64bits", "math.Float64frombits"], unfollowed := true, recurses := true, apart := false }
def SnapApartSaid : Prop := snapApartRow.holds Try.pinned (OpenSpec.ofChange snapApartSpec)

/-- ITS FALSE NEIGHBOUR: 'it returns false'. Refute it at one input. -/
def snapApartWrong : ChangeSpec := { name := "snapApart", fn := fun _ => fun
  | [d1, d2] => { results := [.lit (.bool false)], args := [d1, d2] }
  | _ => none }
def SnapApartWrongFalsely : Prop := snapApartRow.holds Try.pinned (OpenSpec.ofChange snapApartWrong)

/- THE SECOND FORM. 'bulk': how many values and letters a reading holds, each counted each time it is reached (what is shared counts as often as it is met; a slice's spare places count too). A statement '..UptoSaid' is the law's where the arguments, and the package variables that the reading takes, are together of bulk at most 1048576: NARROWER than '..Said'. Prove '..Said' where nothing that the law and all that it calls make is longer than what came in: it says more and counts as full. Else prove '..UptoSaid'. A law counts once. -/
mutual
def uptoBulk {H : Type} : DataW H → Nat
  | .lit (.string bytes) => bytes.length + 1
  | .lit _ => 1
  | .nil => 1
  | .ptr d => uptoBulk d + 1
  | .slice elems spare => uptoBulkAll elems + uptoBulkAll spare + 1
  | .agg parts => uptoBulkAll parts + 1
  | .iface _ d => uptoBulk d + 1
  | .map entries => uptoBulkEntries entries + 1
  | .held _ => 1
def uptoBulkAll {H : Type} : List (DataW H) → Nat
  | [] => 0
  | d :: r => uptoBulk d + uptoBulkAll r
def uptoBulkEntries {H : Type} : List (Lit × DataW H) → Nat
  | [] => 0
  | x :: r => uptoBulkEntry x + uptoBulkEntries r
def uptoBulkEntry {H : Type} : Lit × DataW H → Nat
  | (.string bytes, d) => bytes.length + uptoBulk d + 1
  | (_, d) => uptoBulk d + 1
 end
def uptoSmall : (H : Type) → List (DataW H) → Bool := fun _ ds => decide (uptoBulkAll ds ≤ 1048576)
def OpenSpec.upto (s : _root_.Go.ChangeSpec) : _root_.Go.OpenSpec := { _root_.Go.OpenSpec.ofChange s with cond := some uptoSmall }

/-- 'stillroomlaw24.SnapChecks', WHERE WHAT IT READS IS OF BULK AT MOST 1048576: true; the input reads as it did. -/
def snapChecksUptoRow : OpenClaim := { program := "ytpnmhldaaaemeaa", sum := "b937beffd55ca13b6591d8c9333bac78d64e30b808dacea5daf9a220a6456907", func := "stillroom/stillroomlaw24.SnapChecks", spec := "snapChecks", inPlace := ["math.Float64bits", "math.Float64frombits"], unfollowed := true, recurses := true, apart := false, narrowed := true }
def SnapChecksUptoSaid : Prop := snapChecksUptoRow.holds Try.pinned (OpenSpec.upto snapChecksSpec)

/-- 'stillroomlaw24.SnapBack', WHERE WHAT IT READS IS OF BULK AT MOST 1048576: true; the input reads as it did. -/
def snapBackUptoRow : OpenClaim := { program := "ytpnmhldaaaemeaa", sum := "b937beffd55ca13b6591d8c9333bac78d64e30b808dacea5daf9a220a6456907", func := "stillroom/stillroomlaw24.SnapBack", spec := "snapBack", inPlace := ["math.Float64bits", "math.Float64frombits"], unfollowed := true, recurses := true, apart := false, narrowed := true }
def SnapBackUptoSaid : Prop := snapBackUptoRow.holds Try.pinned (OpenSpec.upto snapBackSpec)

/-- 'stillroomlaw24.SnapOne', WHERE WHAT IT READS IS OF BULK AT MOST 1048576: true; the input reads as it did. -/
def snapOneUptoRow : OpenClaim := { program := "ytpnmhldaaaemeaa", sum := "b937beffd55ca13b6591d8c9333bac78d64e30b808dacea5daf9a220a6456907", func := "stillroom/stillroomlaw24.SnapOne", spec := "snapOne", inPlace := ["math.Float64bits", "math.Float64frombits"], unfollowed := true, recurses := true, apart := false, narrowed := true }
def SnapOneUptoSaid : Prop := snapOneUptoRow.holds Try.pinned (OpenSpec.upto snapOneSpec)

/-- 'stillroomlaw24.SnapSpoils', WHERE WHAT IT READS IS OF BULK AT MOST 1048576: true; the input reads as it did. -/
def snapSpoilsUptoRow : OpenClaim := { program := "ytpnmhldaaaemeaa", sum := "b937beffd55ca13b6591d8c9333bac78d64e30b808dacea5daf9a220a6456907", func := "stillroom/stillroomlaw24.SnapSpoils", spec := "snapSpoils", inPlace := ["math.Float64bits", "math.Float64frombits"], unfollowed := true, recurses := true, apart := false, narrowed := true }
def SnapSpoilsUptoSaid : Prop := snapSpoilsUptoRow.holds Try.pinned (OpenSpec.upto snapSpoilsSpec)

/-- 'stillroomlaw24.SnapApart', WHERE WHAT IT READS IS OF BULK AT MOST 1048576: true; the input reads as it did. -/
def snapApartUptoRow : OpenClaim := { program := "ytpnmhldaaaemeaa", sum := "b937beffd55ca13b6591d8c9333bac78d64e30b808dacea5daf9a220a6456907", func := "stillroom/stillroomlaw24.SnapApart", spec := "snapApart", inPlace := ["math.Float64bits", "math.Float64frombits"], unfollowed := true, recurses := true, apart := false, narrowed := true }
def SnapApartUptoSaid : Prop := snapApartUptoRow.holds Try.pinned (OpenSpec.upto snapApartSpec)

end Rows
end Go.Proofs.Ytpnmhldaaaemeaa
