/-
  No cell of these rows narrows 'for every input' (looked for: loops, veiled, ifaces, maps, wideKeys, modest, calm, conditions, laid).
  DERIVED. THE GIVEN ROWS OF THIS SEAT. 4 by the template 'for every input the law returns true; each argument reads behind the call as it read before'; 0 by the template 'total and deterministic' (their statements: YtlbhkgdiplmgnaaTotals.lean).
  GIVEN WITH THE SEED: the statements are not yours to turn. If you find one false, say at which input.
  Laid BY PROGRAM, IN A SANDBOX (cutbox-rows.mjs): the forced cells as the released guide's own fill.sh prints them over the translation 2fc2159dc91a594c… (all of the seat's roots in one cut). By AI agents, Wed Nov 11 2026. No macro, syntax, notation, axiom, sorry.
-/
import Derived.Test.YtlbhkgdiplmgnaaChecked
import GoSem.Claim
import GoSem.ClaimJoined
import GoSem.ClaimMapViews
import Derived.JoinedTies
import Derived.KernelRfl
namespace Go.Proofs.Ytlbhkgdiplmgnaa
/- THE CELL 'sum', in the pinned program and in every row, IS THE sha256 OF THE DUMP (.gsa) THAT YtlbhkgdiplmgnaaProg.lean LOADS. Nothing in Lean hashes anything: it is a label: what it is worth is what the hold of that sum in a sandbox is worth. -/
noncomputable def Try.pinned : Pinned := { name := "ytlbhkgdiplmgnaa", sum := "2fc2159dc91a594c7128d9b53ed97e95795105a938a0d3dc20d0da735097ba2c", checked := Try.checked }
namespace Rows
def none {H : Type} : Left H := { results := [], args := [] }

/-- 'stillroomlaw03.WorldPlays': WHATEVER THE INPUT: true; the input reads as it did. -/
def worldPlaysSpec : ChangeSpec := { name := "worldPlays", fn := fun _ => fun
  | [d1, d2] => { results := [.lit (.bool true)], args := [d1, d2] }
  | _ => none }
def worldPlaysRow : OpenClaim := { program := "ytlbhkgdiplmgnaa", sum := "2fc2159dc91a594c7128d9b53ed97e95795105a938a0d3dc20d0da735097ba2c", func := "stillroom/stillroomlaw03.WorldPlays", spec := "worldPlays", inPlace := ["sync/atomic.StoreInt64", "sync/atomic.LoadInt64", "sync/atomic.StoreUint32", "sync/atomic.LoadUint32"], apart := false }
def WorldPlaysSaid : Prop := worldPlaysRow.holds Try.pinned (OpenSpec.ofChange worldPlaysSpec)

/-- ITS FALSE NEIGHBOUR: 'it returns false'. Refute it at one input. -/
def worldPlaysWrong : ChangeSpec := { name := "worldPlays", fn := fun _ => fun
  | [d1, d2] => { results := [.lit (.bool false)], args := [d1, d2] }
  | _ => none }
def WorldPlaysWrongFalsely : Prop := worldPlaysRow.holds Try.pinned (OpenSpec.ofChange worldPlaysWrong)

/-- 'stillroomlaw03.WorldPicks': WHATEVER THE INPUT: true; the input reads as it did. -/
def worldPicksSpec : ChangeSpec := { name := "worldPicks", fn := fun _ => fun
  | [d1, d2] => { results := [.lit (.bool true)], args := [d1, d2] }
  | _ => none }
def worldPicksRow : OpenClaim := { program := "ytlbhkgdiplmgnaa", sum := "2fc2159dc91a594c7128d9b53ed97e95795105a938a0d3dc20d0da735097ba2c", func := "stillroom/stillroomlaw03.WorldPicks", spec := "worldPicks", inPlace := ["sync/atomic.StoreInt64", "sync/atomic.LoadInt64", "sync/atomic.StoreUint32", "sync/atomic.LoadUint32"], apart := false }
def WorldPicksSaid : Prop := worldPicksRow.holds Try.pinned (OpenSpec.ofChange worldPicksSpec)

/-- ITS FALSE NEIGHBOUR: 'it returns false'. Refute it at one input. -/
def worldPicksWrong : ChangeSpec := { name := "worldPicks", fn := fun _ => fun
  | [d1, d2] => { results := [.lit (.bool false)], args := [d1, d2] }
  | _ => none }
def WorldPicksWrongFalsely : Prop := worldPicksRow.holds Try.pinned (OpenSpec.ofChange worldPicksWrong)

/-- 'stillroomlaw03.WorldNone': WHATEVER THE INPUT: true; the input reads as it did. -/
def worldNoneSpec : ChangeSpec := { name := "worldNone", fn := fun _ => fun
  | [d] => { results := [.lit (.bool true)], args := [d] }
  | _ => none }
def worldNoneRow : OpenClaim := { program := "ytlbhkgdiplmgnaa", sum := "2fc2159dc91a594c7128d9b53ed97e95795105a938a0d3dc20d0da735097ba2c", func := "stillroom/stillroomlaw03.WorldNone", spec := "worldNone", inPlace := ["sync/atomic.LoadInt64", "sync/atomic.StoreInt64", "sync/atomic.StoreUint32", "sync/atomic.LoadUint32"], apart := false }
def WorldNoneSaid : Prop := worldNoneRow.holds Try.pinned (OpenSpec.ofChange worldNoneSpec)

/-- ITS FALSE NEIGHBOUR: 'it returns false'. Refute it at one input. -/
def worldNoneWrong : ChangeSpec := { name := "worldNone", fn := fun _ => fun
  | [d] => { results := [.lit (.bool false)], args := [d] }
  | _ => none }
def WorldNoneWrongFalsely : Prop := worldNoneRow.holds Try.pinned (OpenSpec.ofChange worldNoneWrong)

/-- 'stillroomlaw03.WorldRises': WHATEVER THE INPUT: true; the input reads as it did. -/
def worldRisesSpec : ChangeSpec := { name := "worldRises", fn := fun _ => fun
  | [d] => { results := [.lit (.bool true)], args := [d] }
  | _ => none }
def worldRisesRow : OpenClaim := { program := "ytlbhkgdiplmgnaa", sum := "2fc2159dc91a594c7128d9b53ed97e95795105a938a0d3dc20d0da735097ba2c", func := "stillroom/stillroomlaw03.WorldRises", spec := "worldRises", inPlace := ["sync/atomic.StoreInt64", "sync/atomic.LoadInt64", "sync/atomic.StoreUint32", "sync/atomic.LoadUint32"], apart := false }
def WorldRisesSaid : Prop := worldRisesRow.holds Try.pinned (OpenSpec.ofChange worldRisesSpec)

/-- ITS FALSE NEIGHBOUR: 'it returns false'. Refute it at one input. -/
def worldRisesWrong : ChangeSpec := { name := "worldRises", fn := fun _ => fun
  | [d] => { results := [.lit (.bool false)], args := [d] }
  | _ => none }
def WorldRisesWrongFalsely : Prop := worldRisesRow.holds Try.pinned (OpenSpec.ofChange worldRisesWrong)

/- THE SECOND FORM. 'bulk': how many values and letters a reading holds, each counted each time it is reached (what is shared counts as often as it is met; a slice's spare places count too). A statement '..UptoSaid' is the law's where the arguments, and the package variables that the reading takes, are together of bulk at most 1048576: NARROWER than '..Said'. Prove '..Said' where nothing that the law and all that it calls make is longer than what came in: it says more and counts as full. Else prove '..UptoSaid'. A law counts once. -/
mutual
def uptoBulk {H : Type} : DataW H → Nat
  | .lit (.string bytes) => bytes.length + 1
  | .lit _ => 1
  | .nil => 1
  | .ptr d => uptoBulk d + 1
  | .slice elems spare => uptoBulkAll elems + uptoBulkAll spare + 1
  | .agg parts => uptoBulkAll parts + 1
  | .iface _ d => uptoBulk d + 1
  | .map entries => uptoBulkEntries entries + 1
  | .held _ => 1
def uptoBulkAll {H : Type} : List (DataW H) → Nat
  | [] => 0
  | d :: r => uptoBulk d + uptoBulkAll r
def uptoBulkEntries {H : Type} : List (Lit × DataW H) → Nat
  | [] => 0
  | x :: r => uptoBulkEntry x + uptoBulkEntries r
def uptoBulkEntry {H : Type} : Lit × DataW H → Nat
  | (.string bytes, d) => bytes.length + uptoBulk d + 1
  | (_, d) => uptoBulk d + 1
 end
def uptoSmall : (H : Type) → List (DataW H) → Bool := fun _ ds => decide (uptoBulkAll ds ≤ 1048576)
def OpenSpec.upto (s : _root_.Go.ChangeSpec) : _root_.Go.OpenSpec := { _root_.Go.OpenSpec.ofChange s with cond := some uptoSmall }

/-- 'stillroomlaw03.WorldPlays', WHERE WHAT IT READS IS OF BULK AT MOST 1048576: true; the input reads as it did. -/
def worldPlaysUptoRow : OpenClaim := { program := "ytlbhkgdiplmgnaa", sum := "2fc2159dc91a594c7128d9b53ed97e95795105a938a0d3dc20d0da735097ba2c", func := "stillroom/stillroomlaw03.WorldPlays", spec := "worldPlays", inPlace := ["sync/atomic.StoreInt64", "sync/atomic.LoadInt64", "sync/atomic.StoreUint32", "sync/atomic.LoadUint32"], apart := false, narrowed := true }
def WorldPlaysUptoSaid : Prop := worldPlaysUptoRow.holds Try.pinned (OpenSpec.upto worldPlaysSpec)

/-- 'stillroomlaw03.WorldPicks', WHERE WHAT IT READS IS OF BULK AT MOST 1048576: true; the input reads as it did. -/
def worldPicksUptoRow : OpenClaim := { program := "ytlbhkgdiplmgnaa", sum := "2fc2159dc91a594c7128d9b53ed97e95795105a938a0d3dc20d0da735097ba2c", func := "stillroom/stillroomlaw03.WorldPicks", spec := "worldPicks", inPlace := ["sync/atomic.StoreInt64", "sync/atomic.LoadInt64", "sync/atomic.StoreUint32", "sync/atomic.LoadUint32"], apart := false, narrowed := true }
def WorldPicksUptoSaid : Prop := worldPicksUptoRow.holds Try.pinned (OpenSpec.upto worldPicksSpec)

/-- 'stillroomlaw03.WorldNone', WHERE WHAT IT READS IS OF BULK AT MOST 1048576: true; the input reads as it did. -/
def worldNoneUptoRow : OpenClaim := { program := "ytlbhkgdiplmgnaa", sum := "2fc2159dc91a594c7128d9b53ed97e95795105a938a0d3dc20d0da735097ba2c", func := "stillroom/stillroomlaw03.WorldNone", spec := "worldNone", inPlace := ["sync/atomic.LoadInt64", "sync/atomic.StoreInt64", "sync/atomic.StoreUint32", "sync/atomic.LoadUint32"], apart := false, narrowed := true }
def WorldNoneUptoSaid : Prop := worldNoneUptoRow.holds Try.pinned (OpenSpec.upto worldNoneSpec)

/-- 'stillroomlaw03.WorldRises', WHERE WHAT IT READS IS OF BULK AT MOST 1048576: true; the input reads as it did. -/
def worldRisesUptoRow : OpenClaim := { program := "ytlbhkgdiplmgnaa", sum := "2fc2159dc91a594c7128d9b53ed97e95795105a938a0d3dc20d0da735097ba2c", func := "stillroom/stillroomlaw03.WorldRises", spec := "worldRises", inPlace := ["sync/atomic.StoreInt64", "sync/atomic.LoadInt64", "sync/atomic.StoreUint32", "sync/atomic.LoadUint32"], apart := false, narrowed := true }
def WorldRisesUptoSaid : Prop := worldRisesUptoRow.holds Try.pinned (OpenSpec.upto worldRisesSpec)

end Rows
end Go.Proofs.Ytlbhkgdiplmgnaa
