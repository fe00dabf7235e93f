/-
  No cell of these rows narrows 'for every input' (looked for: loops, veiled, ifaces, maps, wideKeys, modest, calm, conditions, laid).
  DERIVED. THE GIVEN ROWS OF THIS SEAT. 6 by the template 'for every input the law returns true; each argument reads behind the call as it read before'; 0 by the template 'total and deterministic' (their statements: YtgdadefobhfkcaaTotals.lean).
  GIVEN WITH THE SEED: the statements are not yours to turn. If you find one false, say at which input.
  Laid BY PROGRAM, IN A SANDBOX (cutbox-rows.mjs): the forced cells as the released guide's own fill.sh prints them over the translation 161453d994bbfd8a… (all of the seat's roots in one cut). By AI agents, Wed Nov 11 2026. No macro, syntax, notation, axiom, sorry.
-/
import Derived.Test.YtgdadefobhfkcaaChecked
import GoSem.Claim
import GoSem.ClaimJoined
import GoSem.ClaimMapViews
import Derived.JoinedTies
import Derived.KernelRfl
namespace Go.Proofs.Ytgdadefobhfkcaa
/- THE CELL 'sum', in the pinned program and in every row, IS THE sha256 OF THE DUMP (.gsa) THAT YtgdadefobhfkcaaProg.lean LOADS. Nothing in Lean hashes anything: it is a label: what it is worth is what the hold of that sum in a sandbox is worth. -/
noncomputable def Try.pinned : Pinned := { name := "ytgdadefobhfkcaa", sum := "161453d994bbfd8a2ee47998cc62c8f3a11659b1209f92c8a506cc4ba36ca547", checked := Try.checked }
namespace Rows
def none {H : Type} : Left H := { results := [], args := [] }

/-- 'locklesslaw09.HazardKeeps': WHATEVER THE INPUT: true; the input reads as it did. -/
def hazardKeepsSpec : ChangeSpec := { name := "hazardKeeps", fn := fun _ => fun
  | [d1, d2] => { results := [.lit (.bool true)], args := [d1, d2] }
  | _ => none }
def hazardKeepsRow : OpenClaim := { program := "ytgdadefobhfkcaa", sum := "161453d994bbfd8a2ee47998cc62c8f3a11659b1209f92c8a506cc4ba36ca547", func := "lockless/locklesslaw09.HazardKeeps", spec := "hazardKeeps", unfollowed := true, recurses := true, apart := false }
def HazardKeepsSaid : Prop := hazardKeepsRow.holds Try.pinned (OpenSpec.ofChange hazardKeepsSpec)

/-- ITS FALSE NEIGHBOUR: 'it returns false'. Refute it at one input. -/
def hazardKeepsWrong : ChangeSpec := { name := "hazardKeeps", fn := fun _ => fun
  | [d1, d2] => { results := [.lit (.bool false)], args := [d1, d2] }
  | _ => none }
def HazardKeepsWrongFalsely : Prop := hazardKeepsRow.holds Try.pinned (OpenSpec.ofChange hazardKeepsWrong)

/-- 'locklesslaw09.HazardOnce': WHATEVER THE INPUT: true; the input reads as it did. -/
def hazardOnceSpec : ChangeSpec := { name := "hazardOnce", fn := fun _ => fun
  | [d1, d2] => { results := [.lit (.bool true)], args := [d1, d2] }
  | _ => none }
def hazardOnceRow : OpenClaim := { program := "ytgdadefobhfkcaa", sum := "161453d994bbfd8a2ee47998cc62c8f3a11659b1209f92c8a506cc4ba36ca547", func := "lockless/locklesslaw09.HazardOnce", spec := "hazardOnce", unfollowed := true, recurses := true, apart := false }
def HazardOnceSaid : Prop := hazardOnceRow.holds Try.pinned (OpenSpec.ofChange hazardOnceSpec)

/-- ITS FALSE NEIGHBOUR: 'it returns false'. Refute it at one input. -/
def hazardOnceWrong : ChangeSpec := { name := "hazardOnce", fn := fun _ => fun
  | [d1, d2] => { results := [.lit (.bool false)], args := [d1, d2] }
  | _ => none }
def HazardOnceWrongFalsely : Prop := hazardOnceRow.holds Try.pinned (OpenSpec.ofChange hazardOnceWrong)

/-- 'locklesslaw09.HazardBounds': WHATEVER THE INPUT: true; the input reads as it did. -/
def hazardBoundsSpec : ChangeSpec := { name := "hazardBounds", fn := fun _ => fun
  | [d1, d2] => { results := [.lit (.bool true)], args := [d1, d2] }
  | _ => none }
def hazardBoundsRow : OpenClaim := { program := "ytgdadefobhfkcaa", sum := "161453d994bbfd8a2ee47998cc62c8f3a11659b1209f92c8a506cc4ba36ca547", func := "lockless/locklesslaw09.HazardBounds", spec := "hazardBounds", unfollowed := true, recurses := true, apart := false }
def HazardBoundsSaid : Prop := hazardBoundsRow.holds Try.pinned (OpenSpec.ofChange hazardBoundsSpec)

/-- ITS FALSE NEIGHBOUR: 'it returns false'. Refute it at one input. -/
def hazardBoundsWrong : ChangeSpec := { name := "hazardBounds", fn := fun _ => fun
  | [d1, d2] => { results := [.lit (.bool false)], args := [d1, d2] }
  | _ => none }
def HazardBoundsWrongFalsely : Prop := hazardBoundsRow.holds Try.pinned (OpenSpec.ofChange hazardBoundsWrong)

/-- 'locklesslaw09.HazardPlays': WHATEVER THE INPUT: true; the input reads as it did. -/
def hazardPlaysSpec : ChangeSpec := { name := "hazardPlays", fn := fun _ => fun
  | [d1, d2] => { results := [.lit (.bool true)], args := [d1, d2] }
  | _ => none }
def hazardPlaysRow : OpenClaim := { program := "ytgdadefobhfkcaa", sum := "161453d994bbfd8a2ee47998cc62c8f3a11659b1209f92c8a506cc4ba36ca547", func := "lockless/locklesslaw09.HazardPlays", spec := "hazardPlays", unfollowed := true, recurses := true, apart := false }
def HazardPlaysSaid : Prop := hazardPlaysRow.holds Try.pinned (OpenSpec.ofChange hazardPlaysSpec)

/-- ITS FALSE NEIGHBOUR: 'it returns false'. Refute it at one input. -/
def hazardPlaysWrong : ChangeSpec := { name := "hazardPlays", fn := fun _ => fun
  | [d1, d2] => { results := [.lit (.bool false)], args := [d1, d2] }
  | _ => none }
def HazardPlaysWrongFalsely : Prop := hazardPlaysRow.holds Try.pinned (OpenSpec.ofChange hazardPlaysWrong)

/-- 'locklesslaw09.HazardCopies': WHATEVER THE INPUT: true; the input reads as it did. -/
def hazardCopiesSpec : ChangeSpec := { name := "hazardCopies", fn := fun _ => fun
  | [d1, d2, d3] => { results := [.lit (.bool true)], args := [d1, d2, d3] }
  | _ => none }
def hazardCopiesRow : OpenClaim := { program := "ytgdadefobhfkcaa", sum := "161453d994bbfd8a2ee47998cc62c8f3a11659b1209f92c8a506cc4ba36ca547", func := "lockless/locklesslaw09.HazardCopies", spec := "hazardCopies", unfollowed := true, recurses := true, apart := false }
def HazardCopiesSaid : Prop := hazardCopiesRow.holds Try.pinned (OpenSpec.ofChange hazardCopiesSpec)

/-- ITS FALSE NEIGHBOUR: 'it returns false'. Refute it at one input. -/
def hazardCopiesWrong : ChangeSpec := { name := "hazardCopies", fn := fun _ => fun
  | [d1, d2, d3] => { results := [.lit (.bool false)], args := [d1, d2, d3] }
  | _ => none }
def HazardCopiesWrongFalsely : Prop := hazardCopiesRow.holds Try.pinned (OpenSpec.ofChange hazardCopiesWrong)

/-- 'locklesslaw09.HazardNothing': WHATEVER THE INPUT: true; the input reads as it did. -/
def hazardNothingSpec : ChangeSpec := { name := "hazardNothing", fn := fun _ => fun
  | [d] => { results := [.lit (.bool true)], args := [d] }
  | _ => none }
def hazardNothingRow : OpenClaim := { program := "ytgdadefobhfkcaa", sum := "161453d994bbfd8a2ee47998cc62c8f3a11659b1209f92c8a506cc4ba36ca547", func := "lockless/locklesslaw09.HazardNothing", spec := "hazardNothing", unfollowed := true, recurses := true, apart := false }
def HazardNothingSaid : Prop := hazardNothingRow.holds Try.pinned (OpenSpec.ofChange hazardNothingSpec)

/-- ITS FALSE NEIGHBOUR: 'it returns false'. Refute it at one input. -/
def hazardNothingWrong : ChangeSpec := { name := "hazardNothing", fn := fun _ => fun
  | [d] => { results := [.lit (.bool false)], args := [d] }
  | _ => none }
def HazardNothingWrongFalsely : Prop := hazardNothingRow.holds Try.pinned (OpenSpec.ofChange hazardNothingWrong)

/- THE SECOND FORM. 'bulk': how many values and letters a reading holds, each counted each time it is reached (what is shared counts as often as it is met; a slice's spare places count too). A statement '..UptoSaid' is the law's where the arguments, and the package variables that the reading takes, are together of bulk at most 1048576: NARROWER than '..Said'. Prove '..Said' where nothing that the law and all that it calls make is longer than what came in: it says more and counts as full. Else prove '..UptoSaid'. A law counts once. -/
mutual
def uptoBulk {H : Type} : DataW H → Nat
  | .lit (.string bytes) => bytes.length + 1
  | .lit _ => 1
  | .nil => 1
  | .ptr d => uptoBulk d + 1
  | .slice elems spare => uptoBulkAll elems + uptoBulkAll spare + 1
  | .agg parts => uptoBulkAll parts + 1
  | .iface _ d => uptoBulk d + 1
  | .map entries => uptoBulkEntries entries + 1
  | .held _ => 1
def uptoBulkAll {H : Type} : List (DataW H) → Nat
  | [] => 0
  | d :: r => uptoBulk d + uptoBulkAll r
def uptoBulkEntries {H : Type} : List (Lit × DataW H) → Nat
  | [] => 0
  | x :: r => uptoBulkEntry x + uptoBulkEntries r
def uptoBulkEntry {H : Type} : Lit × DataW H → Nat
  | (.string bytes, d) => bytes.length + uptoBulk d + 1
  | (_, d) => uptoBulk d + 1
 end
def uptoSmall : (H : Type) → List (DataW H) → Bool := fun _ ds => decide (uptoBulkAll ds ≤ 1048576)
def OpenSpec.upto (s : _root_.Go.ChangeSpec) : _root_.Go.OpenSpec := { _root_.Go.OpenSpec.ofChange s with cond := some uptoSmall }

/-- 'locklesslaw09.HazardKeeps', WHERE WHAT IT READS IS OF BULK AT MOST 1048576: true; the input reads as it did. -/
def hazardKeepsUptoRow : OpenClaim := { program := "ytgdadefobhfkcaa", sum := "161453d994bbfd8a2ee47998cc62c8f3a11659b1209f92c8a506cc4ba36ca547", func := "lockless/locklesslaw09.HazardKeeps", spec := "hazardKeeps", unfollowed := true, recurses := true, apart := false, narrowed := true }
def HazardKeepsUptoSaid : Prop := hazardKeepsUptoRow.holds Try.pinned (OpenSpec.upto hazardKeepsSpec)

/-- 'locklesslaw09.HazardOnce', WHERE WHAT IT READS IS OF BULK AT MOST 1048576: true; the input reads as it did. -/
def hazardOnceUptoRow : OpenClaim := { program := "ytgdadefobhfkcaa", sum := "161453d994bbfd8a2ee47998cc62c8f3a11659b1209f92c8a506cc4ba36ca547", func := "lockless/locklesslaw09.HazardOnce", spec := "hazardOnce", unfollowed := true, recurses := true, apart := false, narrowed := true }
def HazardOnceUptoSaid : Prop := hazardOnceUptoRow.holds Try.pinned (OpenSpec.upto hazardOnceSpec)

/-- 'locklesslaw09.HazardBounds', WHERE WHAT IT READS IS OF BULK AT MOST 1048576: true; the input reads as it did. -/
def hazardBoundsUptoRow : OpenClaim := { program := "ytgdadefobhfkcaa", sum := "161453d994bbfd8a2ee47998cc62c8f3a11659b1209f92c8a506cc4ba36ca547", func := "lockless/locklesslaw09.HazardBounds", spec := "hazardBounds", unfollowed := true, recurses := true, apart := false, narrowed := true }
def HazardBoundsUptoSaid : Prop := hazardBoundsUptoRow.holds Try.pinned (OpenSpec.upto hazardBoundsSpec)

/-- 'locklesslaw09.HazardPlays', WHERE WHAT IT READS IS OF BULK AT MOST 1048576: true; the input reads as it did. -/
def hazardPlaysUptoRow : OpenClaim := { program := "ytgdadefobhfkcaa", sum := "161453d994bbfd8a2ee47998cc62c8f3a11659b1209f92c8a506cc4ba36ca547", func := "lockless/locklesslaw09.HazardPlays", spec := "hazardPlays", unfollowed := true, recurses := true, apart := false, narrowed := true }
def HazardPlaysUptoSaid : Prop := hazardPlaysUptoRow.holds Try.pinned (OpenSpec.upto hazardPlaysSpec)

/-- 'locklesslaw09.HazardCopies', WHERE WHAT IT READS IS OF BULK AT MOST 1048576: true; the input reads as it did. -/
def hazardCopiesUptoRow : OpenClaim := { program := "ytgdadefobhfkcaa", sum := "161453d994bbfd8a2ee47998cc62c8f3a11659b1209f92c8a506cc4ba36ca547", func := "lockless/locklesslaw09.HazardCopies", spec := "hazardCopies", unfollowed := true, recurses := true, apart := false, narrowed := true }
def HazardCopiesUptoSaid : Prop := hazardCopiesUptoRow.holds Try.pinned (OpenSpec.upto hazardCopiesSpec)

/-- 'locklesslaw09.HazardNothing', WHERE WHAT IT READS IS OF BULK AT MOST 1048576: true; the input reads as it did. -/
def hazardNothingUptoRow : OpenClaim := { program := "ytgdadefobhfkcaa", sum := "161453d994bbfd8a2ee47998cc62c8f3a11659b1209f92c8a506cc4ba36ca547", func := "lockless/locklesslaw09.HazardNothing", spec := "hazardNothing", unfollowed := true, recurses := true, apart := false, narrowed := true }
def HazardNothingUptoSaid : Prop := hazardNothingUptoRow.holds Try.pinned (OpenSpec.upto hazardNothingSpec)

end Rows
end Go.Proofs.Ytgdadefobhfkcaa
