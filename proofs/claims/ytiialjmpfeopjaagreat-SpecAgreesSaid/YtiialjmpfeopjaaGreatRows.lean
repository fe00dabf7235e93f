/-
  No cell of these rows narrows 'for every input' (looked for: loops, veiled, ifaces, maps, wideKeys, modest, calm, conditions, laid).
  DERIVED. THE GIVEN ROWS OF THIS SEAT. 7 by the template 'for every input the law returns true; each argument reads behind the call as it read before'; 0 by the template 'total and deterministic' (their statements: YtiialjmpfeopjaaGreatTotals.lean).
  GIVEN WITH THE SEED: the statements are not yours to turn. If you find one false, say at which input.
  Laid BY PROGRAM, IN A SANDBOX (cutbox-rows.mjs): the forced cells as the released guide's own fill.sh prints them over the translation 859fc3fb9c391f01… (all of the seat's roots in one cut). By AI agents, Wed Nov 11 2026. No macro, syntax, notation, axiom, sorry.
-/
import Derived.Test.YtiialjmpfeopjaaGreatChecked
import GoSem.Claim
import GoSem.ClaimJoined
import GoSem.ClaimMapViews
import Derived.JoinedTies
import Derived.KernelRfl
namespace Go.Proofs.YtiialjmpfeopjaaGreat
/- THE CELL 'sum', in the pinned program and in every row, IS THE sha256 OF THE DUMP (.gsa) THAT YtiialjmpfeopjaaGreatProg.lean LOADS. Nothing in Lean hashes anything: it is a label: what it is worth is what the hold of that sum in a sandbox is worth. -/
noncomputable def Tryz.pinned : Pinned := { name := "ytiialjmpfeopjaagreat", sum := "859fc3fb9c391f010053e82abeb7f15546b68f616a7d6a9120fae6cf53d999d5", checked := Tryz.checked }
namespace Rows
def none {H : Type} : Left H := { results := [], args := [] }

/-- 'locklesslaw18.SpecDoes': WHATEVER THE INPUT: true; the input reads as it did. -/
def specDoesSpec : ChangeSpec := { name := "specDoes", fn := fun _ => fun
  | [d] => { results := [.lit (.bool true)], args := [d] }
  | _ => none }
def specDoesRow : OpenClaim := { program := "ytiialjmpfeopjaagreat", sum := "859fc3fb9c391f010053e82abeb7f15546b68f616a7d6a9120fae6cf53d999d5", func := "lockless/locklesslaw18.SpecDoes", spec := "specDoes", inPlace := ["slices.overlaps[int]"], unfollowed := true, recurses := true, apart := false }
def SpecDoesSaid : Prop := specDoesRow.holds Tryz.pinned (OpenSpec.ofChange specDoesSpec)

/-- ITS FALSE NEIGHBOUR: 'it returns false'. Refute it at one input. -/
def specDoesWrong : ChangeSpec := { name := "specDoes", fn := fun _ => fun
  | [d] => { results := [.lit (.bool false)], args := [d] }
  | _ => none }
def SpecDoesWrongFalsely : Prop := specDoesRow.holds Tryz.pinned (OpenSpec.ofChange specDoesWrong)

/-- 'locklesslaw18.SpecRuns': WHATEVER THE INPUT: true; the input reads as it did. -/
def specRunsSpec : ChangeSpec := { name := "specRuns", fn := fun _ => fun
  | [d1, d2, d3] => { results := [.lit (.bool true)], args := [d1, d2, d3] }
  | _ => none }
def specRunsRow : OpenClaim := { program := "ytiialjmpfeopjaagreat", sum := "859fc3fb9c391f010053e82abeb7f15546b68f616a7d6a9120fae6cf53d999d5", func := "lockless/locklesslaw18.SpecRuns", spec := "specRuns", inPlace := ["slices.overlaps[int]"], unfollowed := true, recurses := true, apart := false }
def SpecRunsSaid : Prop := specRunsRow.holds Tryz.pinned (OpenSpec.ofChange specRunsSpec)

/-- ITS FALSE NEIGHBOUR: 'it returns false'. Refute it at one input. -/
def specRunsWrong : ChangeSpec := { name := "specRuns", fn := fun _ => fun
  | [d1, d2, d3] => { results := [.lit (.bool false)], args := [d1, d2, d3] }
  | _ => none }
def SpecRunsWrongFalsely : Prop := specRunsRow.holds Tryz.pinned (OpenSpec.ofChange specRunsWrong)

/-- 'locklesslaw18.SpecResults': WHATEVER THE INPUT: true; the input reads as it did. -/
def specResultsSpec : ChangeSpec := { name := "specResults", fn := fun _ => fun
  | [d] => { results := [.lit (.bool true)], args := [d] }
  | _ => none }
def specResultsRow : OpenClaim := { program := "ytiialjmpfeopjaagreat", sum := "859fc3fb9c391f010053e82abeb7f15546b68f616a7d6a9120fae6cf53d999d5", func := "lockless/locklesslaw18.SpecResults", spec := "specResults", inPlace := ["slices.overlaps[int]"], unfollowed := true, recurses := true, apart := false }
def SpecResultsSaid : Prop := specResultsRow.holds Tryz.pinned (OpenSpec.ofChange specResultsSpec)

/-- ITS FALSE NEIGHBOUR: 'it returns false'. Refute it at one input. -/
def specResultsWrong : ChangeSpec := { name := "specResults", fn := fun _ => fun
  | [d] => { results := [.lit (.bool false)], args := [d] }
  | _ => none }
def SpecResultsWrongFalsely : Prop := specResultsRow.holds Tryz.pinned (OpenSpec.ofChange specResultsWrong)

/-- 'locklesslaw18.SpecReads': WHATEVER THE INPUT: true; the input reads as it did. -/
def specReadsSpec : ChangeSpec := { name := "specReads", fn := fun _ => fun
  | [d] => { results := [.lit (.bool true)], args := [d] }
  | _ => none }
def specReadsRow : OpenClaim := { program := "ytiialjmpfeopjaagreat", sum := "859fc3fb9c391f010053e82abeb7f15546b68f616a7d6a9120fae6cf53d999d5", func := "lockless/locklesslaw18.SpecReads", spec := "specReads", inPlace := ["slices.overlaps[int]"], unfollowed := true, recurses := true, apart := false }
def SpecReadsSaid : Prop := specReadsRow.holds Tryz.pinned (OpenSpec.ofChange specReadsSpec)

/-- ITS FALSE NEIGHBOUR: 'it returns false'. Refute it at one input. -/
def specReadsWrong : ChangeSpec := { name := "specReads", fn := fun _ => fun
  | [d] => { results := [.lit (.bool false)], args := [d] }
  | _ => none }
def SpecReadsWrongFalsely : Prop := specReadsRow.holds Tryz.pinned (OpenSpec.ofChange specReadsWrong)

/-- 'locklesslaw18.SpecValid': WHATEVER THE INPUT: true; the input reads as it did. -/
def specValidSpec : ChangeSpec := { name := "specValid", fn := fun _ => fun
  | [d] => { results := [.lit (.bool true)], args := [d] }
  | _ => none }
def specValidRow : OpenClaim := { program := "ytiialjmpfeopjaagreat", sum := "859fc3fb9c391f010053e82abeb7f15546b68f616a7d6a9120fae6cf53d999d5", func := "lockless/locklesslaw18.SpecValid", spec := "specValid", inPlace := ["slices.overlaps[int]"], unfollowed := true, recurses := true, apart := false }
def SpecValidSaid : Prop := specValidRow.holds Tryz.pinned (OpenSpec.ofChange specValidSpec)

/-- ITS FALSE NEIGHBOUR: 'it returns false'. Refute it at one input. -/
def specValidWrong : ChangeSpec := { name := "specValid", fn := fun _ => fun
  | [d] => { results := [.lit (.bool false)], args := [d] }
  | _ => none }
def SpecValidWrongFalsely : Prop := specValidRow.holds Tryz.pinned (OpenSpec.ofChange specValidWrong)

/-- 'locklesslaw18.SpecNexts': WHATEVER THE INPUT: true; the input reads as it did. -/
def specNextsSpec : ChangeSpec := { name := "specNexts", fn := fun _ => fun
  | [d] => { results := [.lit (.bool true)], args := [d] }
  | _ => none }
def specNextsRow : OpenClaim := { program := "ytiialjmpfeopjaagreat", sum := "859fc3fb9c391f010053e82abeb7f15546b68f616a7d6a9120fae6cf53d999d5", func := "lockless/locklesslaw18.SpecNexts", spec := "specNexts", inPlace := ["slices.overlaps[int]"], unfollowed := true, recurses := true, apart := false }
def SpecNextsSaid : Prop := specNextsRow.holds Tryz.pinned (OpenSpec.ofChange specNextsSpec)

/-- ITS FALSE NEIGHBOUR: 'it returns false'. Refute it at one input. -/
def specNextsWrong : ChangeSpec := { name := "specNexts", fn := fun _ => fun
  | [d] => { results := [.lit (.bool false)], args := [d] }
  | _ => none }
def SpecNextsWrongFalsely : Prop := specNextsRow.holds Tryz.pinned (OpenSpec.ofChange specNextsWrong)

/-- 'locklesslaw18.SpecAgrees': WHATEVER THE INPUT: true; the input reads as it did. -/
def specAgreesSpec : ChangeSpec := { name := "specAgrees", fn := fun _ => fun
  | [d] => { results := [.lit (.bool true)], args := [d] }
  | _ => none }
def specAgreesRow : OpenClaim := { program := "ytiialjmpfeopjaagreat", sum := "859fc3fb9c391f010053e82abeb7f15546b68f616a7d6a9120fae6cf53d999d5", func := "lockless/locklesslaw18.SpecAgrees", spec := "specAgrees", inPlace := ["slices.overlaps[int]"], unfollowed := true, recurses := true, apart := false }
def SpecAgreesSaid : Prop := specAgreesRow.holds Tryz.pinned (OpenSpec.ofChange specAgreesSpec)

/-- ITS FALSE NEIGHBOUR: 'it returns false'. Refute it at one input. -/
def specAgreesWrong : ChangeSpec := { name := "specAgrees", fn := fun _ => fun
  | [d] => { results := [.lit (.bool false)], args := [d] }
  | _ => none }
def SpecAgreesWrongFalsely : Prop := specAgreesRow.holds Tryz.pinned (OpenSpec.ofChange specAgreesWrong)

/- THE SECOND FORM. 'bulk': how many values and letters a reading holds, each counted each time it is reached (what is shared counts as often as it is met; a slice's spare places count too). A statement '..UptoSaid' is the law's where the arguments, and the package variables that the reading takes, are together of bulk at most 1048576: NARROWER than '..Said'. Prove '..Said' where nothing that the law and all that it calls make is longer than what came in: it says more and counts as full. Else prove '..UptoSaid'. A law counts once. -/
mutual
def uptoBulk {H : Type} : DataW H → Nat
  | .lit (.string bytes) => bytes.length + 1
  | .lit _ => 1
  | .nil => 1
  | .ptr d => uptoBulk d + 1
  | .slice elems spare => uptoBulkAll elems + uptoBulkAll spare + 1
  | .agg parts => uptoBulkAll parts + 1
  | .iface _ d => uptoBulk d + 1
  | .map entries => uptoBulkEntries entries + 1
  | .held _ => 1
def uptoBulkAll {H : Type} : List (DataW H) → Nat
  | [] => 0
  | d :: r => uptoBulk d + uptoBulkAll r
def uptoBulkEntries {H : Type} : List (Lit × DataW H) → Nat
  | [] => 0
  | x :: r => uptoBulkEntry x + uptoBulkEntries r
def uptoBulkEntry {H : Type} : Lit × DataW H → Nat
  | (.string bytes, d) => bytes.length + uptoBulk d + 1
  | (_, d) => uptoBulk d + 1
 end
def uptoSmall : (H : Type) → List (DataW H) → Bool := fun _ ds => decide (uptoBulkAll ds ≤ 1048576)
def OpenSpec.upto (s : _root_.Go.ChangeSpec) : _root_.Go.OpenSpec := { _root_.Go.OpenSpec.ofChange s with cond := some uptoSmall }

/-- 'locklesslaw18.SpecDoes', WHERE WHAT IT READS IS OF BULK AT MOST 1048576: true; the input reads as it did. -/
def specDoesUptoRow : OpenClaim := { program := "ytiialjmpfeopjaagreat", sum := "859fc3fb9c391f010053e82abeb7f15546b68f616a7d6a9120fae6cf53d999d5", func := "lockless/locklesslaw18.SpecDoes", spec := "specDoes", inPlace := ["slices.overlaps[int]"], unfollowed := true, recurses := true, apart := false, narrowed := true }
def SpecDoesUptoSaid : Prop := specDoesUptoRow.holds Tryz.pinned (OpenSpec.upto specDoesSpec)

/-- 'locklesslaw18.SpecRuns', WHERE WHAT IT READS IS OF BULK AT MOST 1048576: true; the input reads as it did. -/
def specRunsUptoRow : OpenClaim := { program := "ytiialjmpfeopjaagreat", sum := "859fc3fb9c391f010053e82abeb7f15546b68f616a7d6a9120fae6cf53d999d5", func := "lockless/locklesslaw18.SpecRuns", spec := "specRuns", inPlace := ["slices.overlaps[int]"], unfollowed := true, recurses := true, apart := false, narrowed := true }
def SpecRunsUptoSaid : Prop := specRunsUptoRow.holds Tryz.pinned (OpenSpec.upto specRunsSpec)

/-- 'locklesslaw18.SpecResults', WHERE WHAT IT READS IS OF BULK AT MOST 1048576: true; the input reads as it did. -/
def specResultsUptoRow : OpenClaim := { program := "ytiialjmpfeopjaagreat", sum := "859fc3fb9c391f010053e82abeb7f15546b68f616a7d6a9120fae6cf53d999d5", func := "lockless/locklesslaw18.SpecResults", spec := "specResults", inPlace := ["slices.overlaps[int]"], unfollowed := true, recurses := true, apart := false, narrowed := true }
def SpecResultsUptoSaid : Prop := specResultsUptoRow.holds Tryz.pinned (OpenSpec.upto specResultsSpec)

/-- 'locklesslaw18.SpecReads', WHERE WHAT IT READS IS OF BULK AT MOST 1048576: true; the input reads as it did. -/
def specReadsUptoRow : OpenClaim := { program := "ytiialjmpfeopjaagreat", sum := "859fc3fb9c391f010053e82abeb7f15546b68f616a7d6a9120fae6cf53d999d5", func := "lockless/locklesslaw18.SpecReads", spec := "specReads", inPlace := ["slices.overlaps[int]"], unfollowed := true, recurses := true, apart := false, narrowed := true }
def SpecReadsUptoSaid : Prop := specReadsUptoRow.holds Tryz.pinned (OpenSpec.upto specReadsSpec)

/-- 'locklesslaw18.SpecValid', WHERE WHAT IT READS IS OF BULK AT MOST 1048576: true; the input reads as it did. -/
def specValidUptoRow : OpenClaim := { program := "ytiialjmpfeopjaagreat", sum := "859fc3fb9c391f010053e82abeb7f15546b68f616a7d6a9120fae6cf53d999d5", func := "lockless/locklesslaw18.SpecValid", spec := "specValid", inPlace := ["slices.overlaps[int]"], unfollowed := true, recurses := true, apart := false, narrowed := true }
def SpecValidUptoSaid : Prop := specValidUptoRow.holds Tryz.pinned (OpenSpec.upto specValidSpec)

/-- 'locklesslaw18.SpecNexts', WHERE WHAT IT READS IS OF BULK AT MOST 1048576: true; the input reads as it did. -/
def specNextsUptoRow : OpenClaim := { program := "ytiialjmpfeopjaagreat", sum := "859fc3fb9c391f010053e82abeb7f15546b68f616a7d6a9120fae6cf53d999d5", func := "lockless/locklesslaw18.SpecNexts", spec := "specNexts", inPlace := ["slices.overlaps[int]"], unfollowed := true, recurses := true, apart := false, narrowed := true }
def SpecNextsUptoSaid : Prop := specNextsUptoRow.holds Tryz.pinned (OpenSpec.upto specNextsSpec)

/-- 'locklesslaw18.SpecAgrees', WHERE WHAT IT READS IS OF BULK AT MOST 1048576: true; the input reads as it did. -/
def specAgreesUptoRow : OpenClaim := { program := "ytiialjmpfeopjaagreat", sum := "859fc3fb9c391f010053e82abeb7f15546b68f616a7d6a9120fae6cf53d999d5", func := "lockless/locklesslaw18.SpecAgrees", spec := "specAgrees", inPlace := ["slices.overlaps[int]"], unfollowed := true, recurses := true, apart := false, narrowed := true }
def SpecAgreesUptoSaid : Prop := specAgreesUptoRow.holds Tryz.pinned (OpenSpec.upto specAgreesSpec)

end Rows
end Go.Proofs.YtiialjmpfeopjaaGreat
