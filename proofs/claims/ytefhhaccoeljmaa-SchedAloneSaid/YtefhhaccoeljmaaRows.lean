/-
  No cell of these rows narrows 'for every input' (looked for: loops, veiled, ifaces, maps, wideKeys, modest, calm, conditions, laid).
  DERIVED. THE GIVEN ROWS OF THIS SEAT. 8 by the template 'for every input the law returns true; each argument reads behind the call as it read before'; 0 by the template 'total and deterministic' (their statements: YtefhhaccoeljmaaTotals.lean).
  GIVEN WITH THE SEED: the statements are not yours to turn. If you find one false, say at which input.
  Laid BY PROGRAM, IN A SANDBOX (cutbox-rows.mjs): the forced cells as the released guide's own fill.sh prints them over the translation a08862688909e96f… (all of the seat's roots in one cut). By AI agents, Wed Nov 11 2026. No macro, syntax, notation, axiom, sorry.
-/
import Derived.Test.YtefhhaccoeljmaaChecked
import GoSem.Claim
import GoSem.ClaimJoined
import GoSem.ClaimMapViews
import Derived.JoinedTies
import Derived.KernelRfl
namespace Go.Proofs.Ytefhhaccoeljmaa
/- THE CELL 'sum', in the pinned program and in every row, IS THE sha256 OF THE DUMP (.gsa) THAT YtefhhaccoeljmaaProg.lean LOADS. Nothing in Lean hashes anything: it is a label: what it is worth is what the hold of that sum in a sandbox is worth. -/
noncomputable def Try.pinned : Pinned := { name := "ytefhhaccoeljmaa", sum := "a08862688909e96fca72b8d03efa3d00e58b23209f542d8b754a7adeb8963c50", checked := Try.checked }
namespace Rows
def none {H : Type} : Left H := { results := [], args := [] }

/-- 'locklesslaw23.SchedStops': WHATEVER THE INPUT: true; the input reads as it did. -/
def schedStopsSpec : ChangeSpec := { name := "schedStops", fn := fun _ => fun
  | [d1, d2] => { results := [.lit (.bool true)], args := [d1, d2] }
  | _ => none }
def schedStopsRow : OpenClaim := { program := "ytefhhaccoeljmaa", sum := "a08862688909e96fca72b8d03efa3d00e58b23209f542d8b754a7adeb8963c50", func := "lockless/locklesslaw23.SchedStops", spec := "schedStops", unfollowed := true, recurses := true, apart := false }
def SchedStopsSaid : Prop := schedStopsRow.holds Try.pinned (OpenSpec.ofChange schedStopsSpec)

/-- ITS FALSE NEIGHBOUR: 'it returns false'. Refute it at one input. -/
def schedStopsWrong : ChangeSpec := { name := "schedStops", fn := fun _ => fun
  | [d1, d2] => { results := [.lit (.bool false)], args := [d1, d2] }
  | _ => none }
def SchedStopsWrongFalsely : Prop := schedStopsRow.holds Try.pinned (OpenSpec.ofChange schedStopsWrong)

/-- 'locklesslaw23.SchedRounds': WHATEVER THE INPUT: true; the input reads as it did. -/
def schedRoundsSpec : ChangeSpec := { name := "schedRounds", fn := fun _ => fun
  | [d1, d2] => { results := [.lit (.bool true)], args := [d1, d2] }
  | _ => none }
def schedRoundsRow : OpenClaim := { program := "ytefhhaccoeljmaa", sum := "a08862688909e96fca72b8d03efa3d00e58b23209f542d8b754a7adeb8963c50", func := "lockless/locklesslaw23.SchedRounds", spec := "schedRounds", unfollowed := true, recurses := true, apart := false }
def SchedRoundsSaid : Prop := schedRoundsRow.holds Try.pinned (OpenSpec.ofChange schedRoundsSpec)

/-- ITS FALSE NEIGHBOUR: 'it returns false'. Refute it at one input. -/
def schedRoundsWrong : ChangeSpec := { name := "schedRounds", fn := fun _ => fun
  | [d1, d2] => { results := [.lit (.bool false)], args := [d1, d2] }
  | _ => none }
def SchedRoundsWrongFalsely : Prop := schedRoundsRow.holds Try.pinned (OpenSpec.ofChange schedRoundsWrong)

/-- 'locklesslaw23.SchedFair': WHATEVER THE INPUT: true; the input reads as it did. -/
def schedFairSpec : ChangeSpec := { name := "schedFair", fn := fun _ => fun
  | [d1, d2, d3] => { results := [.lit (.bool true)], args := [d1, d2, d3] }
  | _ => none }
def schedFairRow : OpenClaim := { program := "ytefhhaccoeljmaa", sum := "a08862688909e96fca72b8d03efa3d00e58b23209f542d8b754a7adeb8963c50", func := "lockless/locklesslaw23.SchedFair", spec := "schedFair", unfollowed := true, recurses := true, apart := false }
def SchedFairSaid : Prop := schedFairRow.holds Try.pinned (OpenSpec.ofChange schedFairSpec)

/-- ITS FALSE NEIGHBOUR: 'it returns false'. Refute it at one input. -/
def schedFairWrong : ChangeSpec := { name := "schedFair", fn := fun _ => fun
  | [d1, d2, d3] => { results := [.lit (.bool false)], args := [d1, d2, d3] }
  | _ => none }
def SchedFairWrongFalsely : Prop := schedFairRow.holds Try.pinned (OpenSpec.ofChange schedFairWrong)

/-- 'locklesslaw23.SchedDelays': WHATEVER THE INPUT: true; the input reads as it did. -/
def schedDelaysSpec : ChangeSpec := { name := "schedDelays", fn := fun _ => fun
  | [d1, d2] => { results := [.lit (.bool true)], args := [d1, d2] }
  | _ => none }
def schedDelaysRow : OpenClaim := { program := "ytefhhaccoeljmaa", sum := "a08862688909e96fca72b8d03efa3d00e58b23209f542d8b754a7adeb8963c50", func := "lockless/locklesslaw23.SchedDelays", spec := "schedDelays", unfollowed := true, recurses := true, apart := false }
def SchedDelaysSaid : Prop := schedDelaysRow.holds Try.pinned (OpenSpec.ofChange schedDelaysSpec)

/-- ITS FALSE NEIGHBOUR: 'it returns false'. Refute it at one input. -/
def schedDelaysWrong : ChangeSpec := { name := "schedDelays", fn := fun _ => fun
  | [d1, d2] => { results := [.lit (.bool false)], args := [d1, d2] }
  | _ => none }
def SchedDelaysWrongFalsely : Prop := schedDelaysRow.holds Try.pinned (OpenSpec.ofChange schedDelaysWrong)

/-- 'locklesslaw23.SchedSpreads': WHATEVER THE INPUT: true; the input reads as it did. -/
def schedSpreadsSpec : ChangeSpec := { name := "schedSpreads", fn := fun _ => fun
  | [d1, d2] => { results := [.lit (.bool true)], args := [d1, d2] }
  | _ => none }
def schedSpreadsRow : OpenClaim := { program := "ytefhhaccoeljmaa", sum := "a08862688909e96fca72b8d03efa3d00e58b23209f542d8b754a7adeb8963c50", func := "lockless/locklesslaw23.SchedSpreads", spec := "schedSpreads", unfollowed := true, recurses := true, apart := false }
def SchedSpreadsSaid : Prop := schedSpreadsRow.holds Try.pinned (OpenSpec.ofChange schedSpreadsSpec)

/-- ITS FALSE NEIGHBOUR: 'it returns false'. Refute it at one input. -/
def schedSpreadsWrong : ChangeSpec := { name := "schedSpreads", fn := fun _ => fun
  | [d1, d2] => { results := [.lit (.bool false)], args := [d1, d2] }
  | _ => none }
def SchedSpreadsWrongFalsely : Prop := schedSpreadsRow.holds Try.pinned (OpenSpec.ofChange schedSpreadsWrong)

/-- 'locklesslaw23.SchedTells': WHATEVER THE INPUT: true; the input reads as it did. -/
def schedTellsSpec : ChangeSpec := { name := "schedTells", fn := fun _ => fun
  | [d1, d2] => { results := [.lit (.bool true)], args := [d1, d2] }
  | _ => none }
def schedTellsRow : OpenClaim := { program := "ytefhhaccoeljmaa", sum := "a08862688909e96fca72b8d03efa3d00e58b23209f542d8b754a7adeb8963c50", func := "lockless/locklesslaw23.SchedTells", spec := "schedTells", unfollowed := true, recurses := true, apart := false }
def SchedTellsSaid : Prop := schedTellsRow.holds Try.pinned (OpenSpec.ofChange schedTellsSpec)

/-- ITS FALSE NEIGHBOUR: 'it returns false'. Refute it at one input. -/
def schedTellsWrong : ChangeSpec := { name := "schedTells", fn := fun _ => fun
  | [d1, d2] => { results := [.lit (.bool false)], args := [d1, d2] }
  | _ => none }
def SchedTellsWrongFalsely : Prop := schedTellsRow.holds Try.pinned (OpenSpec.ofChange schedTellsWrong)

/-- 'locklesslaw23.SchedJoins': WHATEVER THE INPUT: true; the input reads as it did. -/
def schedJoinsSpec : ChangeSpec := { name := "schedJoins", fn := fun _ => fun
  | [d1, d2] => { results := [.lit (.bool true)], args := [d1, d2] }
  | _ => none }
def schedJoinsRow : OpenClaim := { program := "ytefhhaccoeljmaa", sum := "a08862688909e96fca72b8d03efa3d00e58b23209f542d8b754a7adeb8963c50", func := "lockless/locklesslaw23.SchedJoins", spec := "schedJoins", unfollowed := true, recurses := true, apart := false }
def SchedJoinsSaid : Prop := schedJoinsRow.holds Try.pinned (OpenSpec.ofChange schedJoinsSpec)

/-- ITS FALSE NEIGHBOUR: 'it returns false'. Refute it at one input. -/
def schedJoinsWrong : ChangeSpec := { name := "schedJoins", fn := fun _ => fun
  | [d1, d2] => { results := [.lit (.bool false)], args := [d1, d2] }
  | _ => none }
def SchedJoinsWrongFalsely : Prop := schedJoinsRow.holds Try.pinned (OpenSpec.ofChange schedJoinsWrong)

/-- 'locklesslaw23.SchedAlone': WHATEVER THE INPUT: true; the input reads as it did. -/
def schedAloneSpec : ChangeSpec := { name := "schedAlone", fn := fun _ => fun
  | [d1, d2] => { results := [.lit (.bool true)], args := [d1, d2] }
  | _ => none }
def schedAloneRow : OpenClaim := { program := "ytefhhaccoeljmaa", sum := "a08862688909e96fca72b8d03efa3d00e58b23209f542d8b754a7adeb8963c50", func := "lockless/locklesslaw23.SchedAlone", spec := "schedAlone", unfollowed := true, recurses := true, apart := false }
def SchedAloneSaid : Prop := schedAloneRow.holds Try.pinned (OpenSpec.ofChange schedAloneSpec)

/-- ITS FALSE NEIGHBOUR: 'it returns false'. Refute it at one input. -/
def schedAloneWrong : ChangeSpec := { name := "schedAlone", fn := fun _ => fun
  | [d1, d2] => { results := [.lit (.bool false)], args := [d1, d2] }
  | _ => none }
def SchedAloneWrongFalsely : Prop := schedAloneRow.holds Try.pinned (OpenSpec.ofChange schedAloneWrong)

/- THE SECOND FORM. 'bulk': how many values and letters a reading holds, each counted each time it is reached (what is shared counts as often as it is met; a slice's spare places count too). A statement '..UptoSaid' is the law's where the arguments, and the package variables that the reading takes, are together of bulk at most 1048576: NARROWER than '..Said'. Prove '..Said' where nothing that the law and all that it calls make is longer than what came in: it says more and counts as full. Else prove '..UptoSaid'. A law counts once. -/
mutual
def uptoBulk {H : Type} : DataW H → Nat
  | .lit (.string bytes) => bytes.length + 1
  | .lit _ => 1
  | .nil => 1
  | .ptr d => uptoBulk d + 1
  | .slice elems spare => uptoBulkAll elems + uptoBulkAll spare + 1
  | .agg parts => uptoBulkAll parts + 1
  | .iface _ d => uptoBulk d + 1
  | .map entries => uptoBulkEntries entries + 1
  | .held _ => 1
def uptoBulkAll {H : Type} : List (DataW H) → Nat
  | [] => 0
  | d :: r => uptoBulk d + uptoBulkAll r
def uptoBulkEntries {H : Type} : List (Lit × DataW H) → Nat
  | [] => 0
  | x :: r => uptoBulkEntry x + uptoBulkEntries r
def uptoBulkEntry {H : Type} : Lit × DataW H → Nat
  | (.string bytes, d) => bytes.length + uptoBulk d + 1
  | (_, d) => uptoBulk d + 1
 end
def uptoSmall : (H : Type) → List (DataW H) → Bool := fun _ ds => decide (uptoBulkAll ds ≤ 1048576)
def OpenSpec.upto (s : _root_.Go.ChangeSpec) : _root_.Go.OpenSpec := { _root_.Go.OpenSpec.ofChange s with cond := some uptoSmall }

/-- 'locklesslaw23.SchedStops', WHERE WHAT IT READS IS OF BULK AT MOST 1048576: true; the input reads as it did. -/
def schedStopsUptoRow : OpenClaim := { program := "ytefhhaccoeljmaa", sum := "a08862688909e96fca72b8d03efa3d00e58b23209f542d8b754a7adeb8963c50", func := "lockless/locklesslaw23.SchedStops", spec := "schedStops", unfollowed := true, recurses := true, apart := false, narrowed := true }
def SchedStopsUptoSaid : Prop := schedStopsUptoRow.holds Try.pinned (OpenSpec.upto schedStopsSpec)

/-- 'locklesslaw23.SchedRounds', WHERE WHAT IT READS IS OF BULK AT MOST 1048576: true; the input reads as it did. -/
def schedRoundsUptoRow : OpenClaim := { program := "ytefhhaccoeljmaa", sum := "a08862688909e96fca72b8d03efa3d00e58b23209f542d8b754a7adeb8963c50", func := "lockless/locklesslaw23.SchedRounds", spec := "schedRounds", unfollowed := true, recurses := true, apart := false, narrowed := true }
def SchedRoundsUptoSaid : Prop := schedRoundsUptoRow.holds Try.pinned (OpenSpec.upto schedRoundsSpec)

/-- 'locklesslaw23.SchedFair', WHERE WHAT IT READS IS OF BULK AT MOST 1048576: true; the input reads as it did. -/
def schedFairUptoRow : OpenClaim := { program := "ytefhhaccoeljmaa", sum := "a08862688909e96fca72b8d03efa3d00e58b23209f542d8b754a7adeb8963c50", func := "lockless/locklesslaw23.SchedFair", spec := "schedFair", unfollowed := true, recurses := true, apart := false, narrowed := true }
def SchedFairUptoSaid : Prop := schedFairUptoRow.holds Try.pinned (OpenSpec.upto schedFairSpec)

/-- 'locklesslaw23.SchedDelays', WHERE WHAT IT READS IS OF BULK AT MOST 1048576: true; the input reads as it did. -/
def schedDelaysUptoRow : OpenClaim := { program := "ytefhhaccoeljmaa", sum := "a08862688909e96fca72b8d03efa3d00e58b23209f542d8b754a7adeb8963c50", func := "lockless/locklesslaw23.SchedDelays", spec := "schedDelays", unfollowed := true, recurses := true, apart := false, narrowed := true }
def SchedDelaysUptoSaid : Prop := schedDelaysUptoRow.holds Try.pinned (OpenSpec.upto schedDelaysSpec)

/-- 'locklesslaw23.SchedSpreads', WHERE WHAT IT READS IS OF BULK AT MOST 1048576: true; the input reads as it did. -/
def schedSpreadsUptoRow : OpenClaim := { program := "ytefhhaccoeljmaa", sum := "a08862688909e96fca72b8d03efa3d00e58b23209f542d8b754a7adeb8963c50", func := "lockless/locklesslaw23.SchedSpreads", spec := "schedSpreads", unfollowed := true, recurses := true, apart := false, narrowed := true }
def SchedSpreadsUptoSaid : Prop := schedSpreadsUptoRow.holds Try.pinned (OpenSpec.upto schedSpreadsSpec)

/-- 'locklesslaw23.SchedTells', WHERE WHAT IT READS IS OF BULK AT MOST 1048576: true; the input reads as it did. -/
def schedTellsUptoRow : OpenClaim := { program := "ytefhhaccoeljmaa", sum := "a08862688909e96fca72b8d03efa3d00e58b23209f542d8b754a7adeb8963c50", func := "lockless/locklesslaw23.SchedTells", spec := "schedTells", unfollowed := true, recurses := true, apart := false, narrowed := true }
def SchedTellsUptoSaid : Prop := schedTellsUptoRow.holds Try.pinned (OpenSpec.upto schedTellsSpec)

/-- 'locklesslaw23.SchedJoins', WHERE WHAT IT READS IS OF BULK AT MOST 1048576: true; the input reads as it did. -/
def schedJoinsUptoRow : OpenClaim := { program := "ytefhhaccoeljmaa", sum := "a08862688909e96fca72b8d03efa3d00e58b23209f542d8b754a7adeb8963c50", func := "lockless/locklesslaw23.SchedJoins", spec := "schedJoins", unfollowed := true, recurses := true, apart := false, narrowed := true }
def SchedJoinsUptoSaid : Prop := schedJoinsUptoRow.holds Try.pinned (OpenSpec.upto schedJoinsSpec)

/-- 'locklesslaw23.SchedAlone', WHERE WHAT IT READS IS OF BULK AT MOST 1048576: true; the input reads as it did. -/
def schedAloneUptoRow : OpenClaim := { program := "ytefhhaccoeljmaa", sum := "a08862688909e96fca72b8d03efa3d00e58b23209f542d8b754a7adeb8963c50", func := "lockless/locklesslaw23.SchedAlone", spec := "schedAlone", unfollowed := true, recurses := true, apart := false, narrowed := true }
def SchedAloneUptoSaid : Prop := schedAloneUptoRow.holds Try.pinned (OpenSpec.upto schedAloneSpec)

end Rows
end Go.Proofs.Ytefhhaccoeljmaa
