/-
  No cell of these rows narrows 'for every input' (looked for: loops, veiled, ifaces, maps, wideKeys, modest, calm, conditions, laid).
  DERIVED. THE GIVEN ROWS OF THIS SEAT. 9 by the template 'for every input the law returns true; each argument reads behind the call as it read before'; 0 by the template 'total and deterministic' (their statements: YtcfodmnpmjkpbaaTotals.lean).
  GIVEN WITH THE SEED: the statements are not yours to turn. If you find one false, say at which input.
  Laid BY PROGRAM, IN A SANDBOX (cutbox-rows.mjs): the forced cells as the released guide's own fill.sh prints them over the translation b52d741620da9f31… (all of the seat's roots in one cut). By AI agents, Wed Nov 11 2026. No macro, syntax, notation, axiom, sorry.
-/
import Derived.Test.YtcfodmnpmjkpbaaChecked
import GoSem.Claim
import GoSem.ClaimJoined
import GoSem.ClaimMapViews
import Derived.JoinedTies
import Derived.KernelRfl
namespace Go.Proofs.Ytcfodmnpmjkpbaa
/- THE CELL 'sum', in the pinned program and in every row, IS THE sha256 OF THE DUMP (.gsa) THAT YtcfodmnpmjkpbaaProg.lean LOADS. Nothing in Lean hashes anything: it is a label: what it is worth is what the hold of that sum in a sandbox is worth. -/
noncomputable def Try.pinned : Pinned := { name := "ytcfodmnpmjkpbaa", sum := "b52d741620da9f3108719fb7cc126df57eb25cdc146a7ac7a8cbc437b5f0c0ff", checked := Try.checked }
namespace Rows
def none {H : Type} : Left H := { results := [], args := [] }

/-- 'locklesslaw10.EpochBounds': WHATEVER THE INPUT: true; the input reads as it did. -/
def epochBoundsSpec : ChangeSpec := { name := "epochBounds", fn := fun _ => fun
  | [d] => { results := [.lit (.bool true)], args := [d] }
  | _ => none }
def epochBoundsRow : OpenClaim := { program := "ytcfodmnpmjkpbaa", sum := "b52d741620da9f3108719fb7cc126df57eb25cdc146a7ac7a8cbc437b5f0c0ff", func := "lockless/locklesslaw10.EpochBounds", spec := "epochBounds", unfollowed := true, recurses := true, apart := false }
def EpochBoundsSaid : Prop := epochBoundsRow.holds Try.pinned (OpenSpec.ofChange epochBoundsSpec)

/-- ITS FALSE NEIGHBOUR: 'it returns false'. Refute it at one input. -/
def epochBoundsWrong : ChangeSpec := { name := "epochBounds", fn := fun _ => fun
  | [d] => { results := [.lit (.bool false)], args := [d] }
  | _ => none }
def EpochBoundsWrongFalsely : Prop := epochBoundsRow.holds Try.pinned (OpenSpec.ofChange epochBoundsWrong)

/-- 'locklesslaw10.EpochScripts': WHATEVER THE INPUT: true; the input reads as it did. -/
def epochScriptsSpec : ChangeSpec := { name := "epochScripts", fn := fun _ => fun
  | [d1, d2] => { results := [.lit (.bool true)], args := [d1, d2] }
  | _ => none }
def epochScriptsRow : OpenClaim := { program := "ytcfodmnpmjkpbaa", sum := "b52d741620da9f3108719fb7cc126df57eb25cdc146a7ac7a8cbc437b5f0c0ff", func := "lockless/locklesslaw10.EpochScripts", spec := "epochScripts", unfollowed := true, recurses := true, apart := false }
def EpochScriptsSaid : Prop := epochScriptsRow.holds Try.pinned (OpenSpec.ofChange epochScriptsSpec)

/-- ITS FALSE NEIGHBOUR: 'it returns false'. Refute it at one input. -/
def epochScriptsWrong : ChangeSpec := { name := "epochScripts", fn := fun _ => fun
  | [d1, d2] => { results := [.lit (.bool false)], args := [d1, d2] }
  | _ => none }
def EpochScriptsWrongFalsely : Prop := epochScriptsRow.holds Try.pinned (OpenSpec.ofChange epochScriptsWrong)

/-- 'locklesslaw10.EpochKeeps': WHATEVER THE INPUT: true; the input reads as it did. -/
def epochKeepsSpec : ChangeSpec := { name := "epochKeeps", fn := fun _ => fun
  | [d] => { results := [.lit (.bool true)], args := [d] }
  | _ => none }
def epochKeepsRow : OpenClaim := { program := "ytcfodmnpmjkpbaa", sum := "b52d741620da9f3108719fb7cc126df57eb25cdc146a7ac7a8cbc437b5f0c0ff", func := "lockless/locklesslaw10.EpochKeeps", spec := "epochKeeps", unfollowed := true, recurses := true, apart := false }
def EpochKeepsSaid : Prop := epochKeepsRow.holds Try.pinned (OpenSpec.ofChange epochKeepsSpec)

/-- ITS FALSE NEIGHBOUR: 'it returns false'. Refute it at one input. -/
def epochKeepsWrong : ChangeSpec := { name := "epochKeeps", fn := fun _ => fun
  | [d] => { results := [.lit (.bool false)], args := [d] }
  | _ => none }
def EpochKeepsWrongFalsely : Prop := epochKeepsRow.holds Try.pinned (OpenSpec.ofChange epochKeepsWrong)

/-- 'locklesslaw10.EpochFar': WHATEVER THE INPUT: true; the input reads as it did. -/
def epochFarSpec : ChangeSpec := { name := "epochFar", fn := fun _ => fun
  | [d] => { results := [.lit (.bool true)], args := [d] }
  | _ => none }
def epochFarRow : OpenClaim := { program := "ytcfodmnpmjkpbaa", sum := "b52d741620da9f3108719fb7cc126df57eb25cdc146a7ac7a8cbc437b5f0c0ff", func := "lockless/locklesslaw10.EpochFar", spec := "epochFar", unfollowed := true, recurses := true, apart := false }
def EpochFarSaid : Prop := epochFarRow.holds Try.pinned (OpenSpec.ofChange epochFarSpec)

/-- ITS FALSE NEIGHBOUR: 'it returns false'. Refute it at one input. -/
def epochFarWrong : ChangeSpec := { name := "epochFar", fn := fun _ => fun
  | [d] => { results := [.lit (.bool false)], args := [d] }
  | _ => none }
def EpochFarWrongFalsely : Prop := epochFarRow.holds Try.pinned (OpenSpec.ofChange epochFarWrong)

/-- 'locklesslaw10.EpochRests': WHATEVER THE INPUT: true; the input reads as it did. -/
def epochRestsSpec : ChangeSpec := { name := "epochRests", fn := fun _ => fun
  | [d1, d2] => { results := [.lit (.bool true)], args := [d1, d2] }
  | _ => none }
def epochRestsRow : OpenClaim := { program := "ytcfodmnpmjkpbaa", sum := "b52d741620da9f3108719fb7cc126df57eb25cdc146a7ac7a8cbc437b5f0c0ff", func := "lockless/locklesslaw10.EpochRests", spec := "epochRests", unfollowed := true, recurses := true, apart := false }
def EpochRestsSaid : Prop := epochRestsRow.holds Try.pinned (OpenSpec.ofChange epochRestsSpec)

/-- ITS FALSE NEIGHBOUR: 'it returns false'. Refute it at one input. -/
def epochRestsWrong : ChangeSpec := { name := "epochRests", fn := fun _ => fun
  | [d1, d2] => { results := [.lit (.bool false)], args := [d1, d2] }
  | _ => none }
def EpochRestsWrongFalsely : Prop := epochRestsRow.holds Try.pinned (OpenSpec.ofChange epochRestsWrong)

/-- 'locklesslaw10.EpochOnce': WHATEVER THE INPUT: true; the input reads as it did. -/
def epochOnceSpec : ChangeSpec := { name := "epochOnce", fn := fun _ => fun
  | [d1, d2] => { results := [.lit (.bool true)], args := [d1, d2] }
  | _ => none }
def epochOnceRow : OpenClaim := { program := "ytcfodmnpmjkpbaa", sum := "b52d741620da9f3108719fb7cc126df57eb25cdc146a7ac7a8cbc437b5f0c0ff", func := "lockless/locklesslaw10.EpochOnce", spec := "epochOnce", unfollowed := true, recurses := true, apart := false }
def EpochOnceSaid : Prop := epochOnceRow.holds Try.pinned (OpenSpec.ofChange epochOnceSpec)

/-- ITS FALSE NEIGHBOUR: 'it returns false'. Refute it at one input. -/
def epochOnceWrong : ChangeSpec := { name := "epochOnce", fn := fun _ => fun
  | [d1, d2] => { results := [.lit (.bool false)], args := [d1, d2] }
  | _ => none }
def EpochOnceWrongFalsely : Prop := epochOnceRow.holds Try.pinned (OpenSpec.ofChange epochOnceWrong)

/-- 'locklesslaw10.EpochTwo': WHATEVER THE INPUT: true; the input reads as it did. -/
def epochTwoSpec : ChangeSpec := { name := "epochTwo", fn := fun _ => fun
  | [d] => { results := [.lit (.bool true)], args := [d] }
  | _ => none }
def epochTwoRow : OpenClaim := { program := "ytcfodmnpmjkpbaa", sum := "b52d741620da9f3108719fb7cc126df57eb25cdc146a7ac7a8cbc437b5f0c0ff", func := "lockless/locklesslaw10.EpochTwo", spec := "epochTwo", unfollowed := true, recurses := true, apart := false }
def EpochTwoSaid : Prop := epochTwoRow.holds Try.pinned (OpenSpec.ofChange epochTwoSpec)

/-- ITS FALSE NEIGHBOUR: 'it returns false'. Refute it at one input. -/
def epochTwoWrong : ChangeSpec := { name := "epochTwo", fn := fun _ => fun
  | [d] => { results := [.lit (.bool false)], args := [d] }
  | _ => none }
def EpochTwoWrongFalsely : Prop := epochTwoRow.holds Try.pinned (OpenSpec.ofChange epochTwoWrong)

/-- 'locklesslaw10.EpochNil': WHATEVER THE INPUT: true; the input reads as it did. -/
def epochNilSpec : ChangeSpec := { name := "epochNil", fn := fun _ => fun
  | [d] => { results := [.lit (.bool true)], args := [d] }
  | _ => none }
def epochNilRow : OpenClaim := { program := "ytcfodmnpmjkpbaa", sum := "b52d741620da9f3108719fb7cc126df57eb25cdc146a7ac7a8cbc437b5f0c0ff", func := "lockless/locklesslaw10.EpochNil", spec := "epochNil", unfollowed := true, recurses := true, apart := false }
def EpochNilSaid : Prop := epochNilRow.holds Try.pinned (OpenSpec.ofChange epochNilSpec)

/-- ITS FALSE NEIGHBOUR: 'it returns false'. Refute it at one input. -/
def epochNilWrong : ChangeSpec := { name := "epochNil", fn := fun _ => fun
  | [d] => { results := [.lit (.bool false)], args := [d] }
  | _ => none }
def EpochNilWrongFalsely : Prop := epochNilRow.holds Try.pinned (OpenSpec.ofChange epochNilWrong)

/-- 'locklesslaw10.EpochCopies': WHATEVER THE INPUT: true; the input reads as it did. -/
def epochCopiesSpec : ChangeSpec := { name := "epochCopies", fn := fun _ => fun
  | [d1, d2, d3] => { results := [.lit (.bool true)], args := [d1, d2, d3] }
  | _ => none }
def epochCopiesRow : OpenClaim := { program := "ytcfodmnpmjkpbaa", sum := "b52d741620da9f3108719fb7cc126df57eb25cdc146a7ac7a8cbc437b5f0c0ff", func := "lockless/locklesslaw10.EpochCopies", spec := "epochCopies", unfollowed := true, recurses := true, apart := false }
def EpochCopiesSaid : Prop := epochCopiesRow.holds Try.pinned (OpenSpec.ofChange epochCopiesSpec)

/-- ITS FALSE NEIGHBOUR: 'it returns false'. Refute it at one input. -/
def epochCopiesWrong : ChangeSpec := { name := "epochCopies", fn := fun _ => fun
  | [d1, d2, d3] => { results := [.lit (.bool false)], args := [d1, d2, d3] }
  | _ => none }
def EpochCopiesWrongFalsely : Prop := epochCopiesRow.holds Try.pinned (OpenSpec.ofChange epochCopiesWrong)

/- THE SECOND FORM. 'bulk': how many values and letters a reading holds, each counted each time it is reached (what is shared counts as often as it is met; a slice's spare places count too). A statement '..UptoSaid' is the law's where the arguments, and the package variables that the reading takes, are together of bulk at most 1048576: NARROWER than '..Said'. Prove '..Said' where nothing that the law and all that it calls make is longer than what came in: it says more and counts as full. Else prove '..UptoSaid'. A law counts once. -/
mutual
def uptoBulk {H : Type} : DataW H → Nat
  | .lit (.string bytes) => bytes.length + 1
  | .lit _ => 1
  | .nil => 1
  | .ptr d => uptoBulk d + 1
  | .slice elems spare => uptoBulkAll elems + uptoBulkAll spare + 1
  | .agg parts => uptoBulkAll parts + 1
  | .iface _ d => uptoBulk d + 1
  | .map entries => uptoBulkEntries entries + 1
  | .held _ => 1
def uptoBulkAll {H : Type} : List (DataW H) → Nat
  | [] => 0
  | d :: r => uptoBulk d + uptoBulkAll r
def uptoBulkEntries {H : Type} : List (Lit × DataW H) → Nat
  | [] => 0
  | x :: r => uptoBulkEntry x + uptoBulkEntries r
def uptoBulkEntry {H : Type} : Lit × DataW H → Nat
  | (.string bytes, d) => bytes.length + uptoBulk d + 1
  | (_, d) => uptoBulk d + 1
 end
def uptoSmall : (H : Type) → List (DataW H) → Bool := fun _ ds => decide (uptoBulkAll ds ≤ 1048576)
def OpenSpec.upto (s : _root_.Go.ChangeSpec) : _root_.Go.OpenSpec := { _root_.Go.OpenSpec.ofChange s with cond := some uptoSmall }

/-- 'locklesslaw10.EpochBounds', WHERE WHAT IT READS IS OF BULK AT MOST 1048576: true; the input reads as it did. -/
def epochBoundsUptoRow : OpenClaim := { program := "ytcfodmnpmjkpbaa", sum := "b52d741620da9f3108719fb7cc126df57eb25cdc146a7ac7a8cbc437b5f0c0ff", func := "lockless/locklesslaw10.EpochBounds", spec := "epochBounds", unfollowed := true, recurses := true, apart := false, narrowed := true }
def EpochBoundsUptoSaid : Prop := epochBoundsUptoRow.holds Try.pinned (OpenSpec.upto epochBoundsSpec)

/-- 'locklesslaw10.EpochScripts', WHERE WHAT IT READS IS OF BULK AT MOST 1048576: true; the input reads as it did. -/
def epochScriptsUptoRow : OpenClaim := { program := "ytcfodmnpmjkpbaa", sum := "b52d741620da9f3108719fb7cc126df57eb25cdc146a7ac7a8cbc437b5f0c0ff", func := "lockless/locklesslaw10.EpochScripts", spec := "epochScripts", unfollowed := true, recurses := true, apart := false, narrowed := true }
def EpochScriptsUptoSaid : Prop := epochScriptsUptoRow.holds Try.pinned (OpenSpec.upto epochScriptsSpec)

/-- 'locklesslaw10.EpochKeeps', WHERE WHAT IT READS IS OF BULK AT MOST 1048576: true; the input reads as it did. -/
def epochKeepsUptoRow : OpenClaim := { program := "ytcfodmnpmjkpbaa", sum := "b52d741620da9f3108719fb7cc126df57eb25cdc146a7ac7a8cbc437b5f0c0ff", func := "lockless/locklesslaw10.EpochKeeps", spec := "epochKeeps", unfollowed := true, recurses := true, apart := false, narrowed := true }
def EpochKeepsUptoSaid : Prop := epochKeepsUptoRow.holds Try.pinned (OpenSpec.upto epochKeepsSpec)

/-- 'locklesslaw10.EpochFar', WHERE WHAT IT READS IS OF BULK AT MOST 1048576: true; the input reads as it did. -/
def epochFarUptoRow : OpenClaim := { program := "ytcfodmnpmjkpbaa", sum := "b52d741620da9f3108719fb7cc126df57eb25cdc146a7ac7a8cbc437b5f0c0ff", func := "lockless/locklesslaw10.EpochFar", spec := "epochFar", unfollowed := true, recurses := true, apart := false, narrowed := true }
def EpochFarUptoSaid : Prop := epochFarUptoRow.holds Try.pinned (OpenSpec.upto epochFarSpec)

/-- 'locklesslaw10.EpochRests', WHERE WHAT IT READS IS OF BULK AT MOST 1048576: true; the input reads as it did. -/
def epochRestsUptoRow : OpenClaim := { program := "ytcfodmnpmjkpbaa", sum := "b52d741620da9f3108719fb7cc126df57eb25cdc146a7ac7a8cbc437b5f0c0ff", func := "lockless/locklesslaw10.EpochRests", spec := "epochRests", unfollowed := true, recurses := true, apart := false, narrowed := true }
def EpochRestsUptoSaid : Prop := epochRestsUptoRow.holds Try.pinned (OpenSpec.upto epochRestsSpec)

/-- 'locklesslaw10.EpochOnce', WHERE WHAT IT READS IS OF BULK AT MOST 1048576: true; the input reads as it did. -/
def epochOnceUptoRow : OpenClaim := { program := "ytcfodmnpmjkpbaa", sum := "b52d741620da9f3108719fb7cc126df57eb25cdc146a7ac7a8cbc437b5f0c0ff", func := "lockless/locklesslaw10.EpochOnce", spec := "epochOnce", unfollowed := true, recurses := true, apart := false, narrowed := true }
def EpochOnceUptoSaid : Prop := epochOnceUptoRow.holds Try.pinned (OpenSpec.upto epochOnceSpec)

/-- 'locklesslaw10.EpochTwo', WHERE WHAT IT READS IS OF BULK AT MOST 1048576: true; the input reads as it did. -/
def epochTwoUptoRow : OpenClaim := { program := "ytcfodmnpmjkpbaa", sum := "b52d741620da9f3108719fb7cc126df57eb25cdc146a7ac7a8cbc437b5f0c0ff", func := "lockless/locklesslaw10.EpochTwo", spec := "epochTwo", unfollowed := true, recurses := true, apart := false, narrowed := true }
def EpochTwoUptoSaid : Prop := epochTwoUptoRow.holds Try.pinned (OpenSpec.upto epochTwoSpec)

/-- 'locklesslaw10.EpochNil', WHERE WHAT IT READS IS OF BULK AT MOST 1048576: true; the input reads as it did. -/
def epochNilUptoRow : OpenClaim := { program := "ytcfodmnpmjkpbaa", sum := "b52d741620da9f3108719fb7cc126df57eb25cdc146a7ac7a8cbc437b5f0c0ff", func := "lockless/locklesslaw10.EpochNil", spec := "epochNil", unfollowed := true, recurses := true, apart := false, narrowed := true }
def EpochNilUptoSaid : Prop := epochNilUptoRow.holds Try.pinned (OpenSpec.upto epochNilSpec)

/-- 'locklesslaw10.EpochCopies', WHERE WHAT IT READS IS OF BULK AT MOST 1048576: true; the input reads as it did. -/
def epochCopiesUptoRow : OpenClaim := { program := "ytcfodmnpmjkpbaa", sum := "b52d741620da9f3108719fb7cc126df57eb25cdc146a7ac7a8cbc437b5f0c0ff", func := "lockless/locklesslaw10.EpochCopies", spec := "epochCopies", unfollowed := true, recurses := true, apart := false, narrowed := true }
def EpochCopiesUptoSaid : Prop := epochCopiesUptoRow.holds Try.pinned (OpenSpec.upto epochCopiesSpec)

end Rows
end Go.Proofs.Ytcfodmnpmjkpbaa
