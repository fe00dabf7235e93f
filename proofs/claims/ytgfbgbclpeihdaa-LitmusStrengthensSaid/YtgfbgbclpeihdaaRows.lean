/-
  No cell of these rows narrows 'for every input' (looked for: loops, veiled, ifaces, maps, wideKeys, modest, calm, conditions, laid).
  DERIVED. THE GIVEN ROWS OF THIS SEAT. 6 by the template 'for every input the law returns true; each argument reads behind the call as it read before'; 0 by the template 'total and deterministic' (their statements: YtgfbgbclpeihdaaTotals.lean).
  GIVEN WITH THE SEED: the statements are not yours to turn. If you find one false, say at which input.
  Laid BY PROGRAM, IN A SANDBOX (cutbox-rows.mjs): the forced cells as the released guide's own fill.sh prints them over the translation e7158417d72c488e… (all of the seat's roots in one cut). By AI agents, Wed Nov 11 2026. No macro, syntax, notation, axiom, sorry.
-/
import Derived.Test.YtgfbgbclpeihdaaChecked
import GoSem.Claim
import GoSem.ClaimJoined
import GoSem.ClaimMapViews
import Derived.JoinedTies
import Derived.KernelRfl
namespace Go.Proofs.Ytgfbgbclpeihdaa
/- THE CELL 'sum', in the pinned program and in every row, IS THE sha256 OF THE DUMP (.gsa) THAT YtgfbgbclpeihdaaProg.lean LOADS. Nothing in Lean hashes anything: it is a label: what it is worth is what the hold of that sum in a sandbox is worth. -/
noncomputable def Try.pinned : Pinned := { name := "ytgfbgbclpeihdaa", sum := "e7158417d72c488eeb0369a19e6c1d4f8cc2403aa5f18a04243e8f2fcb5088ef", checked := Try.checked }
namespace Rows
def none {H : Type} : Left H := { results := [], args := [] }

/-- 'locklesslaw03.LitmusChecks': WHATEVER THE INPUT: true; the input reads as it did. -/
def litmusChecksSpec : ChangeSpec := { name := "litmusChecks", fn := fun _ => fun
  | [d] => { results := [.lit (.bool true)], args := [d] }
  | _ => none }
def litmusChecksRow : OpenClaim := { program := "ytgfbgbclpeihdaa", sum := "e7158417d72c488eeb0369a19e6c1d4f8cc2403aa5f18a04243e8f2fcb5088ef", func := "lockless/locklesslaw03.LitmusChecks", spec := "litmusChecks", unfollowed := true, recurses := true, apart := false }
def LitmusChecksSaid : Prop := litmusChecksRow.holds Try.pinned (OpenSpec.ofChange litmusChecksSpec)

/-- ITS FALSE NEIGHBOUR: 'it returns false'. Refute it at one input. -/
def litmusChecksWrong : ChangeSpec := { name := "litmusChecks", fn := fun _ => fun
  | [d] => { results := [.lit (.bool false)], args := [d] }
  | _ => none }
def LitmusChecksWrongFalsely : Prop := litmusChecksRow.holds Try.pinned (OpenSpec.ofChange litmusChecksWrong)

/-- 'locklesslaw03.LitmusInterleaves': WHATEVER THE INPUT: true; the input reads as it did. -/
def litmusInterleavesSpec : ChangeSpec := { name := "litmusInterleaves", fn := fun _ => fun
  | [d] => { results := [.lit (.bool true)], args := [d] }
  | _ => none }
def litmusInterleavesRow : OpenClaim := { program := "ytgfbgbclpeihdaa", sum := "e7158417d72c488eeb0369a19e6c1d4f8cc2403aa5f18a04243e8f2fcb5088ef", func := "lockless/locklesslaw03.LitmusInterleaves", spec := "litmusInterleaves", unfollowed := true, recurses := true, apart := false }
def LitmusInterleavesSaid : Prop := litmusInterleavesRow.holds Try.pinned (OpenSpec.ofChange litmusInterleavesSpec)

/-- ITS FALSE NEIGHBOUR: 'it returns false'. Refute it at one input. -/
def litmusInterleavesWrong : ChangeSpec := { name := "litmusInterleaves", fn := fun _ => fun
  | [d] => { results := [.lit (.bool false)], args := [d] }
  | _ => none }
def LitmusInterleavesWrongFalsely : Prop := litmusInterleavesRow.holds Try.pinned (OpenSpec.ofChange litmusInterleavesWrong)

/-- 'locklesslaw03.LitmusCompares': WHATEVER THE INPUT: true; the input reads as it did. -/
def litmusComparesSpec : ChangeSpec := { name := "litmusCompares", fn := fun _ => fun
  | [d1, d2] => { results := [.lit (.bool true)], args := [d1, d2] }
  | _ => none }
def litmusComparesRow : OpenClaim := { program := "ytgfbgbclpeihdaa", sum := "e7158417d72c488eeb0369a19e6c1d4f8cc2403aa5f18a04243e8f2fcb5088ef", func := "lockless/locklesslaw03.LitmusCompares", spec := "litmusCompares", unfollowed := true, recurses := true, apart := false }
def LitmusComparesSaid : Prop := litmusComparesRow.holds Try.pinned (OpenSpec.ofChange litmusComparesSpec)

/-- ITS FALSE NEIGHBOUR: 'it returns false'. Refute it at one input. -/
def litmusComparesWrong : ChangeSpec := { name := "litmusCompares", fn := fun _ => fun
  | [d1, d2] => { results := [.lit (.bool false)], args := [d1, d2] }
  | _ => none }
def LitmusComparesWrongFalsely : Prop := litmusComparesRow.holds Try.pinned (OpenSpec.ofChange litmusComparesWrong)

/-- 'locklesslaw03.LitmusOrders': WHATEVER THE INPUT: true; the input reads as it did. -/
def litmusOrdersSpec : ChangeSpec := { name := "litmusOrders", fn := fun _ => fun
  | [d1, d2, d3] => { results := [.lit (.bool true)], args := [d1, d2, d3] }
  | _ => none }
def litmusOrdersRow : OpenClaim := { program := "ytgfbgbclpeihdaa", sum := "e7158417d72c488eeb0369a19e6c1d4f8cc2403aa5f18a04243e8f2fcb5088ef", func := "lockless/locklesslaw03.LitmusOrders", spec := "litmusOrders", unfollowed := true, recurses := true, apart := false }
def LitmusOrdersSaid : Prop := litmusOrdersRow.holds Try.pinned (OpenSpec.ofChange litmusOrdersSpec)

/-- ITS FALSE NEIGHBOUR: 'it returns false'. Refute it at one input. -/
def litmusOrdersWrong : ChangeSpec := { name := "litmusOrders", fn := fun _ => fun
  | [d1, d2, d3] => { results := [.lit (.bool false)], args := [d1, d2, d3] }
  | _ => none }
def LitmusOrdersWrongFalsely : Prop := litmusOrdersRow.holds Try.pinned (OpenSpec.ofChange litmusOrdersWrong)

/-- 'locklesslaw03.LitmusExpands': WHATEVER THE INPUT: true; the input reads as it did. -/
def litmusExpandsSpec : ChangeSpec := { name := "litmusExpands", fn := fun _ => fun
  | [d] => { results := [.lit (.bool true)], args := [d] }
  | _ => none }
def litmusExpandsRow : OpenClaim := { program := "ytgfbgbclpeihdaa", sum := "e7158417d72c488eeb0369a19e6c1d4f8cc2403aa5f18a04243e8f2fcb5088ef", func := "lockless/locklesslaw03.LitmusExpands", spec := "litmusExpands", unfollowed := true, recurses := true, apart := false }
def LitmusExpandsSaid : Prop := litmusExpandsRow.holds Try.pinned (OpenSpec.ofChange litmusExpandsSpec)

/-- ITS FALSE NEIGHBOUR: 'it returns false'. Refute it at one input. -/
def litmusExpandsWrong : ChangeSpec := { name := "litmusExpands", fn := fun _ => fun
  | [d] => { results := [.lit (.bool false)], args := [d] }
  | _ => none }
def LitmusExpandsWrongFalsely : Prop := litmusExpandsRow.holds Try.pinned (OpenSpec.ofChange litmusExpandsWrong)

/-- 'locklesslaw03.LitmusStrengthens': WHATEVER THE INPUT: true; the input reads as it did. -/
def litmusStrengthensSpec : ChangeSpec := { name := "litmusStrengthens", fn := fun _ => fun
  | [d] => { results := [.lit (.bool true)], args := [d] }
  | _ => none }
def litmusStrengthensRow : OpenClaim := { program := "ytgfbgbclpeihdaa", sum := "e7158417d72c488eeb0369a19e6c1d4f8cc2403aa5f18a04243e8f2fcb5088ef", func := "lockless/locklesslaw03.LitmusStrengthens", spec := "litmusStrengthens", unfollowed := true, recurses := true, apart := false }
def LitmusStrengthensSaid : Prop := litmusStrengthensRow.holds Try.pinned (OpenSpec.ofChange litmusStrengthensSpec)

/-- ITS FALSE NEIGHBOUR: 'it returns false'. Refute it at one input. -/
def litmusStrengthensWrong : ChangeSpec := { name := "litmusStrengthens", fn := fun _ => fun
  | [d] => { results := [.lit (.bool false)], args := [d] }
  | _ => none }
def LitmusStrengthensWrongFalsely : Prop := litmusStrengthensRow.holds Try.pinned (OpenSpec.ofChange litmusStrengthensWrong)

/- THE SECOND FORM. 'bulk': how many values and letters a reading holds, each counted each time it is reached (what is shared counts as often as it is met; a slice's spare places count too). A statement '..UptoSaid' is the law's where the arguments, and the package variables that the reading takes, are together of bulk at most 1048576: NARROWER than '..Said'. Prove '..Said' where nothing that the law and all that it calls make is longer than what came in: it says more and counts as full. Else prove '..UptoSaid'. A law counts once. -/
mutual
def uptoBulk {H : Type} : DataW H → Nat
  | .lit (.string bytes) => bytes.length + 1
  | .lit _ => 1
  | .nil => 1
  | .ptr d => uptoBulk d + 1
  | .slice elems spare => uptoBulkAll elems + uptoBulkAll spare + 1
  | .agg parts => uptoBulkAll parts + 1
  | .iface _ d => uptoBulk d + 1
  | .map entries => uptoBulkEntries entries + 1
  | .held _ => 1
def uptoBulkAll {H : Type} : List (DataW H) → Nat
  | [] => 0
  | d :: r => uptoBulk d + uptoBulkAll r
def uptoBulkEntries {H : Type} : List (Lit × DataW H) → Nat
  | [] => 0
  | x :: r => uptoBulkEntry x + uptoBulkEntries r
def uptoBulkEntry {H : Type} : Lit × DataW H → Nat
  | (.string bytes, d) => bytes.length + uptoBulk d + 1
  | (_, d) => uptoBulk d + 1
 end
def uptoSmall : (H : Type) → List (DataW H) → Bool := fun _ ds => decide (uptoBulkAll ds ≤ 1048576)
def OpenSpec.upto (s : _root_.Go.ChangeSpec) : _root_.Go.OpenSpec := { _root_.Go.OpenSpec.ofChange s with cond := some uptoSmall }

/-- 'locklesslaw03.LitmusChecks', WHERE WHAT IT READS IS OF BULK AT MOST 1048576: true; the input reads as it did. -/
def litmusChecksUptoRow : OpenClaim := { program := "ytgfbgbclpeihdaa", sum := "e7158417d72c488eeb0369a19e6c1d4f8cc2403aa5f18a04243e8f2fcb5088ef", func := "lockless/locklesslaw03.LitmusChecks", spec := "litmusChecks", unfollowed := true, recurses := true, apart := false, narrowed := true }
def LitmusChecksUptoSaid : Prop := litmusChecksUptoRow.holds Try.pinned (OpenSpec.upto litmusChecksSpec)

/-- 'locklesslaw03.LitmusInterleaves', WHERE WHAT IT READS IS OF BULK AT MOST 1048576: true; the input reads as it did. -/
def litmusInterleavesUptoRow : OpenClaim := { program := "ytgfbgbclpeihdaa", sum := "e7158417d72c488eeb0369a19e6c1d4f8cc2403aa5f18a04243e8f2fcb5088ef", func := "lockless/locklesslaw03.LitmusInterleaves", spec := "litmusInterleaves", unfollowed := true, recurses := true, apart := false, narrowed := true }
def LitmusInterleavesUptoSaid : Prop := litmusInterleavesUptoRow.holds Try.pinned (OpenSpec.upto litmusInterleavesSpec)

/-- 'locklesslaw03.LitmusCompares', WHERE WHAT IT READS IS OF BULK AT MOST 1048576: true; the input reads as it did. -/
def litmusComparesUptoRow : OpenClaim := { program := "ytgfbgbclpeihdaa", sum := "e7158417d72c488eeb0369a19e6c1d4f8cc2403aa5f18a04243e8f2fcb5088ef", func := "lockless/locklesslaw03.LitmusCompares", spec := "litmusCompares", unfollowed := true, recurses := true, apart := false, narrowed := true }
def LitmusComparesUptoSaid : Prop := litmusComparesUptoRow.holds Try.pinned (OpenSpec.upto litmusComparesSpec)

/-- 'locklesslaw03.LitmusOrders', WHERE WHAT IT READS IS OF BULK AT MOST 1048576: true; the input reads as it did. -/
def litmusOrdersUptoRow : OpenClaim := { program := "ytgfbgbclpeihdaa", sum := "e7158417d72c488eeb0369a19e6c1d4f8cc2403aa5f18a04243e8f2fcb5088ef", func := "lockless/locklesslaw03.LitmusOrders", spec := "litmusOrders", unfollowed := true, recurses := true, apart := false, narrowed := true }
def LitmusOrdersUptoSaid : Prop := litmusOrdersUptoRow.holds Try.pinned (OpenSpec.upto litmusOrdersSpec)

/-- 'locklesslaw03.LitmusExpands', WHERE WHAT IT READS IS OF BULK AT MOST 1048576: true; the input reads as it did. -/
def litmusExpandsUptoRow : OpenClaim := { program := "ytgfbgbclpeihdaa", sum := "e7158417d72c488eeb0369a19e6c1d4f8cc2403aa5f18a04243e8f2fcb5088ef", func := "lockless/locklesslaw03.LitmusExpands", spec := "litmusExpands", unfollowed := true, recurses := true, apart := false, narrowed := true }
def LitmusExpandsUptoSaid : Prop := litmusExpandsUptoRow.holds Try.pinned (OpenSpec.upto litmusExpandsSpec)

/-- 'locklesslaw03.LitmusStrengthens', WHERE WHAT IT READS IS OF BULK AT MOST 1048576: true; the input reads as it did. -/
def litmusStrengthensUptoRow : OpenClaim := { program := "ytgfbgbclpeihdaa", sum := "e7158417d72c488eeb0369a19e6c1d4f8cc2403aa5f18a04243e8f2fcb5088ef", func := "lockless/locklesslaw03.LitmusStrengthens", spec := "litmusStrengthens", unfollowed := true, recurses := true, apart := false, narrowed := true }
def LitmusStrengthensUptoSaid : Prop := litmusStrengthensUptoRow.holds Try.pinned (OpenSpec.upto litmusStrengthensSpec)

end Rows
end Go.Proofs.Ytgfbgbclpeihdaa
