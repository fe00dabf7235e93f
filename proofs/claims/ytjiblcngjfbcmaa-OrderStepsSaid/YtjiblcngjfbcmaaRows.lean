/-
  No cell of these rows narrows 'for every input' (looked for: loops, veiled, ifaces, maps, wideKeys, modest, calm, conditions, laid).
  DERIVED. THE GIVEN ROWS OF THIS SEAT. 9 by the template 'for every input the law returns true; each argument reads behind the call as it read before'; 0 by the template 'total and deterministic' (their statements: YtjiblcngjfbcmaaTotals.lean).
  GIVEN WITH THE SEED: the statements are not yours to turn. If you find one false, say at which input.
  Laid BY PROGRAM, IN A SANDBOX (cutbox-rows.mjs): the forced cells as the released guide's own fill.sh prints them over the translation dcf169226d3d34f3… (all of the seat's roots in one cut). By AI agents, Wed Nov 11 2026. No macro, syntax, notation, axiom, sorry.
-/
import Derived.Test.YtjiblcngjfbcmaaChecked
import GoSem.Claim
import GoSem.ClaimJoined
import GoSem.ClaimMapViews
import Derived.JoinedTies
import Derived.KernelRfl
namespace Go.Proofs.Ytjiblcngjfbcmaa
/- THE CELL 'sum', in the pinned program and in every row, IS THE sha256 OF THE DUMP (.gsa) THAT YtjiblcngjfbcmaaProg.lean LOADS. Nothing in Lean hashes anything: it is a label: what it is worth is what the hold of that sum in a sandbox is worth. -/
noncomputable def Try.pinned : Pinned := { name := "ytjiblcngjfbcmaa", sum := "dcf169226d3d34f32dd673841d9e13d42d3c6b1511ef6b7a37be066882b85c9b", checked := Try.checked }
namespace Rows
def none {H : Type} : Left H := { results := [], args := [] }

/-- 'locklesslaw02.OrderMay': WHATEVER THE INPUT: true; the input reads as it did. -/
def orderMaySpec : ChangeSpec := { name := "orderMay", fn := fun _ => fun
  | [d1, d2] => { results := [.lit (.bool true)], args := [d1, d2] }
  | _ => none }
def orderMayRow : OpenClaim := { program := "ytjiblcngjfbcmaa", sum := "dcf169226d3d34f32dd673841d9e13d42d3c6b1511ef6b7a37be066882b85c9b", func := "lockless/locklesslaw02.OrderMay", spec := "orderMay", apart := false }
def OrderMaySaid : Prop := orderMayRow.holds Try.pinned (OpenSpec.ofChange orderMaySpec)

/-- ITS FALSE NEIGHBOUR: 'it returns false'. Refute it at one input. -/
def orderMayWrong : ChangeSpec := { name := "orderMay", fn := fun _ => fun
  | [d1, d2] => { results := [.lit (.bool false)], args := [d1, d2] }
  | _ => none }
def OrderMayWrongFalsely : Prop := orderMayRow.holds Try.pinned (OpenSpec.ofChange orderMayWrong)

/-- 'locklesslaw02.OrderPartial': WHATEVER THE INPUT: true; the input reads as it did. -/
def orderPartialSpec : ChangeSpec := { name := "orderPartial", fn := fun _ => fun
  | [d1, d2, d3] => { results := [.lit (.bool true)], args := [d1, d2, d3] }
  | _ => none }
def orderPartialRow : OpenClaim := { program := "ytjiblcngjfbcmaa", sum := "dcf169226d3d34f32dd673841d9e13d42d3c6b1511ef6b7a37be066882b85c9b", func := "lockless/locklesslaw02.OrderPartial", spec := "orderPartial", apart := false }
def OrderPartialSaid : Prop := orderPartialRow.holds Try.pinned (OpenSpec.ofChange orderPartialSpec)

/-- ITS FALSE NEIGHBOUR: 'it returns false'. Refute it at one input. -/
def orderPartialWrong : ChangeSpec := { name := "orderPartial", fn := fun _ => fun
  | [d1, d2, d3] => { results := [.lit (.bool false)], args := [d1, d2, d3] }
  | _ => none }
def OrderPartialWrongFalsely : Prop := orderPartialRow.holds Try.pinned (OpenSpec.ofChange orderPartialWrong)

/-- 'locklesslaw02.OrderSides': WHATEVER THE INPUT: true; the input reads as it did. -/
def orderSidesSpec : ChangeSpec := { name := "orderSides", fn := fun _ => fun
  | [d] => { results := [.lit (.bool true)], args := [d] }
  | _ => none }
def orderSidesRow : OpenClaim := { program := "ytjiblcngjfbcmaa", sum := "dcf169226d3d34f32dd673841d9e13d42d3c6b1511ef6b7a37be066882b85c9b", func := "lockless/locklesslaw02.OrderSides", spec := "orderSides", apart := false }
def OrderSidesSaid : Prop := orderSidesRow.holds Try.pinned (OpenSpec.ofChange orderSidesSpec)

/-- ITS FALSE NEIGHBOUR: 'it returns false'. Refute it at one input. -/
def orderSidesWrong : ChangeSpec := { name := "orderSides", fn := fun _ => fun
  | [d] => { results := [.lit (.bool false)], args := [d] }
  | _ => none }
def OrderSidesWrongFalsely : Prop := orderSidesRow.holds Try.pinned (OpenSpec.ofChange orderSidesWrong)

/-- 'locklesslaw02.OrderCompares': WHATEVER THE INPUT: true; the input reads as it did. -/
def orderComparesSpec : ChangeSpec := { name := "orderCompares", fn := fun _ => fun
  | [d1, d2] => { results := [.lit (.bool true)], args := [d1, d2] }
  | _ => none }
def orderComparesRow : OpenClaim := { program := "ytjiblcngjfbcmaa", sum := "dcf169226d3d34f32dd673841d9e13d42d3c6b1511ef6b7a37be066882b85c9b", func := "lockless/locklesslaw02.OrderCompares", spec := "orderCompares", apart := false }
def OrderComparesSaid : Prop := orderComparesRow.holds Try.pinned (OpenSpec.ofChange orderComparesSpec)

/-- ITS FALSE NEIGHBOUR: 'it returns false'. Refute it at one input. -/
def orderComparesWrong : ChangeSpec := { name := "orderCompares", fn := fun _ => fun
  | [d1, d2] => { results := [.lit (.bool false)], args := [d1, d2] }
  | _ => none }
def OrderComparesWrongFalsely : Prop := orderComparesRow.holds Try.pinned (OpenSpec.ofChange orderComparesWrong)

/-- 'locklesslaw02.OrderBounds': WHATEVER THE INPUT: true; the input reads as it did. -/
def orderBoundsSpec : ChangeSpec := { name := "orderBounds", fn := fun _ => fun
  | [d1, d2, d3] => { results := [.lit (.bool true)], args := [d1, d2, d3] }
  | _ => none }
def orderBoundsRow : OpenClaim := { program := "ytjiblcngjfbcmaa", sum := "dcf169226d3d34f32dd673841d9e13d42d3c6b1511ef6b7a37be066882b85c9b", func := "lockless/locklesslaw02.OrderBounds", spec := "orderBounds", apart := false }
def OrderBoundsSaid : Prop := orderBoundsRow.holds Try.pinned (OpenSpec.ofChange orderBoundsSpec)

/-- ITS FALSE NEIGHBOUR: 'it returns false'. Refute it at one input. -/
def orderBoundsWrong : ChangeSpec := { name := "orderBounds", fn := fun _ => fun
  | [d1, d2, d3] => { results := [.lit (.bool false)], args := [d1, d2, d3] }
  | _ => none }
def OrderBoundsWrongFalsely : Prop := orderBoundsRow.holds Try.pinned (OpenSpec.ofChange orderBoundsWrong)

/-- 'locklesslaw02.OrderNames': WHATEVER THE INPUT: true; the input reads as it did. -/
def orderNamesSpec : ChangeSpec := { name := "orderNames", fn := fun _ => fun
  | [d1, d2] => { results := [.lit (.bool true)], args := [d1, d2] }
  | _ => none }
def orderNamesRow : OpenClaim := { program := "ytjiblcngjfbcmaa", sum := "dcf169226d3d34f32dd673841d9e13d42d3c6b1511ef6b7a37be066882b85c9b", func := "lockless/locklesslaw02.OrderNames", spec := "orderNames", apart := false }
def OrderNamesSaid : Prop := orderNamesRow.holds Try.pinned (OpenSpec.ofChange orderNamesSpec)

/-- ITS FALSE NEIGHBOUR: 'it returns false'. Refute it at one input. -/
def orderNamesWrong : ChangeSpec := { name := "orderNames", fn := fun _ => fun
  | [d1, d2] => { results := [.lit (.bool false)], args := [d1, d2] }
  | _ => none }
def OrderNamesWrongFalsely : Prop := orderNamesRow.holds Try.pinned (OpenSpec.ofChange orderNamesWrong)

/-- 'locklesslaw02.OrderSteps': WHATEVER THE INPUT: true; the input reads as it did. -/
def orderStepsSpec : ChangeSpec := { name := "orderSteps", fn := fun _ => fun
  | [d1, d2, d3] => { results := [.lit (.bool true)], args := [d1, d2, d3] }
  | _ => none }
def orderStepsRow : OpenClaim := { program := "ytjiblcngjfbcmaa", sum := "dcf169226d3d34f32dd673841d9e13d42d3c6b1511ef6b7a37be066882b85c9b", func := "lockless/locklesslaw02.OrderSteps", spec := "orderSteps", apart := false }
def OrderStepsSaid : Prop := orderStepsRow.holds Try.pinned (OpenSpec.ofChange orderStepsSpec)

/-- ITS FALSE NEIGHBOUR: 'it returns false'. Refute it at one input. -/
def orderStepsWrong : ChangeSpec := { name := "orderSteps", fn := fun _ => fun
  | [d1, d2, d3] => { results := [.lit (.bool false)], args := [d1, d2, d3] }
  | _ => none }
def OrderStepsWrongFalsely : Prop := orderStepsRow.holds Try.pinned (OpenSpec.ofChange orderStepsWrong)

/-- 'locklesslaw02.OrderPlains': WHATEVER THE INPUT: true; the input reads as it did. -/
def orderPlainsSpec : ChangeSpec := { name := "orderPlains", fn := fun _ => fun
  | [d1, d2] => { results := [.lit (.bool true)], args := [d1, d2] }
  | _ => none }
def orderPlainsRow : OpenClaim := { program := "ytjiblcngjfbcmaa", sum := "dcf169226d3d34f32dd673841d9e13d42d3c6b1511ef6b7a37be066882b85c9b", func := "lockless/locklesslaw02.OrderPlains", spec := "orderPlains", apart := false }
def OrderPlainsSaid : Prop := orderPlainsRow.holds Try.pinned (OpenSpec.ofChange orderPlainsSpec)

/-- ITS FALSE NEIGHBOUR: 'it returns false'. Refute it at one input. -/
def orderPlainsWrong : ChangeSpec := { name := "orderPlains", fn := fun _ => fun
  | [d1, d2] => { results := [.lit (.bool false)], args := [d1, d2] }
  | _ => none }
def OrderPlainsWrongFalsely : Prop := orderPlainsRow.holds Try.pinned (OpenSpec.ofChange orderPlainsWrong)

/-- 'locklesslaw02.OrderWeaker': WHATEVER THE INPUT: true; the input reads as it did. -/
def orderWeakerSpec : ChangeSpec := { name := "orderWeaker", fn := fun _ => fun
  | [d1, d2] => { results := [.lit (.bool true)], args := [d1, d2] }
  | _ => none }
def orderWeakerRow : OpenClaim := { program := "ytjiblcngjfbcmaa", sum := "dcf169226d3d34f32dd673841d9e13d42d3c6b1511ef6b7a37be066882b85c9b", func := "lockless/locklesslaw02.OrderWeaker", spec := "orderWeaker", apart := false }
def OrderWeakerSaid : Prop := orderWeakerRow.holds Try.pinned (OpenSpec.ofChange orderWeakerSpec)

/-- ITS FALSE NEIGHBOUR: 'it returns false'. Refute it at one input. -/
def orderWeakerWrong : ChangeSpec := { name := "orderWeaker", fn := fun _ => fun
  | [d1, d2] => { results := [.lit (.bool false)], args := [d1, d2] }
  | _ => none }
def OrderWeakerWrongFalsely : Prop := orderWeakerRow.holds Try.pinned (OpenSpec.ofChange orderWeakerWrong)

/- THE SECOND FORM. 'bulk': how many values and letters a reading holds, each counted each time it is reached (what is shared counts as often as it is met; a slice's spare places count too). A statement '..UptoSaid' is the law's where the arguments, and the package variables that the reading takes, are together of bulk at most 1048576: NARROWER than '..Said'. Prove '..Said' where nothing that the law and all that it calls make is longer than what came in: it says more and counts as full. Else prove '..UptoSaid'. A law counts once. -/
mutual
def uptoBulk {H : Type} : DataW H → Nat
  | .lit (.string bytes) => bytes.length + 1
  | .lit _ => 1
  | .nil => 1
  | .ptr d => uptoBulk d + 1
  | .slice elems spare => uptoBulkAll elems + uptoBulkAll spare + 1
  | .agg parts => uptoBulkAll parts + 1
  | .iface _ d => uptoBulk d + 1
  | .map entries => uptoBulkEntries entries + 1
  | .held _ => 1
def uptoBulkAll {H : Type} : List (DataW H) → Nat
  | [] => 0
  | d :: r => uptoBulk d + uptoBulkAll r
def uptoBulkEntries {H : Type} : List (Lit × DataW H) → Nat
  | [] => 0
  | x :: r => uptoBulkEntry x + uptoBulkEntries r
def uptoBulkEntry {H : Type} : Lit × DataW H → Nat
  | (.string bytes, d) => bytes.length + uptoBulk d + 1
  | (_, d) => uptoBulk d + 1
 end
def uptoSmall : (H : Type) → List (DataW H) → Bool := fun _ ds => decide (uptoBulkAll ds ≤ 1048576)
def OpenSpec.upto (s : _root_.Go.ChangeSpec) : _root_.Go.OpenSpec := { _root_.Go.OpenSpec.ofChange s with cond := some uptoSmall }

/-- 'locklesslaw02.OrderMay', WHERE WHAT IT READS IS OF BULK AT MOST 1048576: true; the input reads as it did. -/
def orderMayUptoRow : OpenClaim := { program := "ytjiblcngjfbcmaa", sum := "dcf169226d3d34f32dd673841d9e13d42d3c6b1511ef6b7a37be066882b85c9b", func := "lockless/locklesslaw02.OrderMay", spec := "orderMay", apart := false, narrowed := true }
def OrderMayUptoSaid : Prop := orderMayUptoRow.holds Try.pinned (OpenSpec.upto orderMaySpec)

/-- 'locklesslaw02.OrderPartial', WHERE WHAT IT READS IS OF BULK AT MOST 1048576: true; the input reads as it did. -/
def orderPartialUptoRow : OpenClaim := { program := "ytjiblcngjfbcmaa", sum := "dcf169226d3d34f32dd673841d9e13d42d3c6b1511ef6b7a37be066882b85c9b", func := "lockless/locklesslaw02.OrderPartial", spec := "orderPartial", apart := false, narrowed := true }
def OrderPartialUptoSaid : Prop := orderPartialUptoRow.holds Try.pinned (OpenSpec.upto orderPartialSpec)

/-- 'locklesslaw02.OrderSides', WHERE WHAT IT READS IS OF BULK AT MOST 1048576: true; the input reads as it did. -/
def orderSidesUptoRow : OpenClaim := { program := "ytjiblcngjfbcmaa", sum := "dcf169226d3d34f32dd673841d9e13d42d3c6b1511ef6b7a37be066882b85c9b", func := "lockless/locklesslaw02.OrderSides", spec := "orderSides", apart := false, narrowed := true }
def OrderSidesUptoSaid : Prop := orderSidesUptoRow.holds Try.pinned (OpenSpec.upto orderSidesSpec)

/-- 'locklesslaw02.OrderCompares', WHERE WHAT IT READS IS OF BULK AT MOST 1048576: true; the input reads as it did. -/
def orderComparesUptoRow : OpenClaim := { program := "ytjiblcngjfbcmaa", sum := "dcf169226d3d34f32dd673841d9e13d42d3c6b1511ef6b7a37be066882b85c9b", func := "lockless/locklesslaw02.OrderCompares", spec := "orderCompares", apart := false, narrowed := true }
def OrderComparesUptoSaid : Prop := orderComparesUptoRow.holds Try.pinned (OpenSpec.upto orderComparesSpec)

/-- 'locklesslaw02.OrderBounds', WHERE WHAT IT READS IS OF BULK AT MOST 1048576: true; the input reads as it did. -/
def orderBoundsUptoRow : OpenClaim := { program := "ytjiblcngjfbcmaa", sum := "dcf169226d3d34f32dd673841d9e13d42d3c6b1511ef6b7a37be066882b85c9b", func := "lockless/locklesslaw02.OrderBounds", spec := "orderBounds", apart := false, narrowed := true }
def OrderBoundsUptoSaid : Prop := orderBoundsUptoRow.holds Try.pinned (OpenSpec.upto orderBoundsSpec)

/-- 'locklesslaw02.OrderNames', WHERE WHAT IT READS IS OF BULK AT MOST 1048576: true; the input reads as it did. -/
def orderNamesUptoRow : OpenClaim := { program := "ytjiblcngjfbcmaa", sum := "dcf169226d3d34f32dd673841d9e13d42d3c6b1511ef6b7a37be066882b85c9b", func := "lockless/locklesslaw02.OrderNames", spec := "orderNames", apart := false, narrowed := true }
def OrderNamesUptoSaid : Prop := orderNamesUptoRow.holds Try.pinned (OpenSpec.upto orderNamesSpec)

/-- 'locklesslaw02.OrderSteps', WHERE WHAT IT READS IS OF BULK AT MOST 1048576: true; the input reads as it did. -/
def orderStepsUptoRow : OpenClaim := { program := "ytjiblcngjfbcmaa", sum := "dcf169226d3d34f32dd673841d9e13d42d3c6b1511ef6b7a37be066882b85c9b", func := "lockless/locklesslaw02.OrderSteps", spec := "orderSteps", apart := false, narrowed := true }
def OrderStepsUptoSaid : Prop := orderStepsUptoRow.holds Try.pinned (OpenSpec.upto orderStepsSpec)

/-- 'locklesslaw02.OrderPlains', WHERE WHAT IT READS IS OF BULK AT MOST 1048576: true; the input reads as it did. -/
def orderPlainsUptoRow : OpenClaim := { program := "ytjiblcngjfbcmaa", sum := "dcf169226d3d34f32dd673841d9e13d42d3c6b1511ef6b7a37be066882b85c9b", func := "lockless/locklesslaw02.OrderPlains", spec := "orderPlains", apart := false, narrowed := true }
def OrderPlainsUptoSaid : Prop := orderPlainsUptoRow.holds Try.pinned (OpenSpec.upto orderPlainsSpec)

/-- 'locklesslaw02.OrderWeaker', WHERE WHAT IT READS IS OF BULK AT MOST 1048576: true; the input reads as it did. -/
def orderWeakerUptoRow : OpenClaim := { program := "ytjiblcngjfbcmaa", sum := "dcf169226d3d34f32dd673841d9e13d42d3c6b1511ef6b7a37be066882b85c9b", func := "lockless/locklesslaw02.OrderWeaker", spec := "orderWeaker", apart := false, narrowed := true }
def OrderWeakerUptoSaid : Prop := orderWeakerUptoRow.holds Try.pinned (OpenSpec.upto orderWeakerSpec)

end Rows
end Go.Proofs.Ytjiblcngjfbcmaa
