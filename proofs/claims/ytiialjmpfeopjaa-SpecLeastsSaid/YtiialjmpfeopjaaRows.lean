/-
  No cell of these rows narrows 'for every input' (looked for: loops, veiled, ifaces, maps, wideKeys, modest, calm, conditions, laid).
  DERIVED. THE GIVEN ROWS OF THIS SEAT. 12 by the template 'for every input the law returns true; each argument reads behind the call as it read before'; 0 by the template 'total and deterministic' (their statements: YtiialjmpfeopjaaTotals.lean).
  GIVEN WITH THE SEED: the statements are not yours to turn. If you find one false, say at which input.
  Laid BY PROGRAM, IN A SANDBOX (cutbox-rows.mjs): the forced cells as the released guide's own fill.sh prints them over the translation 5481b78660c999f6… (all of the seat's roots in one cut). By AI agents, Wed Nov 11 2026. No macro, syntax, notation, axiom, sorry.
-/
import Derived.Test.YtiialjmpfeopjaaChecked
import GoSem.Claim
import GoSem.ClaimJoined
import GoSem.ClaimMapViews
import Derived.JoinedTies
import Derived.KernelRfl
namespace Go.Proofs.Ytiialjmpfeopjaa
/- THE CELL 'sum', in the pinned program and in every row, IS THE sha256 OF THE DUMP (.gsa) THAT YtiialjmpfeopjaaProg.lean LOADS. Nothing in Lean hashes anything: it is a label: what it is worth is what the hold of that sum in a sandbox is worth. -/
noncomputable def Try.pinned : Pinned := { name := "ytiialjmpfeopjaa", sum := "5481b78660c999f67906493b78ffec03a2315fbc89fecb4eabfe6d827bccf4e5", checked := Try.checked }
namespace Rows
def none {H : Type} : Left H := { results := [], args := [] }

/-- 'locklesslaw18.SpecStacks': WHATEVER THE INPUT: true; the input reads as it did. -/
def specStacksSpec : ChangeSpec := { name := "specStacks", fn := fun _ => fun
  | [d] => { results := [.lit (.bool true)], args := [d] }
  | _ => none }
def specStacksRow : OpenClaim := { program := "ytiialjmpfeopjaa", sum := "5481b78660c999f67906493b78ffec03a2315fbc89fecb4eabfe6d827bccf4e5", func := "lockless/locklesslaw18.SpecStacks", spec := "specStacks", inPlace := ["slices.overlaps[int]"], unfollowed := true, recurses := true, apart := false }
def SpecStacksSaid : Prop := specStacksRow.holds Try.pinned (OpenSpec.ofChange specStacksSpec)

/-- ITS FALSE NEIGHBOUR: 'it returns false'. Refute it at one input. -/
def specStacksWrong : ChangeSpec := { name := "specStacks", fn := fun _ => fun
  | [d] => { results := [.lit (.bool false)], args := [d] }
  | _ => none }
def SpecStacksWrongFalsely : Prop := specStacksRow.holds Try.pinned (OpenSpec.ofChange specStacksWrong)

/-- 'locklesslaw18.SpecRings': WHATEVER THE INPUT: true; the input reads as it did. -/
def specRingsSpec : ChangeSpec := { name := "specRings", fn := fun _ => fun
  | [d1, d2, d3] => { results := [.lit (.bool true)], args := [d1, d2, d3] }
  | _ => none }
def specRingsRow : OpenClaim := { program := "ytiialjmpfeopjaa", sum := "5481b78660c999f67906493b78ffec03a2315fbc89fecb4eabfe6d827bccf4e5", func := "lockless/locklesslaw18.SpecRings", spec := "specRings", inPlace := ["slices.overlaps[int]"], unfollowed := true, recurses := true, apart := false }
def SpecRingsSaid : Prop := specRingsRow.holds Try.pinned (OpenSpec.ofChange specRingsSpec)

/-- ITS FALSE NEIGHBOUR: 'it returns false'. Refute it at one input. -/
def specRingsWrong : ChangeSpec := { name := "specRings", fn := fun _ => fun
  | [d1, d2, d3] => { results := [.lit (.bool false)], args := [d1, d2, d3] }
  | _ => none }
def SpecRingsWrongFalsely : Prop := specRingsRow.holds Try.pinned (OpenSpec.ofChange specRingsWrong)

/-- 'locklesslaw18.SpecDeques': WHATEVER THE INPUT: true; the input reads as it did. -/
def specDequesSpec : ChangeSpec := { name := "specDeques", fn := fun _ => fun
  | [d1, d2] => { results := [.lit (.bool true)], args := [d1, d2] }
  | _ => none }
def specDequesRow : OpenClaim := { program := "ytiialjmpfeopjaa", sum := "5481b78660c999f67906493b78ffec03a2315fbc89fecb4eabfe6d827bccf4e5", func := "lockless/locklesslaw18.SpecDeques", spec := "specDeques", inPlace := ["slices.overlaps[int]"], unfollowed := true, recurses := true, apart := false }
def SpecDequesSaid : Prop := specDequesRow.holds Try.pinned (OpenSpec.ofChange specDequesSpec)

/-- ITS FALSE NEIGHBOUR: 'it returns false'. Refute it at one input. -/
def specDequesWrong : ChangeSpec := { name := "specDeques", fn := fun _ => fun
  | [d1, d2] => { results := [.lit (.bool false)], args := [d1, d2] }
  | _ => none }
def SpecDequesWrongFalsely : Prop := specDequesRow.holds Try.pinned (OpenSpec.ofChange specDequesWrong)

/-- 'locklesslaw18.SpecSets': WHATEVER THE INPUT: true; the input reads as it did. -/
def specSetsSpec : ChangeSpec := { name := "specSets", fn := fun _ => fun
  | [d] => { results := [.lit (.bool true)], args := [d] }
  | _ => none }
def specSetsRow : OpenClaim := { program := "ytiialjmpfeopjaa", sum := "5481b78660c999f67906493b78ffec03a2315fbc89fecb4eabfe6d827bccf4e5", func := "lockless/locklesslaw18.SpecSets", spec := "specSets", inPlace := ["slices.overlaps[int]"], unfollowed := true, recurses := true, apart := false }
def SpecSetsSaid : Prop := specSetsRow.holds Try.pinned (OpenSpec.ofChange specSetsSpec)

/-- ITS FALSE NEIGHBOUR: 'it returns false'. Refute it at one input. -/
def specSetsWrong : ChangeSpec := { name := "specSets", fn := fun _ => fun
  | [d] => { results := [.lit (.bool false)], args := [d] }
  | _ => none }
def SpecSetsWrongFalsely : Prop := specSetsRow.holds Try.pinned (OpenSpec.ofChange specSetsWrong)

/-- 'locklesslaw18.SpecUnions': WHATEVER THE INPUT: true; the input reads as it did. -/
def specUnionsSpec : ChangeSpec := { name := "specUnions", fn := fun _ => fun
  | [d1, d2, d3] => { results := [.lit (.bool true)], args := [d1, d2, d3] }
  | _ => none }
def specUnionsRow : OpenClaim := { program := "ytiialjmpfeopjaa", sum := "5481b78660c999f67906493b78ffec03a2315fbc89fecb4eabfe6d827bccf4e5", func := "lockless/locklesslaw18.SpecUnions", spec := "specUnions", inPlace := ["slices.overlaps[int]"], unfollowed := true, recurses := true, apart := false }
def SpecUnionsSaid : Prop := specUnionsRow.holds Try.pinned (OpenSpec.ofChange specUnionsSpec)

/-- ITS FALSE NEIGHBOUR: 'it returns false'. Refute it at one input. -/
def specUnionsWrong : ChangeSpec := { name := "specUnions", fn := fun _ => fun
  | [d1, d2, d3] => { results := [.lit (.bool false)], args := [d1, d2, d3] }
  | _ => none }
def SpecUnionsWrongFalsely : Prop := specUnionsRow.holds Try.pinned (OpenSpec.ofChange specUnionsWrong)

/-- 'locklesslaw18.SpecPairs': WHATEVER THE INPUT: true; the input reads as it did. -/
def specPairsSpec : ChangeSpec := { name := "specPairs", fn := fun _ => fun
  | [d] => { results := [.lit (.bool true)], args := [d] }
  | _ => none }
def specPairsRow : OpenClaim := { program := "ytiialjmpfeopjaa", sum := "5481b78660c999f67906493b78ffec03a2315fbc89fecb4eabfe6d827bccf4e5", func := "lockless/locklesslaw18.SpecPairs", spec := "specPairs", inPlace := ["slices.overlaps[int]"], unfollowed := true, recurses := true, apart := false }
def SpecPairsSaid : Prop := specPairsRow.holds Try.pinned (OpenSpec.ofChange specPairsSpec)

/-- ITS FALSE NEIGHBOUR: 'it returns false'. Refute it at one input. -/
def specPairsWrong : ChangeSpec := { name := "specPairs", fn := fun _ => fun
  | [d] => { results := [.lit (.bool false)], args := [d] }
  | _ => none }
def SpecPairsWrongFalsely : Prop := specPairsRow.holds Try.pinned (OpenSpec.ofChange specPairsWrong)

/-- 'locklesslaw18.SpecSums': WHATEVER THE INPUT: true; the input reads as it did. -/
def specSumsSpec : ChangeSpec := { name := "specSums", fn := fun _ => fun
  | [d] => { results := [.lit (.bool true)], args := [d] }
  | _ => none }
def specSumsRow : OpenClaim := { program := "ytiialjmpfeopjaa", sum := "5481b78660c999f67906493b78ffec03a2315fbc89fecb4eabfe6d827bccf4e5", func := "lockless/locklesslaw18.SpecSums", spec := "specSums", inPlace := ["slices.overlaps[int]"], unfollowed := true, recurses := true, apart := false }
def SpecSumsSaid : Prop := specSumsRow.holds Try.pinned (OpenSpec.ofChange specSumsSpec)

/-- ITS FALSE NEIGHBOUR: 'it returns false'. Refute it at one input. -/
def specSumsWrong : ChangeSpec := { name := "specSums", fn := fun _ => fun
  | [d] => { results := [.lit (.bool false)], args := [d] }
  | _ => none }
def SpecSumsWrongFalsely : Prop := specSumsRow.holds Try.pinned (OpenSpec.ofChange specSumsWrong)

/-- 'locklesslaw18.SpecWides': WHATEVER THE INPUT: true; the input reads as it did. -/
def specWidesSpec : ChangeSpec := { name := "specWides", fn := fun _ => fun
  | [d] => { results := [.lit (.bool true)], args := [d] }
  | _ => none }
def specWidesRow : OpenClaim := { program := "ytiialjmpfeopjaa", sum := "5481b78660c999f67906493b78ffec03a2315fbc89fecb4eabfe6d827bccf4e5", func := "lockless/locklesslaw18.SpecWides", spec := "specWides", inPlace := ["slices.overlaps[int]"], unfollowed := true, recurses := true, apart := false }
def SpecWidesSaid : Prop := specWidesRow.holds Try.pinned (OpenSpec.ofChange specWidesSpec)

/-- ITS FALSE NEIGHBOUR: 'it returns false'. Refute it at one input. -/
def specWidesWrong : ChangeSpec := { name := "specWides", fn := fun _ => fun
  | [d] => { results := [.lit (.bool false)], args := [d] }
  | _ => none }
def SpecWidesWrongFalsely : Prop := specWidesRow.holds Try.pinned (OpenSpec.ofChange specWidesWrong)

/-- 'locklesslaw18.SpecStarts': WHATEVER THE INPUT: true; the input reads as it did. -/
def specStartsSpec : ChangeSpec := { name := "specStarts", fn := fun _ => fun
  | [d1, d2] => { results := [.lit (.bool true)], args := [d1, d2] }
  | _ => none }
def specStartsRow : OpenClaim := { program := "ytiialjmpfeopjaa", sum := "5481b78660c999f67906493b78ffec03a2315fbc89fecb4eabfe6d827bccf4e5", func := "lockless/locklesslaw18.SpecStarts", spec := "specStarts", inPlace := ["slices.overlaps[int]"], unfollowed := true, recurses := true, apart := false }
def SpecStartsSaid : Prop := specStartsRow.holds Try.pinned (OpenSpec.ofChange specStartsSpec)

/-- ITS FALSE NEIGHBOUR: 'it returns false'. Refute it at one input. -/
def specStartsWrong : ChangeSpec := { name := "specStarts", fn := fun _ => fun
  | [d1, d2] => { results := [.lit (.bool false)], args := [d1, d2] }
  | _ => none }
def SpecStartsWrongFalsely : Prop := specStartsRow.holds Try.pinned (OpenSpec.ofChange specStartsWrong)

/-- 'locklesslaw18.SpecTwins': WHATEVER THE INPUT: true; the input reads as it did. -/
def specTwinsSpec : ChangeSpec := { name := "specTwins", fn := fun _ => fun
  | [d] => { results := [.lit (.bool true)], args := [d] }
  | _ => none }
def specTwinsRow : OpenClaim := { program := "ytiialjmpfeopjaa", sum := "5481b78660c999f67906493b78ffec03a2315fbc89fecb4eabfe6d827bccf4e5", func := "lockless/locklesslaw18.SpecTwins", spec := "specTwins", inPlace := ["slices.overlaps[int]"], unfollowed := true, recurses := true, apart := false }
def SpecTwinsSaid : Prop := specTwinsRow.holds Try.pinned (OpenSpec.ofChange specTwinsSpec)

/-- ITS FALSE NEIGHBOUR: 'it returns false'. Refute it at one input. -/
def specTwinsWrong : ChangeSpec := { name := "specTwins", fn := fun _ => fun
  | [d] => { results := [.lit (.bool false)], args := [d] }
  | _ => none }
def SpecTwinsWrongFalsely : Prop := specTwinsRow.holds Try.pinned (OpenSpec.ofChange specTwinsWrong)

/-- 'locklesslaw18.SpecLeasts': WHATEVER THE INPUT: true; the input reads as it did. -/
def specLeastsSpec : ChangeSpec := { name := "specLeasts", fn := fun _ => fun
  | [d1, d2] => { results := [.lit (.bool true)], args := [d1, d2] }
  | _ => none }
def specLeastsRow : OpenClaim := { program := "ytiialjmpfeopjaa", sum := "5481b78660c999f67906493b78ffec03a2315fbc89fecb4eabfe6d827bccf4e5", func := "lockless/locklesslaw18.SpecLeasts", spec := "specLeasts", inPlace := ["slices.overlaps[int]"], unfollowed := true, recurses := true, apart := false }
def SpecLeastsSaid : Prop := specLeastsRow.holds Try.pinned (OpenSpec.ofChange specLeastsSpec)

/-- ITS FALSE NEIGHBOUR: 'it returns false'. Refute it at one input. -/
def specLeastsWrong : ChangeSpec := { name := "specLeasts", fn := fun _ => fun
  | [d1, d2] => { results := [.lit (.bool false)], args := [d1, d2] }
  | _ => none }
def SpecLeastsWrongFalsely : Prop := specLeastsRow.holds Try.pinned (OpenSpec.ofChange specLeastsWrong)

/-- 'locklesslaw18.SpecTickets': WHATEVER THE INPUT: true; the input reads as it did. -/
def specTicketsSpec : ChangeSpec := { name := "specTickets", fn := fun _ => fun
  | [d] => { results := [.lit (.bool true)], args := [d] }
  | _ => none }
def specTicketsRow : OpenClaim := { program := "ytiialjmpfeopjaa", sum := "5481b78660c999f67906493b78ffec03a2315fbc89fecb4eabfe6d827bccf4e5", func := "lockless/locklesslaw18.SpecTickets", spec := "specTickets", inPlace := ["slices.overlaps[int]"], unfollowed := true, recurses := true, apart := false }
def SpecTicketsSaid : Prop := specTicketsRow.holds Try.pinned (OpenSpec.ofChange specTicketsSpec)

/-- ITS FALSE NEIGHBOUR: 'it returns false'. Refute it at one input. -/
def specTicketsWrong : ChangeSpec := { name := "specTickets", fn := fun _ => fun
  | [d] => { results := [.lit (.bool false)], args := [d] }
  | _ => none }
def SpecTicketsWrongFalsely : Prop := specTicketsRow.holds Try.pinned (OpenSpec.ofChange specTicketsWrong)

/- THE SECOND FORM. 'bulk': how many values and letters a reading holds, each counted each time it is reached (what is shared counts as often as it is met; a slice's spare places count too). A statement '..UptoSaid' is the law's where the arguments, and the package variables that the reading takes, are together of bulk at most 1048576: NARROWER than '..Said'. Prove '..Said' where nothing that the law and all that it calls make is longer than what came in: it says more and counts as full. Else prove '..UptoSaid'. A law counts once. -/
mutual
def uptoBulk {H : Type} : DataW H → Nat
  | .lit (.string bytes) => bytes.length + 1
  | .lit _ => 1
  | .nil => 1
  | .ptr d => uptoBulk d + 1
  | .slice elems spare => uptoBulkAll elems + uptoBulkAll spare + 1
  | .agg parts => uptoBulkAll parts + 1
  | .iface _ d => uptoBulk d + 1
  | .map entries => uptoBulkEntries entries + 1
  | .held _ => 1
def uptoBulkAll {H : Type} : List (DataW H) → Nat
  | [] => 0
  | d :: r => uptoBulk d + uptoBulkAll r
def uptoBulkEntries {H : Type} : List (Lit × DataW H) → Nat
  | [] => 0
  | x :: r => uptoBulkEntry x + uptoBulkEntries r
def uptoBulkEntry {H : Type} : Lit × DataW H → Nat
  | (.string bytes, d) => bytes.length + uptoBulk d + 1
  | (_, d) => uptoBulk d + 1
 end
def uptoSmall : (H : Type) → List (DataW H) → Bool := fun _ ds => decide (uptoBulkAll ds ≤ 1048576)
def OpenSpec.upto (s : _root_.Go.ChangeSpec) : _root_.Go.OpenSpec := { _root_.Go.OpenSpec.ofChange s with cond := some uptoSmall }

/-- 'locklesslaw18.SpecStacks', WHERE WHAT IT READS IS OF BULK AT MOST 1048576: true; the input reads as it did. -/
def specStacksUptoRow : OpenClaim := { program := "ytiialjmpfeopjaa", sum := "5481b78660c999f67906493b78ffec03a2315fbc89fecb4eabfe6d827bccf4e5", func := "lockless/locklesslaw18.SpecStacks", spec := "specStacks", inPlace := ["slices.overlaps[int]"], unfollowed := true, recurses := true, apart := false, narrowed := true }
def SpecStacksUptoSaid : Prop := specStacksUptoRow.holds Try.pinned (OpenSpec.upto specStacksSpec)

/-- 'locklesslaw18.SpecRings', WHERE WHAT IT READS IS OF BULK AT MOST 1048576: true; the input reads as it did. -/
def specRingsUptoRow : OpenClaim := { program := "ytiialjmpfeopjaa", sum := "5481b78660c999f67906493b78ffec03a2315fbc89fecb4eabfe6d827bccf4e5", func := "lockless/locklesslaw18.SpecRings", spec := "specRings", inPlace := ["slices.overlaps[int]"], unfollowed := true, recurses := true, apart := false, narrowed := true }
def SpecRingsUptoSaid : Prop := specRingsUptoRow.holds Try.pinned (OpenSpec.upto specRingsSpec)

/-- 'locklesslaw18.SpecDeques', WHERE WHAT IT READS IS OF BULK AT MOST 1048576: true; the input reads as it did. -/
def specDequesUptoRow : OpenClaim := { program := "ytiialjmpfeopjaa", sum := "5481b78660c999f67906493b78ffec03a2315fbc89fecb4eabfe6d827bccf4e5", func := "lockless/locklesslaw18.SpecDeques", spec := "specDeques", inPlace := ["slices.overlaps[int]"], unfollowed := true, recurses := true, apart := false, narrowed := true }
def SpecDequesUptoSaid : Prop := specDequesUptoRow.holds Try.pinned (OpenSpec.upto specDequesSpec)

/-- 'locklesslaw18.SpecSets', WHERE WHAT IT READS IS OF BULK AT MOST 1048576: true; the input reads as it did. -/
def specSetsUptoRow : OpenClaim := { program := "ytiialjmpfeopjaa", sum := "5481b78660c999f67906493b78ffec03a2315fbc89fecb4eabfe6d827bccf4e5", func := "lockless/locklesslaw18.SpecSets", spec := "specSets", inPlace := ["slices.overlaps[int]"], unfollowed := true, recurses := true, apart := false, narrowed := true }
def SpecSetsUptoSaid : Prop := specSetsUptoRow.holds Try.pinned (OpenSpec.upto specSetsSpec)

/-- 'locklesslaw18.SpecUnions', WHERE WHAT IT READS IS OF BULK AT MOST 1048576: true; the input reads as it did. -/
def specUnionsUptoRow : OpenClaim := { program := "ytiialjmpfeopjaa", sum := "5481b78660c999f67906493b78ffec03a2315fbc89fecb4eabfe6d827bccf4e5", func := "lockless/locklesslaw18.SpecUnions", spec := "specUnions", inPlace := ["slices.overlaps[int]"], unfollowed := true, recurses := true, apart := false, narrowed := true }
def SpecUnionsUptoSaid : Prop := specUnionsUptoRow.holds Try.pinned (OpenSpec.upto specUnionsSpec)

/-- 'locklesslaw18.SpecPairs', WHERE WHAT IT READS IS OF BULK AT MOST 1048576: true; the input reads as it did. -/
def specPairsUptoRow : OpenClaim := { program := "ytiialjmpfeopjaa", sum := "5481b78660c999f67906493b78ffec03a2315fbc89fecb4eabfe6d827bccf4e5", func := "lockless/locklesslaw18.SpecPairs", spec := "specPairs", inPlace := ["slices.overlaps[int]"], unfollowed := true, recurses := true, apart := false, narrowed := true }
def SpecPairsUptoSaid : Prop := specPairsUptoRow.holds Try.pinned (OpenSpec.upto specPairsSpec)

/-- 'locklesslaw18.SpecSums', WHERE WHAT IT READS IS OF BULK AT MOST 1048576: true; the input reads as it did. -/
def specSumsUptoRow : OpenClaim := { program := "ytiialjmpfeopjaa", sum := "5481b78660c999f67906493b78ffec03a2315fbc89fecb4eabfe6d827bccf4e5", func := "lockless/locklesslaw18.SpecSums", spec := "specSums", inPlace := ["slices.overlaps[int]"], unfollowed := true, recurses := true, apart := false, narrowed := true }
def SpecSumsUptoSaid : Prop := specSumsUptoRow.holds Try.pinned (OpenSpec.upto specSumsSpec)

/-- 'locklesslaw18.SpecWides', WHERE WHAT IT READS IS OF BULK AT MOST 1048576: true; the input reads as it did. -/
def specWidesUptoRow : OpenClaim := { program := "ytiialjmpfeopjaa", sum := "5481b78660c999f67906493b78ffec03a2315fbc89fecb4eabfe6d827bccf4e5", func := "lockless/locklesslaw18.SpecWides", spec := "specWides", inPlace := ["slices.overlaps[int]"], unfollowed := true, recurses := true, apart := false, narrowed := true }
def SpecWidesUptoSaid : Prop := specWidesUptoRow.holds Try.pinned (OpenSpec.upto specWidesSpec)

/-- 'locklesslaw18.SpecStarts', WHERE WHAT IT READS IS OF BULK AT MOST 1048576: true; the input reads as it did. -/
def specStartsUptoRow : OpenClaim := { program := "ytiialjmpfeopjaa", sum := "5481b78660c999f67906493b78ffec03a2315fbc89fecb4eabfe6d827bccf4e5", func := "lockless/locklesslaw18.SpecStarts", spec := "specStarts", inPlace := ["slices.overlaps[int]"], unfollowed := true, recurses := true, apart := false, narrowed := true }
def SpecStartsUptoSaid : Prop := specStartsUptoRow.holds Try.pinned (OpenSpec.upto specStartsSpec)

/-- 'locklesslaw18.SpecTwins', WHERE WHAT IT READS IS OF BULK AT MOST 1048576: true; the input reads as it did. -/
def specTwinsUptoRow : OpenClaim := { program := "ytiialjmpfeopjaa", sum := "5481b78660c999f67906493b78ffec03a2315fbc89fecb4eabfe6d827bccf4e5", func := "lockless/locklesslaw18.SpecTwins", spec := "specTwins", inPlace := ["slices.overlaps[int]"], unfollowed := true, recurses := true, apart := false, narrowed := true }
def SpecTwinsUptoSaid : Prop := specTwinsUptoRow.holds Try.pinned (OpenSpec.upto specTwinsSpec)

/-- 'locklesslaw18.SpecLeasts', WHERE WHAT IT READS IS OF BULK AT MOST 1048576: true; the input reads as it did. -/
def specLeastsUptoRow : OpenClaim := { program := "ytiialjmpfeopjaa", sum := "5481b78660c999f67906493b78ffec03a2315fbc89fecb4eabfe6d827bccf4e5", func := "lockless/locklesslaw18.SpecLeasts", spec := "specLeasts", inPlace := ["slices.overlaps[int]"], unfollowed := true, recurses := true, apart := false, narrowed := true }
def SpecLeastsUptoSaid : Prop := specLeastsUptoRow.holds Try.pinned (OpenSpec.upto specLeastsSpec)

/-- 'locklesslaw18.SpecTickets', WHERE WHAT IT READS IS OF BULK AT MOST 1048576: true; the input reads as it did. -/
def specTicketsUptoRow : OpenClaim := { program := "ytiialjmpfeopjaa", sum := "5481b78660c999f67906493b78ffec03a2315fbc89fecb4eabfe6d827bccf4e5", func := "lockless/locklesslaw18.SpecTickets", spec := "specTickets", inPlace := ["slices.overlaps[int]"], unfollowed := true, recurses := true, apart := false, narrowed := true }
def SpecTicketsUptoSaid : Prop := specTicketsUptoRow.holds Try.pinned (OpenSpec.upto specTicketsSpec)

end Rows
end Go.Proofs.Ytiialjmpfeopjaa
