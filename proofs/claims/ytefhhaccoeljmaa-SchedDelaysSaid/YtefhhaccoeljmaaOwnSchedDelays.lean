/- Delay is the reference's, of every list, thread and numbers, and keeps each thread's steps in order; no condition. The walk, over the reading of its arguments. -/
import Derived.Test.YtefhhaccoeljmaaPureSchedDelays
import Derived.Test.YtefhhaccoeljmaaXS7
namespace Go.Proofs.Ytefhhaccoeljmaa.XS
open Go.RowKit Go.Proofs.YtefhhaccoeljmaaW.PrintWords Go.Proofs.YtefhhaccoeljmaaW.PrintLast
theorem SchedDelays_walk (a0 : Option Addr) (len0 cap0 : Nat) (z0 : List Int) (t fr by_ : Int) (w : World) (w0 : (a0 = none ∧ len0 = 0 ∧ cap0 = 0 ∧ z0 = []) ∨ ∃ x, a0 = some x ∧ len0 ≤ cap0 ∧ cap0 ≤ maxLen ∧ z0.length = cap0 ∧ (∀ i, i < z0.length → w.cell? (x.add i) = some (.int .i64 (z0.getD i 0))) ∧ ∀ n ∈ z0, (Lit.int .i64 n).wf = true) (_y0 : len0 * 8 ≤ 140737488351232) (_w1 : (Lit.int .i64 t).wf = true) (_w2 : (Lit.int .i64 fr).wf = true) (_w3 : (Lit.int .i64 by_).wf = true) :
    Calls Try.prog 6 #[.slice a0 len0 cap0, .agg #[.int .i64 t, .int .i64 fr, .int .i64 by_]] w fun e w' => e = .returned (.bool true) ∧ Below w.heap.size w w' := by
  obtain ⟨l0, rfl, hr0, hm0, hw0, hc0⟩ := ReadsInt.ofRowC w0
  obtain ⟨k, h⟩ := SchedDelays l0 t fr by_
  exact locklesslaw23_SchedDelays.calls k _ _ l0 t fr by_ true w (Kd.C_of_reads (d := (0 : Int)) (h1 := fun _ => rfl) hr0) hc0 h
end Go.Proofs.Ytefhhaccoeljmaa.XS
