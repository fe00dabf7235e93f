/- Join is the reference's, of every two lists, which stay as they are: what the printed law computes; no condition. -/
import Derived.Test.YtefhhaccoeljmaaSpJ
namespace Go.Proofs.Ytefhhaccoeljmaa.XJ
open Go.RowKit Go.Proofs.YtefhhaccoeljmaaW.PrintWords Go.Proofs.YtefhhaccoeljmaaW.PrintLast
theorem joins (l m : List Int) : ∃ k, locklesslaw23_SchedJoins.f k l m = some true := by
  refine ⟨9002, ?_⟩
  unfold locklesslaw23_SchedJoins.f
  have hs : ∀ l m, locklesslaw23_SchedJoins.j0 9002 l m true = some true := fun l m => by
    rw [locklesslaw23_SchedJoins.j0, if_pos rfl, sane_some _ (by omega)]
    rfl
  by_cases hl : (l.length : Int) > 1500
  · rw [if_pos hl, hs]
  · rw [if_neg hl]
    by_cases hm : (m.length : Int) > 1500
    · rw [decide_eq_true hm, hs]
    · rw [decide_eq_false hm, locklesslaw23_SchedJoins.j0, if_neg (by decide), copy_some l (by omega)]
      simp only [Option.bind_some]
      rw [copy_some m (by omega)]
      simp only [Option.bind_some]
      rw [sched_Join.f]
      simp only [Option.bind_some]
      rw [refJoin l m _ (by omega) (by omega) (by omega)]
      simp only [Option.bind_some, if_true]
      rw [ints_self _ _ (by split <;> simp; omega) (by split <;> simp; omega)]
      simp only [Option.bind_some, if_true]
      rw [ints_self l _ (by omega) (by omega)]
      simp only [Option.bind_some, if_true]
      rw [ints_self m _ (by omega) (by omega)]
      simp only [Option.bind_some, if_true]
      rw [sane_some _ (by omega)]
      rfl
end Go.Proofs.Ytefhhaccoeljmaa.XJ
namespace Go.Proofs.Ytefhhaccoeljmaa.Pure
theorem SchedJoins : XJ.locklesslaw23_SchedJoins.Pure := fun l m _ _ _ _ _ _ => XJ.joins l m
end Go.Proofs.Ytefhhaccoeljmaa.Pure
