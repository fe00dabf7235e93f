/- The law's walk over programs that are handed in; no condition. -/
import Derived.Test.YtgfbgbclpeihdaaSnpT
import Derived.Test.YtgfbgbclpeihdaaLiW
namespace Go.Proofs.Ytgfbgbclpeihdaa.XSn
open Go.RowKit Go.Sort Go.ChangeShapes Go.WideShapes Go.Proofs.YtgfbgbclpeihdaaW.PrintWords Go.Proofs.YtgfbgbclpeihdaaW.PrintLast Go.Proofs.YtgfbgbclpeihdaaW.PrintMore
set_option linter.unusedVariables false
set_option linter.unusedSimpArgs false
set_option maxRecDepth 100000
/-- A program that is handed in. -/
def IsProg (W : World) (v : Value) : Prop := ∃ (a : Option Addr) (cap : Nat) (l : List (List S44)), v = .agg #[.slice a l.length cap] ∧ l.length ≤ cap ∧ (Kd.slice 44 k44).C W a l.length l ∧ l.length ≤ 17592186044416 ∧ ∀ r ∈ l, r.length ≤ 35184372088832
theorem open_in {H : Type} {enc : TypeId × Value → H} {W : World} {v : Value} {d : DataW H} {p : List MemPlace} {r0 : Reach} {b0 : Nat} {ts : List TypeId} {ds : List (DataW H)} {j : Nat}
    (hv : Value.okWide Try.prog W r0 b0 24 v) (h : DataW.Trod enc Try.prog W 0 (fun _ => true) true 24 v d p)
    (hsz : (DataW.weightsEach Try.prog ts ds).all (· ≤ reachBytes) = true) (ht : ts[j]? = some 24) (hd : ds[j]? = some d) : IsProg W v :=
  Li.open_prog S44.mk k44 rfl (fun w k l v u o => k44_mk w ⟨k, l, v, u, o⟩) hv h hsz ht hd
theorem law_row (v : Value) (W : World) (h : IsProg W v) : Calls Try.prog 8 #[v] W fun e W' => e = .returned (.bool true) ∧ Below W.heap.size W W' := by
  obtain ⟨a, cap, l, rfl, h1, h2, h3, h4⟩ := h
  obtain ⟨k, hk⟩ := strengthens_true l h3 h4
  exact locklesslaw03_LitmusStrengthens.calls k a cap l true W h2 h1 hk
end Go.Proofs.Ytgfbgbclpeihdaa.XSn
