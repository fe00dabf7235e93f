/- New of the reference: plain lemmas; no condition. -/
import Derived.Test.YtcfodmnpmjkpbaaF0
namespace Go.Proofs.Ytcfodmnpmjkpbaa.Ep
open Go.RowKit Go.Proofs.YtcfodmnpmjkpbaaW.PrintWords Go.Proofs.YtcfodmnpmjkpbaaW.PrintLast Go.Proofs.YtcfodmnpmjkpbaaW.PrintMore
set_option linter.unusedVariables false
set_option linter.unusedSimpArgs false
set_option maxHeartbeats 8000000
set_option maxRecDepth 100000
theorem run_build38 (n : Int) (W : World) : (Instr.build 38 #[(0, .bool true), (1, .int .i64 2), (2, .int .i64 n)]).run Try.prog W = .ok (.agg (new30 n)) W := by kernel_rfl
theorem run_build38z (W : World) : (Instr.build 38 #[]).run Try.prog W = .ok (.agg zero30) W := by kernel_rfl
theorem wpList_build38 {ops : Array Oper} {rest : List Oper} {op : Oper} {a : Act} {W : World} {Q : Exit → Act → World → Prop} (hgd : op.guard = none) (x y : Operand) (n : Int) (ho : op.op = .build 38 #[(0, .const (.bool true)), (1, x), (2, y)]) (hx : a.eval x = .int .i64 2) (hy : a.eval y = .int .i64 n)
    (h : wpList Try.prog ops Q rest (a.put op.dst (.agg (new30 n))) W) : wpList Try.prog ops Q (op :: rest) a W := by
  refine Kd.event_run (w1 := W) (v := .agg (new30 n)) hgd ?_ h
  have hx' : ∀ c, a.eval (.const c) = c := fun _ => rfl
  simp only [execOp, ho, List.map_toArray, List.map_cons, List.map_nil, hx, hy, hx', Sem.run_bind, run_build38, Result.andThen_ok, Sem.run_pure]
theorem wpList_build38z {ops : Array Oper} {rest : List Oper} {op : Oper} {a : Act} {W : World} {Q : Exit → Act → World → Prop} (hgd : op.guard = none) (ho : op.op = .build 38 #[])
    (h : wpList Try.prog ops Q rest (a.put op.dst (.agg zero30)) W) : wpList Try.prog ops Q (op :: rest) a W := by
  refine Kd.event_run (w1 := W) (v := .agg zero30) hgd ?_ h
  simp only [execOp, ho, List.map_toArray, List.map_nil, Sem.run_bind, run_build38z, Result.andThen_ok, Sem.run_pure]
theorem rnew_calls (n : Nat) (w : World) (h1 : 1 ≤ n) (h4 : n ≤ 4) : Calls Try.prog 15 #[.int .i64 2, .int .i64 n] w fun e w' => e = .returned (.tuple #[.agg (new30 n), .int .i64 0]) ∧ Below w.heap.size w w' := by
  go_enter Try.func15, Try.ntmps15
  go_wp2_with (first
    | ((with_reducible refine gate_ (.alloc 38) rfl ?_); refine wpList_alloc38 rfl rfl ?_; intro W2 hz hb hs; have HZ := Aside0.mk hz; have HB := Aside0.mk hb; have HS := Aside0.mk hs; clear hz hb hs)
    | ((with_reducible refine gate_ (.build 38 #[(0, .const (.bool true)), (1, .tmp 21), (2, .tmp 22)]) rfl ?_); refine wpList_build38 rfl (.tmp 21) (.tmp 22) n rfl rfl rfl ?_)
    | ((with_reducible refine gate_ (.store 38 (.tmp 4) (.tmp 23)) rfl ?_); refine wpList_store_whole rfl 38 (.tmp 4) (.tmp 23) rfl w.heap.size (new30 n) zero30 38 rfl rfl HZ.out rfl info38 ((new30_is n).one rfl) ?_; intro W3 h3 far e1 e2 e3 e4; have H3 := Aside0.mk h3; have HF : Aside0 (Below w.heap.size w W3) := ⟨HB.out.trans ⟨e1, e2, e3, by omega, fun k hk => far k (by omega)⟩⟩; clear h3 far e1 e2 e3 e4))
  refine bodyPost_ret (results_ct (p := 4) (u := 5) rfl _ _ w.heap.size 38 (new30 n) (0, 0) _ rfl H3.out Try.underlying38 rfl info38) rfl ?_
  exact ⟨rfl, HF.out⟩
end Go.Proofs.Ytcfodmnpmjkpbaa.Ep
