/- New, Bound, Copy: plain lemmas; no condition. -/
import Derived.Test.YtgdadefobhfkcaaHy8
namespace Go.Proofs.Ytgdadefobhfkcaa.Hy
open Go.RowKit Go.Proofs.YtgdadefobhfkcaaW.PrintWords Go.Proofs.YtgdadefobhfkcaaW.PrintLast Go.Proofs.YtgdadefobhfkcaaW.PrintMore
set_option linter.unusedVariables false
set_option linter.unusedSimpArgs false

theorem info66 : (Try.prog.info? 66).map (fun i => (i.zero, i.size, i.bytes)) = some (some (.agg #[.int .i64 0, .int .i64 0, .int .i64 0]), 3, 24) := by kernel_rfl
/-- make([][3]int, n): the row's cells told. -/
theorem make_holds (n : Nat) {o : Oper} {ops : Array Oper} {rest : List Oper} {a : Act} {W : World} {Q : Exit → Act → World → Prop} (hgd : o.guard = none) (x y : Operand) (ho : o.op = .makeSlice 50 x y) (hx : a.eval x = .int .i64 (n : Nat)) (hy : a.eval y = .int .i64 (n : Nat)) (hl : n ≤ 4)
    (h : wpList Try.prog ops Q rest (a.put o.dst (.slice (some ⟨W.heap.size, 0, none⟩) n n)) (W.alloc (.cells (ints (List.replicate (n * 3) 0)).toArray 66 (0, 0)))) : wpList Try.prog ops Q (o :: rest) a W := by
  obtain ⟨i0, hi, hzz⟩ := Option.map_eq_some_iff.1 info66
  simp only [Prod.mk.injEq] at hzz
  obtain ⟨hz0, hz1, hz2⟩ := hzz
  have hr := run_make (P := Try.prog) W 50 66 i0 _ Try.underlying50 hi hz0 .i64 .i64 (n : Int) (n : Int) (by omega) (by omega) (by rw [hz2]; omega) (by omega)
  simp only [Int.toNat_natCast] at hr
  rw [hz1] at hr
  have e : madeCells (Value.cells (.agg #[.int .i64 0, .int .i64 0, .int .i64 0])) (n * 3) = (ints (List.replicate (n * 3) 0)).toArray := by
    apply Array.ext
    · simp [size_madeCells, ints]
    · intro j g1 g2
      have hm : j % 3 = 0 ∨ j % 3 = 1 ∨ j % 3 = 2 := by omega
      rcases hm with hm | hm | hm <;> simp [madeCells, Value.cells, hm, ints]
  rw [e] at hr
  clear e
  generalize (ints (List.replicate (n * 3) 0)).toArray = Z at hr h
  exact Kd.event_run (w1 := W.alloc (.cells Z 66 (0, 0))) (v := .slice (some ⟨W.heap.size, 0, none⟩) n n) hgd (by simp [execOp, ho, hx, hy, hr]) h
def newM (n : Nat) : HM := ⟨n, List.replicate (n * 3) 0, []⟩
set_option maxHeartbeats 8000000 in
set_option maxRecDepth 100000 in
theorem new_bad (t : Int) (w : World) (h : t < 1 ∨ 4 < t) : Calls Try.prog 10 #[.int .i64 t] w fun e w' => e = .returned (.tuple #[.pointer none, .int .i64 1]) ∧ w' = w := by
  rcases h with h | h
  all_goals
    go_enter Try.func10, Try.ntmps10
    go_wp2
    go_ret2
    exact ⟨rfl, rfl⟩
theorem new_calls (B : Nat) (n : Nat) (w : World) (hB : B ≤ w.heap.size) (h1 : 1 ≤ n) (h4 : n ≤ 4) : Calls Try.prog 10 #[.int .i64 n] w fun e w' => ∃ g A wv, e = .returned (.tuple #[.pointer (some ⟨g, 0, none⟩), .int .i64 0]) ∧ Man B w' g A wv (newM n) ∧ Below w.heap.size w w' ∧ ∀ k, foot g A wv k → w.heap.size ≤ k := by
  have n1 := heap_alloc_new w (.cells (ints (List.replicate (n * 3) 0)).toArray 66 (0, 0))
  have s1 := alloc_size w (.cells (ints (List.replicate (n * 3) 0)).toArray 66 (0, 0))
  have b1 := (Below.refl w.heap.size w).alloc (Nat.le_refl _) (.cells (ints (List.replicate (n * 3) 0)).toArray 66 (0, 0))
  have N1 := Aside0.mk n1
  have B1 := Aside0.mk b1
  have S1 := Aside0.mk s1
  clear n1 b1 s1
  go_enter Try.func10, Try.ntmps10
  go_wp2_with ((with_reducible refine gate_ (.makeSlice 50 (.tmp 10) (.tmp 10)) rfl ?_); refine make_holds n rfl (.tmp 10) (.tmp 10) rfl rfl rfl h4 ?_; generalize hW : w.alloc (.cells (ints (List.replicate (n * 3) 0)).toArray 66 (0, 0)) = W1; rw [hW] at N1 B1 S1; clear hW)
  go_ret2
  have hb := (B1.out).alloc (by have := S1.out; omega) (.cells #[.slice (some ⟨w.heap.size, 0, none⟩) n n, .slice none 0 0] 53 (0, 0))
  have hn := heap_alloc_new W1 (.cells #[.slice (some ⟨w.heap.size, 0, none⟩) n n, .slice none 0 0] 53 (0, 0))
  have ho := alloc_old W1 (.cells #[.slice (some ⟨w.heap.size, 0, none⟩) n n, .slice none 0 0] 53 (0, 0)) w.heap.size (by have := S1.out; omega)
  refine ⟨_, some ⟨w.heap.size, 0, none⟩, .slice none 0 0, rfl, ⟨by simp [newM], h4, by have := S1.out; omega, ⟨n, hn⟩, fun h => absurd h (by simp), fun a ha => ?_, ⟨rfl, .inl ⟨rfl, rfl⟩⟩⟩, hb, fun k hk => ?_⟩
  · injection ha with ha
    exact ⟨_, ha.symm, hB, [], by rw [List.append_nil]; exact ho.trans N1.out⟩
  · rcases hk with rfl | ⟨a, ha, rfl⟩ | hk
    · have := S1.out; omega
    · injection ha with ha
      rw [← ha]; exact Nat.le_refl _
    · exact absurd hk (by simp [Value.ownBlock])
theorem bound_calls (t : Int) (w : World) : Calls Try.prog 17 #[.int .i64 t] w fun e w' => e = .returned (.tuple #[.int .i64 (if 1 ≤ t ∧ t ≤ 4 then 3 * t * t else 0), .int .i64 (if 1 ≤ t ∧ t ≤ 4 then 0 else 1)]) ∧ w' = w := by
  by_cases h : 1 ≤ t ∧ t ≤ 4
  · rw [if_pos h, if_pos h]
    have h5 : t = 1 ∨ t = 2 ∨ t = 3 ∨ t = 4 := by omega
    rcases h5 with rfl | rfl | rfl | rfl
    all_goals
      go_enter Try.func17, Try.ntmps17
      go_wp2
      go_ret2
      exact ⟨rfl, rfl⟩
  · rw [if_neg h, if_neg h]
    have h5 : t < 1 ∨ 4 < t := by omega
    clear h
    rcases h5 with h5 | h5
    all_goals
      go_enter Try.func17, Try.ntmps17
      go_wp2
      go_ret2
      exact ⟨rfl, rfl⟩
end Go.Proofs.Ytgdadefobhfkcaa.Hy
