/- The walk of EpochNil: plain lemmas; no condition. -/
import Derived.Test.YtcfodmnpmjkpbaaGT
namespace Go.Proofs.Ytcfodmnpmjkpbaa.Ep
open Go.RowKit Go.Proofs.YtcfodmnpmjkpbaaW.PrintWords Go.Proofs.YtcfodmnpmjkpbaaW.PrintLast Go.Proofs.YtcfodmnpmjkpbaaW.PrintMore
set_option linter.unusedVariables false
set_option linter.unusedSimpArgs false
set_option maxHeartbeats 8000000
set_option maxRecDepth 100000
/-- A manager that has no thread, at W. -/
def Nobody (p : Option Addr) (W : World) : Prop := ∀ t : Int, Calls Try.prog 38 #[.pointer p, .int .i64 t] W fun e w' => e = .returned (.bool false) ∧ w' = W
theorem in_no (p : Option Addr) (W : World) (h : Nobody p W) (t : Int) : Calls Try.prog 23 #[.pointer p, .int .i64 t] W fun e w' => e = .returned (.tuple #[.slice none 0 0, .int .i64 1]) ∧ w' = W := by
  have hc := h t
  go_enter Try.func23, Try.ntmps23
  go_wp2_with (go_at_call 38; refine hc.mono ?_; rintro e w' ⟨rfl, rfl⟩)
  go_ret2
  exact ⟨rfl, rfl⟩
theorem out_no (p : Option Addr) (W : World) (h : Nobody p W) (t : Int) : Calls Try.prog 26 #[.pointer p, .int .i64 t] W fun e w' => e = .returned (.tuple #[.slice none 0 0, .int .i64 1]) ∧ w' = W := by
  have hc := h t
  go_enter Try.func26, Try.ntmps26
  go_wp2_with (go_at_call 38; refine hc.mono ?_; rintro e w' ⟨rfl, rfl⟩)
  go_ret2
  exact ⟨rfl, rfl⟩
theorem hold_no (p : Option Addr) (W : World) (h : Nobody p W) (t k a : Int) : Calls Try.prog 28 #[.pointer p, .int .i64 t, .int .i64 k, .int .i64 a] W fun e w' => e = .returned (.tuple #[.slice none 0 0, .int .i64 1]) ∧ w' = W := by
  have := hold_of true W p t k a (h t)
  simpa using this
theorem born_no (p : Option Addr) (W : World) (h : Nobody p W) (a : Int) : Calls Try.prog 29 #[.pointer p, .int .i64 a] W fun e w' => e = .returned (.int .i64 1) ∧ w' = W := by
  have := born_of true W p a (h 0)
  simpa using this
theorem copy_no (p : Option Addr) (W : World) (h : Nobody p W) : Calls Try.prog 30 #[.pointer p] W fun e w' => e = .returned (.pointer none) ∧ w' = W := by
  have hc := h 0
  go_enter Try.func30, Try.ntmps30
  go_wp2_with (go_at_call 38; refine hc.mono ?_; rintro e w' ⟨rfl, rfl⟩)
  go_ret
  exact ⟨rfl, rfl⟩
theorem nobody_nil (W : World) : Nobody none W := fun t => has_nil W t
def zeroM : EM := ⟨0, [], []⟩
theorem nobody_zero {W : World} {g : Nat} (h : W.heap[g]? = some (.cells #[.int .i64 0, .slice none 0 0, .slice none 0 0] 69 (0, 0))) : Nobody (some ⟨g, 0, none⟩) W := fun t => by
  have hm : Man 0 W g (.slice none 0 0) (.slice none 0 0) zeroM := ⟨by simp [zeroM], Nat.zero_le _, h, ⟨rfl, .inl ⟨rfl, rfl⟩⟩, ⟨rfl, .inl ⟨rfl, rfl⟩⟩⟩
  have hb : bad zeroM t = true := by
    unfold bad zeroM
    by_cases h : t < 0
    · simp [h]
    · simp [h]; omega
  have := has_calls hm t
  rw [hb] at this
  exact this
theorem nil_row (d t k a : Int) (w : World) (_ : (Lit.int .i64 d).wf = true) (_ : (Lit.int .i64 t).wf = true) (_ : (Lit.int .i64 k).wf = true) (_ : (Lit.int .i64 a).wf = true) :
    Calls Try.prog 10 #[.agg #[.int .i64 d, .int .i64 t, .int .i64 k, .int .i64 a]] w fun e w' => e = .returned (.bool true) ∧ Below w.heap.size w w' := by
  have n1 := heap_alloc_new w (.cells #[.int .i64 d, .int .i64 t, .int .i64 k, .int .i64 a] 45 (0, 0))
  have b1 := (Below.refl w.heap.size w).alloc (Nat.le_refl _) (.cells #[.int .i64 d, .int .i64 t, .int .i64 k, .int .i64 a] 45 (0, 0))
  have N1 := Aside0.mk n1
  have B1 := Aside0.mk b1
  clear n1 b1
  go_enter Try.func10, Try.ntmps10
  go_wp2_with (go_at_call 12; refine (awake_calls _).mono ?_; rintro e w1 ⟨rfl, hb⟩; have N2 := Aside0.mk ((hb.block w.heap.size (blk_lt N1.out)).trans N1.out); have B2 := Aside0.mk (btrans B1.out hb); clear hb N1 B1)
  have n3 := heap_alloc_new w1 (.cells #[.int .i64 0, .slice none 0 0, .slice none 0 0] 69 (0, 0))
  have s3 := alloc_size w1 (.cells #[.int .i64 0, .slice none 0 0, .slice none 0 0] 69 (0, 0))
  have b3 := (Below.refl w1.heap.size w1).alloc (Nat.le_refl _) (.cells #[.int .i64 0, .slice none 0 0, .slice none 0 0] 69 (0, 0))
  have n4 := heap_alloc_new (w1.alloc (.cells #[.int .i64 0, .slice none 0 0, .slice none 0 0] 69 (0, 0))) (.cells #[.pointer none, .pointer (some ⟨w1.heap.size, 0, none⟩)] 28 (0, 0))
  have b4 := (Below.refl _ (w1.alloc (.cells #[.int .i64 0, .slice none 0 0, .slice none 0 0] 69 (0, 0)))).alloc (Nat.le_refl _) (.cells #[.pointer none, .pointer (some ⟨w1.heap.size, 0, none⟩)] 28 (0, 0))
  rw [s3] at n4
  have hb2 := b3.trans (b4.mono (by omega))
  have o3 := (alloc_old (w1.alloc (.cells #[.int .i64 0, .slice none 0 0, .slice none 0 0] 69 (0, 0))) (.cells #[.pointer none, .pointer (some ⟨w1.heap.size, 0, none⟩)] 28 (0, 0)) w1.heap.size (by omega)).trans n3
  have NO := Aside0.mk (nobody_zero o3)
  have N4 := Aside0.mk n4
  have N3 := Aside0.mk ((hb2.block w.heap.size (blk_lt N2.out)).trans N2.out)
  have B4 := Aside0.mk (btrans B2.out hb2)
  clear n3 s3 b3 n4 b4 hb2 o3 N2 B2
  generalize (w1.alloc (.cells #[.int .i64 0, .slice none 0 0, .slice none 0 0] 69 (0, 0))).alloc (.cells #[.pointer none, .pointer (some ⟨w1.heap.size, 0, none⟩)] 28 (0, 0)) = W at *
  have hd : W.cell? ⟨w.heap.size, 0, none⟩ = some (.int .i64 d) := by rw [Go.Lib.cell_of_heap N3.out]; rfl
  have ht : W.cell? ⟨w.heap.size, 1, none⟩ = some (.int .i64 t) := by rw [Go.Lib.cell_of_heap N3.out]; rfl
  have hk : W.cell? ⟨w.heap.size, 2, none⟩ = some (.int .i64 k) := by rw [Go.Lib.cell_of_heap N3.out]; rfl
  have ha : W.cell? ⟨w.heap.size, 3, none⟩ = some (.int .i64 a) := by rw [Go.Lib.cell_of_heap N3.out]; rfl
  have p0 : W.cell? ⟨w1.heap.size + 1, 0, none⟩ = some (.pointer none) := by rw [Go.Lib.cell_of_heap N4.out]; rfl
  have p1 : W.cell? ⟨w1.heap.size + 1, 1, none⟩ = some (.pointer (some ⟨w1.heap.size, 0, none⟩)) := by rw [Go.Lib.cell_of_heap N4.out]; rfl
  have NN := Aside0.mk (nobody_nil W)
  clear N3 N4
  go_loopg [5, 6, 7, 8, 9, 10, 11, 12, 13, 14, 22] 2 (fun gg v5 v6 v7 v8 v9 v10 v11 v12 v13 v14 v22 wr => ∃ (kk : Nat), kk ≤ 2 ∧ 2 - kk ≤ gg ∧ v22 = .int .i64 kk ∧ W = wr)
  case atStart => exact ⟨0, by omega, by omega, rfl, rfl⟩
  case round =>
    obtain ⟨kk, hkk, hgg, rfl, hw⟩ := hrel
    subst hw
    obtain rfl | rfl | rfl : kk = 0 ∨ kk = 1 ∨ kk = 2 := by omega
    · go_wp2_with (first
        | (go_at_call 23; refine (in_no _ _ NN.out _).mono ?_; rintro e w' ⟨rfl, hw⟩; rw [hw]; clear hw)
        | (go_at_call 26; refine (out_no _ _ NN.out _).mono ?_; rintro e w' ⟨rfl, hw⟩; rw [hw]; clear hw)
        | (go_at_call 28; refine (hold_no _ _ NN.out _ _ _).mono ?_; rintro e w' ⟨rfl, hw⟩; rw [hw]; clear hw)
        | (go_at_call 29; refine (born_no _ _ NN.out _).mono ?_; rintro e w' ⟨rfl, hw⟩; rw [hw]; clear hw)
        | (go_at_call 24; refine (retire_no true _ _ _ (NN.out _) rfl).mono ?_; rintro e w' ⟨rfl, hw⟩; rw [hw]; clear hw)
        | (go_at_call 27; refine (rest_no _ _ (NN.out 0)).mono ?_; rintro e w' ⟨rfl, hw⟩; rw [hw]; clear hw)
        | (go_at_call 19; refine (waiting_no _ _ (NN.out 0)).mono ?_; rintro e w' ⟨rfl, hw⟩; rw [hw]; clear hw)
        | (go_at_call 30; refine (copy_no _ _ NN.out).mono ?_; rintro e w' ⟨rfl, hw⟩; rw [hw]; clear hw)
        | (go_at_call 21; refine (epoch_no _ _ (NN.out 0)).mono ?_; rintro e w' ⟨rfl, hw⟩; rw [hw]; clear hw))
      go_roundg 1
      case measure => omega
      case rel => exact ⟨1, by omega, by omega, by go_num, rfl⟩
    · go_wp2_with (first
        | (go_at_call 23; refine (in_no _ _ NO.out _).mono ?_; rintro e w' ⟨rfl, hw⟩; rw [hw]; clear hw)
        | (go_at_call 26; refine (out_no _ _ NO.out _).mono ?_; rintro e w' ⟨rfl, hw⟩; rw [hw]; clear hw)
        | (go_at_call 28; refine (hold_no _ _ NO.out _ _ _).mono ?_; rintro e w' ⟨rfl, hw⟩; rw [hw]; clear hw)
        | (go_at_call 29; refine (born_no _ _ NO.out _).mono ?_; rintro e w' ⟨rfl, hw⟩; rw [hw]; clear hw)
        | (go_at_call 24; refine (retire_no true _ _ _ (NO.out _) rfl).mono ?_; rintro e w' ⟨rfl, hw⟩; rw [hw]; clear hw)
        | (go_at_call 27; refine (rest_no _ _ (NO.out 0)).mono ?_; rintro e w' ⟨rfl, hw⟩; rw [hw]; clear hw)
        | (go_at_call 19; refine (waiting_no _ _ (NO.out 0)).mono ?_; rintro e w' ⟨rfl, hw⟩; rw [hw]; clear hw)
        | (go_at_call 30; refine (copy_no _ _ NO.out).mono ?_; rintro e w' ⟨rfl, hw⟩; rw [hw]; clear hw)
        | (go_at_call 21; refine (epoch_no _ _ (NO.out 0)).mono ?_; rintro e w' ⟨rfl, hw⟩; rw [hw]; clear hw))
      go_roundg 0
      case measure => omega
      case rel => exact ⟨2, by omega, by omega, by go_num, rfl⟩
    · go_wp2
      go_ret
      exact ⟨rfl, B4.out⟩
end Go.Proofs.Ytcfodmnpmjkpbaa.Ep
