/- slices.Grow and slices.Concat of rows of numbers, walked: plain lemmas; no condition. -/
import Derived.Test.YtgfbgbclpeihdaaLiG
import Derived.Test.YtgfbgbclpeihdaaCore
namespace Go.Proofs.Ytgfbgbclpeihdaa.Li
open Go.RowKit Go.Proofs.YtgfbgbclpeihdaaW.PrintWords Go.Proofs.YtgfbgbclpeihdaaW.PrintLast Go.Proofs.YtgfbgbclpeihdaaW.PrintMore
set_option linter.unusedVariables false
set_option linter.unusedSimpArgs false
set_option maxHeartbeats 8000000
set_option maxRecDepth 100000
theorem info3 : (Try.prog.info? 3).map (fun i => (i.zero, i.size, i.bytes)) = some (some (.int .i64 0), 1, 8) := by kernel_rfl
theorem size3 : (Try.prog.info? 3).map (·.size) = some 1 := by kernel_rfl
theorem grow_calls (n : Nat) (w : World) (hn : n ≤ 1000000) :
    Calls Try.prog 74 #[.slice none 0 0, .int .i64 n] w fun e w' => ∃ v, e = .returned v ∧ Kd.R (Kd.int .i64) 3 w' w.heap.size (fun _ => True) v [] ∧ Below w.heap.size w w' := by
  have HB := Aside0.mk (Below.refl w.heap.size w)
  by_cases h0 : n = 0
  · subst h0
    go_enter Try.func74, Try.ntmps74
    go_wp2
    go_ret
    exact ⟨_, rfl, Kd.R_nil _ _ _ _ _, HB.out⟩
  · have hd : decide (0 < (n : Int)) = true := by simp; omega
    have hlim : ((([] : List Int).length) + (n : Int).toNat) * 8 ≤ 140737488355328 := by simp; omega
    have HO : Kd.R (Kd.int .i64) 3 w w.heap.size (fun _ => True) (.slice none 0 0) [] := Kd.R_nil _ _ _ _ _
    go_enter Try.func74, Try.ntmps74
    go_wp2_with ((with_reducible refine gate_builtin (b := .append) (xs := #[.tmp 20, .tmp 21]) rfl ?_); at_builtin; refine Kd.R_append_zeros (Kd.int .i64) (w0 := w) w.heap.size rfl (.tmp 20) (.tmp 21) 46 3 3 (.int .i64 0) 8 rfl Try.underlying46 Try.underlying3 info3 rfl (by decide) (by omega) (.slice none 0 0) [] 0 (n : Int) (fun _ => True) rfl rfl ?aZ (fun _ _ => trivial) HO (by omega) HB.out (Nat.le_refl _) hlim ?_; (case aZ => exact rfl); intro v1 wn ho hb hg hat; have HR := Aside0.mk ho; have HBn := Aside0.mk hb; obtain ⟨A1, c1, rfl⟩ := Kd.R_slice ho; have hle : (0 : Int) ≤ (c1 : Int) := (by omega); clear ho hb hg hat)
    go_ret
    refine ⟨_, rfl, ?_, HBn.out⟩
    have h1 := Kd.own_of_R HR.out
    refine Kd.R_of_own (h1 := fun _ => rfl) (xs := []) ?_ (fun _ _ => trivial)
    obtain ⟨_, ⟨e, h⟩ | ⟨b, cap, cur, e, h3, h4, h5, h6, h7, h8⟩⟩ := h1
    · simp at h
      omega
    · injection e with e1 _ e2
      subst e1; subst e2
      exact ⟨by simp [encs], .inr ⟨b, c1, cur, rfl, h3, h4, Nat.zero_le _, h6, h7, by simp [encs]⟩⟩
/-- The lists of X up to k, one behind the other. -/
def cat (X : Nat → List Int) (k : Nat) : List Int := (List.range k).flatMap X
theorem cat_succ (X : Nat → List Int) (k : Nat) : cat X (k + 1) = cat X k ++ X k := by
  unfold cat
  rw [List.range_succ, List.flatMap_append]
  simp
theorem cat_len (X : Nat → List Int) (k : Nat) (h : ∀ j, j < k → (X j).length ≤ 100000) : (cat X k).length ≤ 100000 * k := by
  induction k with
  | zero => simp [cat]
  | succ k ih =>
    rw [cat_succ, List.length_append]
    have := ih (fun j hj => h j (by omega))
    have := h k (by omega)
    omega
theorem concat_calls (w : World) (b : Nat) (X : Nat → List Int) (A : Nat → Option Addr) (C : Nat → Nat) (hc : ∀ k, k < 3 → w.cell? ⟨b, 6 + k, none⟩ = some (.slice (A k) (X k).length (C k))) (hr : ∀ k, k < 3 → Kd.C (Kd.int .i64) w (A k) (X k).length (X k)) (hl : ∀ k, k < 3 → (X k).length ≤ 100000) :
    Calls Try.prog 67 #[.slice (some ⟨b, 6, none⟩) 3 3] w fun e w' => ∃ v, e = .returned v ∧ Kd.R (Kd.int .i64) 3 w' w.heap.size (fun _ => True) v (cat X 3) ∧ Below w.heap.size w w' := by
  have HC := Aside0.mk hc
  have HR := Aside0.mk hr
  have HL := Aside0.mk hl
  have HCL : Aside0 (∀ k, k ≤ 3 → (cat X k).length ≤ 300000) := ⟨fun k hk => Nat.le_trans (cat_len X k (fun j hj => hl j (by omega))) (by omega)⟩
  have HS := Aside0.mk (cat_succ X)
  have HB := Aside0.mk (Below.refl w.heap.size w)
  clear hc hr hl
  go_enter Try.func67, Try.ntmps67
  go_wp2
  go_loopg [3, 11, 5] 3 (fun gg v3 v11 v5 wr => ∃ kk : Nat, kk ≤ 3 ∧ 3 - kk ≤ gg ∧ v11 = .int .i64 kk ∧ v3 = .int .i64 ((cat X kk).length : Nat) ∧ w = wr)
  case atStart => exact ⟨0, by omega, by omega, rfl, rfl, rfl⟩
  case round =>
    obtain ⟨kk, hkk, hgg, rfl, rfl, hw⟩ := hrel
    subst hw
    have hcl := HCL.out kk hkk
    by_cases hlt : kk < 3
    · have hck := HC.out kk hlt
      have hlk := HL.out kk hlt
      have hsn : (cat X (kk + 1)).length = (cat X kk).length + (X kk).length := by rw [HS.out, List.length_append]
      have HSN := Aside0.mk hsn
      clear hsn
      generalize (X kk).length = n at *
      generalize (cat X kk).length = c at *
      have hneg : decide ((c : Int) + (n : Int) < 0) = false := by simp; omega
      go_wp2
      go_roundg (3 - (kk + 1))
      case measure => omega
      case rel => exact ⟨kk + 1, by omega, by omega, by go_num, by rw [HSN.out]; go_num, rfl⟩
    · have : kk = 3 := by omega
      subst this
      have hg3 := grow_calls (cat X 3).length w (by omega)
      generalize (cat X 3).length = n at *
      go_wp2_with (go_at_call 74; refine hg3.mono ?_; rintro e w1 ⟨v, rfl, hr, hb⟩; have HR1 := Aside0.mk hr; have HB1 := Aside0.mk hb; clear hr hb)
      go_loopg [6, 27, 8] 3 (fun gg v6 v27 v8 wr => ∃ kk : Nat, kk ≤ 3 ∧ 3 - kk ≤ gg ∧ v27 = .int .i64 kk ∧ Aside0 (Kd.R (Kd.int .i64) 3 wr w.heap.size (fun _ => True) v6 (cat X kk)) ∧ Aside0 (Below w.heap.size w wr))
      case atStart => exact ⟨0, by omega, by omega, rfl, HR1, HB1⟩
      case round =>
        clear HR1 HB1 HB hg3
        obtain ⟨kk, hkk, hgg, rfl, HR1, HB1⟩ := hrel
        have hcl2 := HCL.out kk hkk
        by_cases hlt : kk < 3
        · have hck0 := HC.out kk hlt
          have hck := (HB1.out.cell (p := ⟨b, 6 + kk, none⟩) (World.block_lt_of_cell? w _ hck0)).trans hck0
          have hlk := HL.out kk hlt
          have hrk := Kd.C_below (HR.out kk hlt) HB1.out
          have HRK := Aside0.mk hrk
          have HSN := Aside0.mk (HS.out kk)
          have hlim : ((cat X kk).length + (X kk).length) * 8 ≤ 140737488355328 := by omega
          clear hck0 hrk
          generalize X kk = YS at *
          generalize cat X kk = L at *
          have hsz := HB1.out.size
          obtain ⟨A6, c6, rfl⟩ := Kd.R_slice HR1.out
          go_wp2_with ((with_reducible refine gate_builtin (b := .append) (xs := #[.tmp 31, .tmp 32]) rfl ?_); at_builtin; refine Kd.R_append_rows (Kd.int .i64) (w0 := w) w.heap.size rfl (.tmp 31) (.tmp 32) 46 3 (.int .i64 0) 8 rfl Try.underlying46 info3 rfl (by decide) (by omega) (.slice A6 L.length c6) L YS _ _ _ (fun _ => True) (fun _ => False) rfl rfl HR1.out HRK.out (fun _ _ h => h) (fun _ h => h.elim) (fun _ _ => trivial) HB1.out hsz hlim ?_; intro v1 wn ho hb hg hat; have HO := Aside0.mk ho; have HBN := Aside0.mk hb; clear ho hb hg hat)
          go_roundg (3 - (kk + 1))
          case measure => omega
          case rel => exact ⟨kk + 1, by omega, by omega, by go_num, by rw [HSN.out]; exact HO, HBN⟩
        · have : kk = 3 := by omega
          subst this
          go_wp2
          go_ret
          exact ⟨_, rfl, HR1.out, HB1.out⟩
end Go.Proofs.Ytgfbgbclpeihdaa.Li
