/- Has and Without: plain lemmas; no condition. -/
import Derived.Test.YtgdadefobhfkcaaHz12
namespace Go.Proofs.Ytgdadefobhfkcaa.Hz
open Go.RowKit Go.Proofs.YtgdadefobhfkcaaW.PrintWords Go.Proofs.YtgdadefobhfkcaaW.PrintLast Go.Proofs.YtgdadefobhfkcaaW.PrintMore
set_option linter.unusedVariables false
set_option linter.unusedSimpArgs false
set_option maxHeartbeats 8000000
set_option maxRecDepth 100000
theorem has_calls (A : Option Addr) (c : Nat) (l : List Int) (x : Int) (w : World) (hr : ReadsI w A l) (hl : l.length ≤ 1000000) :
    Calls Try.prog 14 #[.slice A l.length c, .int .i64 x] w fun e w' => e = .returned (.bool (l.contains x)) ∧ w' = w := by
  have HR := Aside0.mk hr
  clear hr
  go_enter Try.func14, Try.ntmps14
  go_wp2
  go_loopg [5] l.length (fun gg s5 wr => ∃ kk : Nat, kk ≤ l.length ∧ l.length - kk ≤ gg ∧ s5 = .int .i64 kk ∧ w = wr ∧ Aside0 (∀ j : Nat, j < kk → (l.getD j 0 == x) = false))
  case atStart => exact ⟨0, Nat.zero_le _, by omega, rfl, rfl, ⟨fun j hj => absurd hj (Nat.not_lt_zero _)⟩⟩
  case round =>
    obtain ⟨kk, hkk, hg, rfl, rfl, B⟩ := hrel
    by_cases hlt : kk < l.length
    · obtain ⟨ad, rfl, hc⟩ := HR.out kk hlt
      obtain ⟨y, hy⟩ : ∃ y, y = l.getD kk 0 := ⟨_, rfl⟩
      have HY := Aside0.mk hy
      rw [← hy] at hc
      clear hy
      cases hq : (y == x) with
      | true =>
        go_wp2
        go_ret
        have : l.contains x = true := by
          rw [List.contains_iff_exists_mem_beq]
          have e := eq_of_beq hq
          refine ⟨y, ?_, by simp [e]⟩
          rw [HY.out]
          simp [hlt]
        rw [this]
        exact ⟨rfl, rfl⟩
      | false =>
        go_wp2
        go_roundg (l.length - (kk + 1))
        case measure => omega
        case rel =>
          refine ⟨kk + 1, by omega, by omega, by go_num, rfl, ⟨fun j hj => ?_⟩⟩
          by_cases e : j = kk
          · subst e
            rw [← HY.out]; exact hq
          · exact B.out j (by omega)
    · have : kk = l.length := by omega
      subst this
      go_wp2
      go_ret
      have : l.contains x = false := by
        rw [Bool.eq_false_iff]
        intro h
        obtain ⟨y, hy, hxy⟩ := List.contains_iff_exists_mem_beq.1 h
        obtain ⟨j, hj, rfl⟩ := List.mem_iff_getElem.1 hy
        have := B.out j hj
        have e := eq_of_beq hxy
        simp [hj, e] at this
      rw [this]
      exact ⟨rfl, rfl⟩
theorem without_calls (A : Option Addr) (c : Nat) (l : List Int) (x : Int) (w : World) (hr : ReadsI w A l) (hl : l.length ≤ 1000000) :
    Calls Try.prog 15 #[.slice A l.length c, .int .i64 x] w fun e w' => ∃ v, e = .returned v ∧ Kd.R (Kd.int .i64) 3 w' w.heap.size (fun _ => True) v (l.filter fun y => y != x) ∧ Below w.heap.size w w' := by
  have HR := Aside0.mk hr
  clear hr
  have HB := Aside0.mk (Below.refl w.heap.size w)
  go_enter Try.func15, Try.ntmps15
  go_wp2
  go_loopg [5, 6] l.length (fun gg v5 v6 wr => ∃ kk : Nat, kk ≤ l.length ∧ l.length - kk ≤ gg ∧ v6 = .int .i64 kk ∧ Aside0 (Kd.R (Kd.int .i64) 3 wr w.heap.size (fun _ => True) v5 ((l.take kk).filter fun y => y != x)) ∧ Aside0 (Below w.heap.size w wr))
  case atStart => exact ⟨0, Nat.zero_le _, by omega, rfl, ⟨by simpa using Kd.R_nil _ _ _ _ _⟩, HB⟩
  case round =>
    clear HB
    obtain ⟨kk, hkk, hg, rfl, HO, HB⟩ := hrel
    by_cases hlt : kk < l.length
    · obtain ⟨ad, rfl, hc⟩ := HR.out kk hlt
      replace hc := (HB.out.cell (World.block_lt_of_cell? w _ hc)).trans hc
      have hsn : (l.take (kk + 1)).filter (fun y => y != x) = (l.take kk).filter (fun y => y != x) ++ (if (l.getD kk 0 != x) = true then [l.getD kk 0] else []) := by
        rw [List.take_succ_eq_append_getElem hlt, List.filter_append]
        congr 1
        have : l.getD kk 0 = l[kk] := by simp [hlt]
        rw [this]
        cases h : l[kk] != x <;> simp [h]
      have hLl : ((l.take kk).filter fun y => y != x).length ≤ 1000000 := Nat.le_trans (List.length_filter_le _ _) (by rw [List.length_take]; omega)
      generalize l.getD kk 0 = y at hc hsn
      generalize (l.take kk).filter (fun y => y != x) = L at HO hsn hLl
      have hlim : (L.length + 1) * 8 ≤ 140737488355328 := by omega
      cases hq : (y != x) with
      | true =>
        rw [hq, if_pos rfl] at hsn
        have HSN := Aside0.mk hsn
        clear hsn hLl
        go_wp2_with ((with_reducible refine gate_builtin (b := .append) (xs := #[.tmp 19, .tmp 24]) rfl ?_); at_builtin; refine Kd.R_append (Kd.int .i64) (w0 := w) w.heap.size rfl (.tmp 19) (.tmp 24) 29 3 (.int .i64 0) 8 rfl Try.underlying29 info3 rfl (by decide) (by omega) u5 L y [.int .i64 y] (fun _ => True) (fun _ => False) rfl rfl ?aP (fun _ hk => hk.elim) ?aF ?aO ?aB ?aS ?aL ?_; (case aP => exact rfl); (case aB => exact (by repeat (first | (with_reducible first | exact HB.out | apply below_alloc | apply pw_below_drewN | apply below_drew1) | exact HB.out))); (case aF => exact (fun _ _ => trivial)); (case aO => exact (by (with_reducible repeat (first | apply Kd.R_alloc | apply Kd.R_drewN | apply Kd.R_drew)); exact HO.out)); (case aS => exact (below_size (by repeat (first | (with_reducible first | exact HB.out | apply below_alloc | apply pw_below_drewN | apply below_drew1) | exact HB.out)))); (case aL => omega); intro v1 wn ho hb hg hat; have n8_ := Aside0.mk hb; have n9_ := Aside0.mk ho; clear HB; clear HO; have HB := n8_; have HN := n9_; clear n8_ n9_; clear ho hb hg hat)
        go_roundg (l.length - (kk + 1))
        case measure => omega
        case rel => exact ⟨kk + 1, by omega, by omega, by go_num, by rw [HSN.out]; exact HN, HB⟩
      | false =>
        rw [hq, if_neg (by decide), List.append_nil] at hsn
        have HSN := Aside0.mk hsn
        clear hsn hLl
        go_wp2
        go_roundg (l.length - (kk + 1))
        case measure => omega
        case rel => exact ⟨kk + 1, by omega, by omega, by go_num, by rw [HSN.out]; exact HO, HB⟩
    · have : kk = l.length := by omega
      subst this
      go_wp2
      go_ret
      exact ⟨_, rfl, by simpa using HO.out, HB.out⟩
end Go.Proofs.Ytgdadefobhfkcaa.Hz
