/- slices.CompactFunc of a slice of rows, walked: plain lemmas; no condition. -/
import Derived.Test.YtgfbgbclpeihdaaLiF
namespace Go.Proofs.Ytgfbgbclpeihdaa.Li
open Go.RowKit Go.Sort Go.Lib Go.Proofs.YtgfbgbclpeihdaaW.PrintWords Go.Proofs.YtgfbgbclpeihdaaW.PrintLast Go.Proofs.YtgfbgbclpeihdaaW.PrintMore
set_option linter.unusedVariables false
set_option linter.unusedSimpArgs false
set_option maxHeartbeats 8000000
set_option maxRecDepth 100000
theorem grown_drewN {w wr : World} {o : Option Nat} (h : w.grownBy wr o) (n : Nat) : w.grownBy (wr.drewN n) o := by
  obtain ⟨h1, h2, h3, h4, h5⟩ := h
  exact ⟨h1, h2, h3, h4, h5⟩
theorem grown_trans {w w1 w2 : World} {o : Option Nat} (h : w.grownBy w1 o) (k : w1.grownBy w2 o) : w.grownBy w2 o :=
  ⟨k.os.trans h.os, k.tape.trans h.tape, k.output.trans h.output, Nat.le_trans h.size k.size, fun j hj hne => (k.block j (Nat.lt_of_lt_of_le hj h.size) hne).trans (h.block j hj hne)⟩
theorem keep_eq {es : List RowE} {k : Nat} (h0 : 0 < k) (he : (es.getD k dE).2.2 = (es.getD (k - 1) dE).2.2) : keepE es (k + 1) = keepE es k := by
  show keepE es k ++ (if k = 0 ∨ (es.getD k dE).2.2 ≠ (es.getD (k - 1) dE).2.2 then [es.getD k dE] else []) = _
  rw [if_neg (fun h => h.elim (fun h => by omega) (fun h => h he)), List.append_nil]
theorem keep_ne {es : List RowE} {k : Nat} (he : (es.getD k dE).2.2 ≠ (es.getD (k - 1) dE).2.2) : keepE es (k + 1) = keepE es k ++ [es.getD k dE] := by
  show keepE es k ++ (if k = 0 ∨ (es.getD k dE).2.2 ≠ (es.getD (k - 1) dE).2.2 then [es.getD k dE] else []) = _
  rw [if_pos (.inr he)]
theorem take_snoc {es : List RowE} {k : Nat} (h : k < es.length) : es.take (k + 1) = es.take k ++ [es.getD k dE] := by
  rw [List.take_succ_eq_append_getElem h]
  simp [h]
theorem drop_get {ls es : List RowE} {i p : Nat} (hp : p ≤ i) (hi : i < es.length) (hl : ls.length = es.length) (h : ls.drop p = es.drop p) : ls.getD i dE = es.getD i dE := by
  have h1 : (ls.drop p)[i - p]? = (es.drop p)[i - p]? := by rw [h]
  rw [List.getElem?_drop, List.getElem?_drop, show p + (i - p) = i by omega] at h1
  rw [List.getD_eq_getElem?_getD, List.getD_eq_getElem?_getD, h1]
theorem drop_more {ls es : List RowE} {i p : Nat} (hp : p ≤ i) (h : ls.drop p = es.drop p) : ls.drop i = es.drop i := by
  have h1 : (ls.drop p).drop (i - p) = (es.drop p).drop (i - p) := by rw [h]
  rw [List.drop_drop, List.drop_drop, show p + (i - p) = i by omega] at h1
  exact h1
theorem set_take {ls : List RowE} {k : Nat} (x : RowE) (h : k < ls.length) : ls.take k ++ [x] = (ls.set k x).take (k + 1) := by
  rw [List.take_succ_eq_append_getElem (by simpa using h)]
  simp [List.take_set_of_le]
theorem grown_set {w wr : World} {g j : Nat} {v : Value} (h : w.grownBy wr (some g)) : w.grownBy (wr.setCell ⟨g, j, none⟩ v) (some g) := by
  refine grown_trans h ⟨rfl, rfl, rfl, ?_, fun k hk hne => Below.heap_setCell wr ⟨g, j, none⟩ v k (fun e => hne (by rw [e]))⟩
  simp [World.setCell]
theorem getD_mem {es : List RowE} {k : Nat} (h : k < es.length) : es.getD k dE ∈ es := by
  rw [List.getD_eq_getElem?_getD, List.getElem?_eq_getElem h]
  exact List.getElem_mem h
theorem compact_calls {w : World} {base g cap : Nat} {es : List RowE} (hown : Top w base g cap es) (hr : ∀ e ∈ es, RdE w e ∧ e.1 ≠ g ∧ e.1 < w.heap.size) (hpos : 0 < es.length) (hlen : es.length ≤ 1000000000000) :
    Calls Try.prog 42 #[.slice (some ⟨g, 0, none⟩) es.length cap, .func (.func 43) #[] #[]] w fun e w' => e = .returned (.slice (some ⟨g, 0, none⟩) (keepE es es.length).length cap) ∧ Top w' base g cap (keepE es es.length) ∧ w.grownBy w' (some g) := by
  have eg : ∀ args w, (callFunc 43 args).run Try.prog w = .ok (.enter 43 args) w := enters_of Try.func43 (by kernel_rfl) rfl
  have HRD := Aside0.mk (show ∀ W, w.grownBy W (some g) → ∀ e ∈ es, RdE W e from fun W hg e he => by
    obtain ⟨h1, h2, h3⟩ := hr e he
    exact h1.same (hg.block _ h3 (by intro e; injection e with e; exact h2 e)))
  have hcapl : es.length ≤ cap := by obtain ⟨_, _, _, h, _⟩ := hown.parts; exact h
  have HO := Aside0.mk hown
  have HG := Aside0.mk (show w.grownBy w (some g) from ⟨rfl, rfl, rfl, Nat.le_refl _, fun _ _ _ => rfl⟩)
  obtain ⟨F, hF⟩ : ∃ F, F = keepE es es.length := ⟨_, rfl⟩
  have HF := Aside0.mk hF
  rw [← hF]
  clear hF hr hown
  by_cases h1 : es.length = 1
  · have HF1 := Aside0.mk (show F = es from by
      rw [HF.out, h1]
      have h0 : 0 < es.length := hpos
      unfold keepE
      rw [if_pos (.inl rfl)]
      unfold keepE
      match es, h1 with
      | [x], _ => rfl)
    have hi : (es.length : Int) < 2 := by omega
    rw [HF1.out]
    clear h1
    go_enter Try.func42, Try.ntmps42
    go_wp2
    go_ret
    exact ⟨rfl, HO.out, HG.out⟩
  · have hi : ¬ (es.length : Int) < 2 := by omega
    have HK1 := Aside0.mk (show keepE es 1 = es.take 1 from by
      unfold keepE
      rw [if_pos (.inl rfl)]
      unfold keepE
      rw [take_snoc hpos]
      rfl)
    go_enter Try.func42, Try.ntmps42
    go_wp2
    go_loopg [5] es.length (fun gg v5 wr => ∃ k : Nat, 1 ≤ k ∧ k ≤ es.length ∧ es.length - k ≤ gg ∧ v5 = .int .i64 k ∧ Aside0 (keepE es k = es.take k) ∧ Aside0 (w.grownBy wr (some g)) ∧ Aside0 (Top wr base g cap es))
    case atStart => exact ⟨1, by omega, by omega, by omega, rfl, HK1, HG, HO⟩
    case round =>
      clear HK1 HG HO
      obtain ⟨k, hk1, hk, hgg, rfl, HK, HG, HO⟩ := hrel
      by_cases hlt : k < es.length
      · have hlti : (k : Int) < (es.length : Int) := by omega
        obtain ⟨j, hj⟩ : ∃ j, j = k - 1 := ⟨_, rfl⟩
        have hwm : IntKind.i64.wrap ((k : Int) - 1) = (j : Int) := (IntWalk.i64_in _ (by omega)).trans (by omega)
        have hjl : (j : Int) < (es.length : Int) := by omega
        obtain ⟨hc1, _⟩ := HO.out.cell k hlt
        obtain ⟨hc2, _⟩ := HO.out.cell j (by omega)
        have HKE := Aside0.mk (fun h => keep_eq (es := es) (k := k) (by omega) h)
        have HKN := Aside0.mk (fun h => keep_ne (es := es) (k := k) h)
        have HTS := Aside0.mk (take_snoc hlt)
        have hx := fun W hg => HRD.out W hg _ (getD_mem hlt)
        have hy := fun W hg => HRD.out W hg _ (getD_mem (show j < es.length by omega))
        rw [← hj] at HKE HKN
        have HJ := Aside0.mk hj
        clear hj
        generalize es.getD k dE = x at *
        generalize es.getD j dE = y at *
        obtain ⟨x1, x2, x3⟩ := x
        obtain ⟨y1, y2, y3⟩ := y
        have HEQ := Aside0.mk (fun W hg => equal_calls (x1, x2, x3) (y1, y2, y3) W (hx W hg) (hy W hg))
        unfold encE at hc1 hc2 HEQ
        simp only at hc1 hc2 HEQ HKE HKN
        clear hx hy
        obtain ⟨d, hd⟩ : ∃ d, d = decide (x3 = y3) := ⟨_, rfl⟩
        rw [← hd] at HEQ
        have HG1 := Aside0.mk (show w.grownBy wr.drew (some g) from grown_drewN HG.out 1)
        cases d with
        | false =>
          have HKN := Aside0.mk (HKN.out (of_decide_eq_false hd.symm))
          clear hd
          go_wp2
          go_region_held3 (fun X => X.cell? ⟨g, k, none⟩ = some (.slice (some ⟨x1, 0, none⟩) x3.length x2) ∧ X.cell? ⟨g, j, none⟩ = some (.slice (some ⟨y1, 0, none⟩) y3.length y2)) (first | go_keep | exact ⟨hc1, hc2⟩) (first | (go_at_fn 43; refine (HEQ.out wr.drew HG1.out).mono ?_; rintro e w2 ⟨rfl, nq, hw⟩; rw [hw]; clear hw))
          go_wp2
          go_roundg (es.length - (k + 1))
          case measure => omega
          case rel => exact ⟨k + 1, by omega, by omega, by omega, by go_num, ⟨by rw [HKN.out, HK.out, HTS.out]⟩, ⟨grown_drewN HG.out _⟩, ⟨HO.out.same rfl⟩⟩
        | true =>
          have HKE := Aside0.mk ((HKE.out (of_decide_eq_true hd.symm)).trans HK.out)
          have hcc : ¬ cap = k := by omega
          clear hd HKN HTS
          go_wp2
          go_region_held3 (fun X => X.cell? ⟨g, k, none⟩ = some (.slice (some ⟨x1, 0, none⟩) x3.length x2) ∧ X.cell? ⟨g, j, none⟩ = some (.slice (some ⟨y1, 0, none⟩) y3.length y2)) (first | go_keep | exact ⟨hc1, hc2⟩) (first | (go_at_fn 43; refine (HEQ.out wr.drew HG1.out).mono ?_; rintro e w2 ⟨rfl, nq, hw⟩; rw [hw]; clear hw))
          clear hc1 hc2 HEQ HG1 hjl hwm HJ HK
          go_wp2
          go_loopg [5, 7] es.length (fun gg v5 v7 wr => ∃ (kk k2 : Nat) (ls : List RowE), 1 ≤ k2 ∧ kk < k + k2 ∧ k + k2 ≤ es.length ∧ es.length - (k + k2) ≤ gg ∧ v5 = .int .i64 kk ∧ v7 = .int .i64 k2 ∧ ls.length = es.length ∧ Aside0 (keepE es (k + k2) = ls.take kk) ∧ Aside0 (ls.drop (k + k2 - 1) = es.drop (k + k2 - 1)) ∧ Aside0 (w.grownBy wr (some g)) ∧ Aside0 (Top wr base g cap ls))
          case atStart => exact ⟨k, 1, es, by omega, by omega, by omega, by omega, rfl, rfl, rfl, HKE, ⟨rfl⟩, ⟨grown_drewN HG.out _⟩, ⟨HO.out.same rfl⟩⟩
          case round =>
            clear HKE HG HO
            obtain ⟨kk, k2, ls, h21, hkk, hkl, hgg, rfl, rfl, hll, HK, HD, HG, HO⟩ := hrel
            by_cases hlt2 : k + k2 < es.length
            · have hlti2 : (k2 : Int) < ((es.length - k : Nat) : Int) := by omega
              obtain ⟨j2, hj2⟩ : ∃ j2, j2 = k2 - 1 := ⟨_, rfl⟩
              have hwm : IntKind.i64.wrap ((k2 : Int) - 1) = (j2 : Int) := (IntWalk.i64_in _ (by omega)).trans (by omega)
              have hjl : (j2 : Int) < ((es.length - k : Nat) : Int) := by omega
              obtain ⟨hc1, hf1⟩ := HO.out.cell (k + k2) (by omega)
              obtain ⟨hc2, _⟩ := HO.out.cell (k + j2) (by omega)
              have hd1 := drop_get (i := k + k2) (by omega) (by omega) hll HD.out
              have hd2 := drop_get (i := k + j2) (by omega) (by omega) hll HD.out
              have HD1 := Aside0.mk (show ls.drop (k + k2) = es.drop (k + k2) from drop_more (by omega) HD.out)
              have HKE := Aside0.mk (fun h => keep_eq (es := es) (k := k + k2) (by omega) h)
              have HKN := Aside0.mk (fun h => keep_ne (es := es) (k := k + k2) h)
              have hx := fun W hg => HRD.out W hg _ (getD_mem (show k + k2 < es.length by omega))
              have hy := fun W hg => HRD.out W hg _ (getD_mem (show k + j2 < es.length by omega))
              rw [show k + k2 - 1 = k + j2 by omega] at HKE HKN
              rw [hd1] at hc1
              rw [hd2] at hc2
              have HJ := Aside0.mk hj2
              have HSET := Aside0.mk (set_take (ls := ls) (k := kk) (es.getD (k + k2) dE) (by omega))
              have HPUT := Aside0.mk (fun (W : World) (h : Top W base g cap ls) => h.put kk (by omega) (es.getD (k + k2) dE))
              have HCK := Aside0.mk (fun (W : World) (h : Top W base g cap ls) => h.cell kk (by omega))
              clear hj2 hd1 hd2
              generalize es.getD (k + k2) dE = x at *
              generalize es.getD (k + j2) dE = y at *
              obtain ⟨u1, u2, u3⟩ := x
              obtain ⟨z1, z2, z3⟩ := y
              have HEQ := Aside0.mk (fun W hg => equal_calls (u1, u2, u3) (z1, z2, z3) W (hx W hg) (hy W hg))
              unfold encE at hc1 hc2 HEQ
              simp only at hc1 hc2 HEQ HKE HKN
              clear hx hy
              obtain ⟨d, hd⟩ : ∃ d, d = decide (u3 = z3) := ⟨_, rfl⟩
              rw [← hd] at HEQ
              have HG1 := Aside0.mk (show w.grownBy wr.drew (some g) from grown_drewN HG.out 1)
              cases d with
              | true =>
                have HKE := Aside0.mk (HKE.out (of_decide_eq_true hd.symm))
                clear hd
                go_wp2
                go_region_held3 (fun X => X.cell? ⟨g, k + k2, none⟩ = some (.slice (some ⟨u1, 0, none⟩) u3.length u2) ∧ X.cell? ⟨g, k + j2, none⟩ = some (.slice (some ⟨z1, 0, none⟩) z3.length z2)) (first | go_keep | exact ⟨hc1, hc2⟩) (first | (go_at_fn 43; refine (HEQ.out wr.drew HG1.out).mono ?_; rintro e w2 ⟨rfl, nq, hw⟩; rw [hw]; clear hw))
                go_wp2
                go_roundg (es.length - (k + (k2 + 1)))
                case measure => omega
                case rel => exact ⟨kk, k2 + 1, ls, by omega, by omega, by omega, by omega, rfl, by go_num, hll, ⟨by rw [show k + (k2 + 1) = k + k2 + 1 by omega, HKE.out, HK.out]⟩, ⟨by rw [show k + (k2 + 1) - 1 = k + k2 by omega]; exact HD1.out⟩, ⟨grown_drewN HG.out _⟩, ⟨HO.out.same rfl⟩⟩
              | false =>
                have HKN := Aside0.mk (HKN.out (of_decide_eq_false hd.symm))
                clear hd
                have hkki : (kk : Int) < (es.length : Int) := by omega
                go_wp2
                go_region_held3 (fun X => X.cell? ⟨g, k + k2, none⟩ = some (.slice (some ⟨u1, 0, none⟩) u3.length u2) ∧ X.cell? ⟨g, k + j2, none⟩ = some (.slice (some ⟨z1, 0, none⟩) z3.length z2)) (first | go_keep | exact ⟨hc1, hc2⟩) (first | (go_at_fn 43; refine (HEQ.out wr.drew HG1.out).mono ?_; rintro e w2 ⟨rfl, nq, hw⟩; rw [hw]; clear hw))
                have hO3 : Top (wr.drewN (1 + nq)) base g cap ls := HO.out.same rfl
                obtain ⟨q1, q2⟩ := HCK.out _ hO3
                have hc3 : (wr.drewN (1 + nq)).cell? ⟨g, k + k2, none⟩ = some (.slice (some ⟨u1, 0, none⟩) u3.length u2) := hc1
                have HO3 := Aside0.mk (HPUT.out _ hO3)
                have HG3 := Aside0.mk (show w.grownBy (wr.drewN (1 + nq)) (some g) from grown_drewN HG.out (1 + nq))
                clear hO3
                go_wp2
                go_roundg (es.length - (k + (k2 + 1)))
                case measure => omega
                case rel => exact ⟨kk + 1, k2 + 1, ls.set kk (u1, u2, u3), by omega, by omega, by omega, by omega, by go_num, by go_num, by rw [List.length_set]; exact hll, ⟨by rw [show k + (k2 + 1) = k + k2 + 1 by omega, HKN.out, HK.out, HSET.out]⟩, ⟨by rw [show k + (k2 + 1) - 1 = k + k2 by omega, List.drop_set_of_lt (by omega)]; exact HD1.out⟩, ⟨grown_set HG3.out⟩, HO3⟩
            · have hE : k + k2 = es.length := by omega
              have hlti2 : ¬ (k2 : Int) < ((es.length - k : Nat) : Int) := by omega
              have HF2 := Aside0.mk (show F = ls.take kk from by rw [HF.out, ← hE, HK.out])
              have hFl := show F.length = kk by rw [HF2.out]; simp; omega
              have hkc : ¬ cap = kk := by omega
              go_wp2_with ((with_reducible refine gate_builtin (b := .clear) (xs := #[.tmp 61]) rfl ?_); refine wpList_clear rfl (.tmp 61) rfl base g kk (es.length - kk) (cap - kk) cap ls (by simp [Act.eval, hkc]) (by omega) HO.out (by omega) ?_; intro w2 hr2 hg2; have HO2 := Aside0.mk hr2; have HG2 := Aside0.mk (grown_trans HG.out hg2); clear hr2 hg2)
              go_ret
              exact ⟨by first | rfl | (rw [hFl]; rfl), by rw [HF2.out]; exact HO2.out, HG2.out⟩
      · have hlti : ¬ (k : Int) < (es.length : Int) := by omega
        have HF2 := Aside0.mk (show F = es from by rw [HF.out, show es.length = k by omega, HK.out, List.take_of_length_le (by omega)])
        go_wp2
        go_ret
        exact ⟨by rw [HF2.out]; rfl, by rw [HF2.out]; exact HO.out, HG.out⟩
end Go.Proofs.Ytgfbgbclpeihdaa.Li
