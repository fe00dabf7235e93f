/- Rows of numbers, compared and sorted (slices.Compare, slices.SortFunc): plain lemmas; no condition. -/
import Derived.Test.YtgfbgbclpeihdaaLiB
namespace Go.Proofs.Ytgfbgbclpeihdaa.Li
open Go.RowKit Go.Sort Go.Proofs.YtgfbgbclpeihdaaW.PrintWords Go.Proofs.YtgfbgbclpeihdaaW.PrintLast Go.Proofs.YtgfbgbclpeihdaaW.PrintMore
set_option linter.unusedVariables false
set_option linter.unusedSimpArgs false
set_option maxHeartbeats 8000000
set_option maxRecDepth 100000
/-- A row: its block, its room, what it holds. -/
abbrev RowE := Nat × Nat × List Int
def encE (p : RowE) : Value := .slice (some ⟨p.1, 0, none⟩) p.2.2.length p.2.1
def kdE : Kd RowE := Kd.scalar encE (fun _ => rfl)
def RdE (w : World) (p : RowE) : Prop := (∀ j, j < p.2.2.length → w.cell? ⟨p.1, j, none⟩ = some (.int .i64 (p.2.2.getD j 0))) ∧ p.2.2.length ≤ 1000000
theorem RdE.same {w w1 : World} {p : RowE} (h : RdE w p) (hb : w1.heap[p.1]? = w.heap[p.1]?) : RdE w1 p := ⟨fun j hj => by rw [← h.1 j hj]; unfold World.cell?; rw [hb], h.2⟩
theorem cmpL_drop {a b : List Int} {i : Nat} (ha : i < a.length) (hb : i < b.length) : cmpL (a.drop i) (b.drop i) = if a.getD i 0 < b.getD i 0 then -1 else if b.getD i 0 < a.getD i 0 then 1 else cmpL (a.drop (i + 1)) (b.drop (i + 1)) := by
  rw [List.drop_eq_getElem_cons ha, List.drop_eq_getElem_cons hb]
  simp [cmpL, List.getD_eq_getElem?_getD, List.getElem?_eq_getElem ha, List.getElem?_eq_getElem hb]
theorem compare_calls (p q : RowE) (w : World) (hp : RdE w p) (hq : RdE w q) : Calls Try.prog 41 #[encE p, encE q] w fun e w' => e = .returned (.int .i64 (cmpL p.2.2 q.2.2)) ∧ w' = w := by
  obtain ⟨b1, c1, l1⟩ := p
  obtain ⟨b2, c2, l2⟩ := q
  unfold encE
  have HP := Aside0.mk hp
  have HQ := Aside0.mk hq
  obtain ⟨r, hr⟩ : ∃ r, r = cmpL l1 l2 := ⟨_, rfl⟩
  have HR := Aside0.mk (show cmpL (l1.drop 0) (l2.drop 0) = r from by rw [hr]; simp)
  have hl1 : l1.length ≤ 1000000 := hp.2
  have hl2 : l2.length ≤ 1000000 := hq.2
  simp only
  rw [← hr]
  clear hp hq hr
  go_enter Try.func41, Try.ntmps41
  go_wp2
  go_loopg [11] l1.length (fun gg v11 wr => ∃ i : Nat, i ≤ l1.length ∧ l1.length - i ≤ gg ∧ i ≤ l2.length ∧ v11 = .int .i64 i ∧ wr = w ∧ Aside0 (cmpL (l1.drop i) (l2.drop i) = r))
  case atStart => exact ⟨0, by omega, by omega, by omega, rfl, rfl, HR⟩
  case round =>
    clear HR
    obtain ⟨i, hi, hgg, hi2, rfl, hw, HR⟩ := hrel
    subst hw
    by_cases hlt : i < l1.length
    · have h1 : (i : Int) < (l1.length : Int) := by omega
      have hc1 := HP.out.1 i hlt
      simp only at hc1
      by_cases hlt2 : i < l2.length
      · have h2 : ¬ (l2.length : Int) ≤ (i : Int) := by omega
        have h2' : (i : Int) < (l2.length : Int) := by omega
        have hc2 := HQ.out.1 i hlt2
        simp only at hc2
        have HD := Aside0.mk (cmpL_drop hlt hlt2)
        generalize l1.getD i 0 = x at *
        generalize l2.getD i 0 = y at *
        have HC := Aside0.mk (Try.cmp_Compare_int x y wr)
        unfold Go.Lib.compareInt at HC
        by_cases hxy : x < y
        · rw [if_pos hxy] at HC HD
          clear hxy
          go_wp2_with (first | (go_at_call 70; refine HC.out.mono ?_; rintro e w2 ⟨rfl, hw⟩; rw [hw]; clear hw))
          go_ret
          exact ⟨by rw [← HR.out, HD.out]; rfl, rfl⟩
        · rw [if_neg hxy] at HC HD
          clear hxy
          by_cases hyx : y < x
          · rw [if_pos hyx] at HC HD
            clear hyx
            go_wp2_with (first | (go_at_call 70; refine HC.out.mono ?_; rintro e w2 ⟨rfl, hw⟩; rw [hw]; clear hw))
            go_ret
            exact ⟨by rw [← HR.out, HD.out]; rfl, rfl⟩
          · rw [if_neg hyx] at HC HD
            clear hyx
            go_wp2_with (first | (go_at_call 70; refine HC.out.mono ?_; rintro e w2 ⟨rfl, hw⟩; rw [hw]; clear hw))
            go_roundg (l1.length - (i + 1))
            case measure => omega
            case rel => exact ⟨i + 1, by omega, by omega, by omega, by go_num, rfl, ⟨by rw [← HR.out, HD.out]⟩⟩
      · have h2 : (l2.length : Int) ≤ (i : Int) := by omega
        have HD := Aside0.mk (show cmpL (l1.drop i) (l2.drop i) = 1 from by rw [List.drop_eq_getElem_cons hlt, List.drop_of_length_le (show l2.length ≤ i by omega)]; rfl)
        go_wp2
        go_ret
        exact ⟨by rw [← HR.out, HD.out]; rfl, rfl⟩
    · have h1 : ¬ (i : Int) < (l1.length : Int) := by omega
      by_cases hlt2 : l1.length < l2.length
      · have h2 : (l1.length : Int) < (l2.length : Int) := by omega
        have HD := Aside0.mk (show cmpL (l1.drop i) (l2.drop i) = -1 from by rw [List.drop_eq_getElem_cons (show i < l2.length by omega), List.drop_of_length_le (show l1.length ≤ i by omega)]; rfl)
        go_wp2
        go_ret
        exact ⟨by rw [← HR.out, HD.out]; rfl, rfl⟩
      · have h2 : ¬ (l1.length : Int) < (l2.length : Int) := by omega
        have HD := Aside0.mk (show cmpL (l1.drop i) (l2.drop i) = 0 from by rw [List.drop_of_length_le (show l2.length ≤ i by omega), List.drop_of_length_le (show l1.length ≤ i by omega)]; rfl)
        go_wp2
        go_ret
        exact ⟨by rw [← HR.out, HD.out]; rfl, rfl⟩
end Go.Proofs.Ytgfbgbclpeihdaa.Li
