/- litmus.Interleavings, walked: plain lemmas; no condition. -/
import Derived.Test.YtgfbgbclpeihdaaLiL
import Derived.Test.YtgfbgbclpeihdaaLiC
namespace Go.Proofs.Ytgfbgbclpeihdaa.Li
open Go.RowKit Go.Proofs.YtgfbgbclpeihdaaW.PrintWords Go.Proofs.YtgfbgbclpeihdaaW.PrintLast Go.Proofs.YtgfbgbclpeihdaaW.PrintMore
set_option linter.unusedVariables false
set_option linter.unusedSimpArgs false
set_option maxHeartbeats 8000000
set_option maxRecDepth 100000
theorem goesL_len (m : Mem) (t : Nat) (x : LOp) : (goesL m t x).length ≤ 2 := by
  unfold goesL
  split
  · simp
  split
  · simp
  split
  · simp
  split
  · split <;> simp
  · simp
theorem flat_bound (rec : Mem → List (List Int)) (b : Nat) (hb : ∀ m, (rec m).length ≤ b) : ∀ (l : List Mem), (l.flatMap rec).length ≤ l.length * b
  | [] => by simp
  | m :: l => by
    rw [List.flatMap_cons, List.length_append, List.length_cons, Nat.succ_mul]
    have := hb m
    have := flat_bound rec b hb l
    omega
theorem fromT_bound (P : List (List LOp)) (rec : Mem → List (List Int)) (b : Nat) (hb : ∀ m, (rec m).length ≤ b) (m : Mem) : ∀ (k t : Nat) (over : Bool), (fromT P rec m k t over).length ≤ 2 * b * k + 1
  | 0, _, over => by unfold fromT; cases over <;> simp
  | k + 1, t, over => by
    unfold fromT
    split
    · have := fromT_bound P rec b hb m k (t + 1) over
      rw [Nat.mul_succ]; omega
    · rw [List.length_append, Nat.mul_succ]
      generalize (P.getD t []).getD (m.nx.getD t 0) default = x
      have h1 := flat_bound rec b hb (goesL m t x)
      have h2 := goesL_len m t x
      have h3 := Nat.mul_le_mul_right b h2
      have h4 := fromT_bound P rec b hb m k (t + 1) false
      have h5 : (if accL x = true then fromT P rec m k (t + 1) false else []).length ≤ 2 * b * k + 1 := by
        cases accL x with
        | true => exact h4
        | false => exact Nat.zero_le _
      omega
theorem outsL_bound (P : List (List LOp)) (hP : P.length ≤ 3) : ∀ (f : Nat) (m : Mem), 5 * (outsL P f m).length + 1 ≤ 6 ^ f
  | 0, m => by simp [outsL]
  | f + 1, m => by
    have hb : ∀ m, (outsL P f m).length ≤ (6 ^ f - 1) / 5 := fun m => by
      have := outsL_bound P hP f m
      omega
    have h := fromT_bound P (outsL P f) ((6 ^ f - 1) / 5) hb m P.length 0 true
    have h0 := outsL_bound P hP f m
    have h2 : 2 * ((6 ^ f - 1) / 5) * P.length ≤ 2 * ((6 ^ f - 1) / 5) * 3 := Nat.mul_le_mul_left _ hP
    show 5 * (fromT P (outsL P f) m P.length 0 true).length + 1 ≤ 6 ^ (f + 1)
    rw [Nat.pow_succ]
    omega
theorem walk_all (w00 : World) (A : Option Addr) (c : Nat) (P : List (List LOp)) (gp gw ga : Nat) (hp : PAt w00 A P) (hP3 : P.length ≤ 3) (hok : P.flatten.all okL = true) (hlen : ∀ t, (P.getD t []).length ≤ 1000) : ∀ f, WalkAt w00 A c P gp gw ga f := by
  intro f
  induction f with
  | zero => intro W ws nx A' C' X v es _ _ _ _ _ _ h; exact absurd h (Nat.not_lt_zero _)
  | succ f ih => exact walk_step w00 A c P gp gw ga hp hP3 hok hlen f ih
/-- A valid program is small. -/
theorem small {P : List (List LOp)} (h : checkL P = 0) : P.length ≤ 3 ∧ P.flatten.all okL = true ∧ P.flatten.length ≤ 14 ∧ P ≠ [] := by
  unfold checkL at h
  split at h
  · exact absurd h (by decide)
  rename_i hl
  split at h
  · exact absurd h (by decide)
  rename_i hne
  split at h
  · rename_i hok
    rw [Bool.not_eq_false] at hl
    unfold limL at hl
    simp only [Bool.and_eq_true, decide_eq_true_eq] at hl
    obtain ⟨h3, ⟨ha, hf⟩, _⟩ := hl
    refine ⟨h3, hok, ?_, hne⟩
    have key : ∀ L : List LOp, L.all okL = true → L.length ≤ nAcc L + nFen L := by
      intro L
      induction L with
      | nil => intro _; simp
      | cons x L ih =>
        intro h
        rw [List.all_cons, Bool.and_eq_true] at h
        have h1 := ih h.2
        have h2 : 1 ≤ b1 (accL x) + fenW x := by
          have hx := h.1
          unfold okL mayL at hx
          simp only [Bool.and_eq_true, decide_eq_true_eq] at hx
          obtain ⟨⟨⟨⟨hk0, hk5⟩, _⟩, _⟩, _⟩ := hx
          by_cases e : x.k = 5
          · unfold fenW; rw [show decide (x.k = 5) = true by simpa using e]; simp only [b1, if_true]; omega
          · have : accL x = true := by unfold accL; simp; omega
            rw [this]; simp only [b1, if_true]; omega
        simp only [nAcc, nFen, List.map_cons, List.sum_cons, List.length_cons] at *
        omega
    have := key P.flatten hok
    omega
  · exact absurd h (by decide)
theorem getD_len {P : List (List LOp)} (t : Nat) : (P.getD t []).length ≤ P.flatten.length := by
  by_cases h : t < P.length
  · rw [List.getD_eq_getElem?_getD, List.getElem?_eq_getElem h]
    have := flat_mid h (P[t]).length P.flatten.length (Nat.le_refl _)
    rw [List.take_length, List.length_append] at this
    show (P[t]).length ≤ _
    omega
  · rw [List.getD_eq_getElem?_getD, List.getElem?_eq_none (by omega)]
    simp
theorem rem_le {P : List (List LOp)} (h : P.length ≤ 3) : rem P [0, 0, 0] ≤ P.flatten.length := by
  unfold rem nAt
  match P, h with
  | [], _ => simp
  | [a], _ => simp
  | [a, b], _ => simp
  | [a, b, c], _ => simp; omega
/-- The rows, as the kit's words say them. -/
theorem rows_of {W : World} {B : Nat} {v : Value} {es : List RowE} (ho : kdE.R 46 W B (fun _ => True) v es) (hr : ∀ e ∈ es, Kd.R (Kd.int .i64) 3 W B (fun _ => True) (encE e) e.2.2) : Kd.R (Kd.slice 3 (Kd.int .i64)) 46 W B (fun _ => True) v (es.map (·.2.2)) := by
  have hown := Kd.own_of_R ho
  refine ⟨fun _ _ => trivial, es.map encE, by rw [List.length_map]; exact hown, by simp [Kd.slice], fun j p hj => ?_⟩
  rw [List.getElem?_map] at hj
  obtain ⟨e, he, rfl⟩ := Option.map_eq_some_iff.1 hj
  obtain ⟨hjl, hje⟩ := List.getElem?_eq_some_iff.1 he
  refine ⟨encE e, ?_, ?_⟩
  · show ((es.map encE).drop (j * 1)).take 1 = [encE e]
    rw [Nat.mul_one, List.drop_eq_getElem_cons (by simpa using hjl)]
    simp [hje]
  · have h1 := hr e (by rw [← hje]; exact List.getElem_mem hjl)
    refine Kd.R_mono (Kd.R_bound h1) (fun k hk => ⟨trivial, ?_⟩)
    obtain ⟨_, _, _, q, hq, cells, hc⟩ := hk
    have e3 : q = 3 := by simpa [Kd.int, Kd.scalar] using hq
    subst e3
    exact Kd.R_ne ho hc (by decide)
end Go.Proofs.Ytgfbgbclpeihdaa.Li
