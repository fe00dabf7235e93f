/- Reads of both sides; LitmusChecks in plain words: no condition. -/
import Derived.Test.YtgfbgbclpeihdaaChpO
import Derived.Test.YtgfbgbclpeihdaaChpM
namespace Go.Proofs.Ytgfbgbclpeihdaa.XCh
open Go.RowKit Go.Proofs.YtgfbgbclpeihdaaW.PrintWords Go.Proofs.YtgfbgbclpeihdaaW.PrintLast Go.Proofs.YtgfbgbclpeihdaaW.PrintMore
set_option linter.unusedVariables false
set_option linter.unusedSimpArgs false
set_option maxRecDepth 100000
theorem access_f (x : S44) : litmus_access.f x.f0 x.f1 x.f2 x.f3 x.f4 = some (Li.accL (opOf x)) := by
  unfold litmus_access.f Li.accL opOf
  by_cases h : x.f0 ≥ 0
  · rw [if_pos h, show decide (0 ≤ x.f0) = true by simp; omega, Bool.true_and]
  · rw [if_neg h, show decide (0 ≤ x.f0) = false by simp; omega]; rfl
theorem lreads_f (x : S44) : litmus_reads.f x.f0 x.f1 x.f2 x.f3 x.f4 = some (Li.rdL (opOf x)) := by
  unfold litmus_reads.f Li.rdL
  rw [access_f, Option.bind_some]
  cases Li.accL (opOf x) with
  | false => rw [if_neg (by decide)]; rfl
  | true =>
    rw [if_pos rfl, Bool.true_and]
    congr 1
    by_cases h : x.f0 = 1 <;> simp [opOf, h]
def cntN (p : S44 → Bool) (r : List S44) : Nat := (r.map fun x => Li.b1 (p x)).sum
def cntA (p : S44 → Bool) (l : List (List S44)) : Nat := (l.map (cntN p)).sum
theorem cntN_le (p : S44 → Bool) (r : List S44) : cntN p r ≤ r.length := by
  induction r with
  | nil => simp [cntN]
  | cons x r ih => have := Li.b1_le (p x); simp only [cntN, List.map_cons, List.sum_cons, List.length_cons] at *; omega
theorem cntN_drop (p : S44 → Bool) {r : List S44} {j : Nat} (h : j < r.length) : cntN p (r.drop j) = Li.b1 (p r[j]) + cntN p (r.drop (j + 1)) := by
  rw [List.drop_eq_getElem_cons h]; simp only [cntN, List.map_cons, List.sum_cons]
theorem cntA_drop (p : S44 → Bool) {l : List (List S44)} {i : Nat} (h : i < l.length) : cntA p (l.drop i) = cntN p l[i] + cntA p (l.drop (i + 1)) := by
  rw [List.drop_eq_getElem_cons h]; simp only [cntA, List.map_cons, List.sum_cons]
theorem lr_l1 (l : List (List S44)) (hl : l.length ≤ 1000) (hb : ∀ r ∈ l, r.length ≤ 1000) (i : Nat) (hi : i < l.length)
    (h0 : ∀ (c k : Nat), c + lens (l.drop (i + 1)) ≤ 10000000 → need (l.drop (i + 1)) < k → litmus_Reads.l0 k c l l.length ((i : Int) + 1) = some ((c : Int) + cntA (fun x => Li.rdL (opOf x)) (l.drop (i + 1)), 0)) :
    ∀ (m j : Nat), (l[i]).length - j = m → j ≤ (l[i]).length → ∀ (c k : Nat), c + ((l[i]).length - j) + lens (l.drop (i + 1)) ≤ 10000000 → m + 1 + need (l.drop (i + 1)) < k →
      litmus_Reads.l1 k c l l.length i l[i] (l[i]).length j = some ((c : Int) + cntN (fun x => Li.rdL (opOf x)) ((l[i]).drop j) + cntA (fun x => Li.rdL (opOf x)) (l.drop (i + 1)), 0)
  | 0, j, hm, hj, c, k, hc, hk => by
    obtain ⟨k, rfl, hk'⟩ := succ_fuel hk
    unfold litmus_Reads.l1
    rw [if_neg (by omega), w64 (by omega) (by omega), h0 c k (by omega) (by omega), List.drop_of_length_le (show (l[i]).length ≤ j by omega)]
    simp [cntN]
  | m + 1, j, hm, hj, c, k, hc, hk => by
    obtain ⟨k, rfl, hk'⟩ := succ_fuel hk
    have hr := hb l[i] (List.getElem_mem hi)
    have hlt : j < (l[i]).length := by omega
    unfold litmus_Reads.l1
    rw [if_pos (by omega), if_pos (by omega), if_pos (by omega), T_at hlt, lreads_f, Option.bind_some, cntN_drop _ hlt]
    cases hq : Li.rdL (opOf (l[i])[j]) with
    | true =>
      have ih := lr_l1 l hl hb i hi h0 m (j + 1) (by omega) (by omega) (c + 1) k (by omega) (by omega)
      rw [if_pos rfl, w64 (by omega) (by omega), w64 (by omega) (by omega)]
      rw [show ((c : Int) + 1) = ((c + 1 : Nat) : Int) by omega, show ((j : Int) + 1) = ((j + 1 : Nat) : Int) by omega, ih]
      simp only [Li.b1, if_true]
      congr 2
      omega
    | false =>
      have ih := lr_l1 l hl hb i hi h0 m (j + 1) (by omega) (by omega) c k (by omega) (by omega)
      rw [if_neg (by decide), w64 (by omega) (by omega)]
      rw [show ((j : Int) + 1) = ((j + 1 : Nat) : Int) by omega, ih]
      simp [Li.b1]
theorem lr_l0 (l : List (List S44)) (hl : l.length ≤ 1000) (hb : ∀ r ∈ l, r.length ≤ 1000) : ∀ (m i : Nat), l.length - i = m → i ≤ l.length → ∀ (c k : Nat), c + lens (l.drop i) ≤ 10000000 → need (l.drop i) < k →
    litmus_Reads.l0 k c l l.length i = some ((c : Int) + cntA (fun x => Li.rdL (opOf x)) (l.drop i), 0)
  | 0, i, hm, hi, c, k, hc, hk => by
    obtain ⟨k, rfl, _⟩ := succ_fuel hk
    unfold litmus_Reads.l0
    rw [if_neg (by omega), List.drop_of_length_le (by omega)]
    simp [cntA]
  | m + 1, i, hm, hi, c, k, hc, hk => by
    have hlt : i < l.length := by omega
    rw [need_drop hlt] at hk
    obtain ⟨k, rfl, hk'⟩ := succ_fuel hk
    have hr := hb l[i] (List.getElem_mem hlt)
    rw [lens_drop hlt] at hc
    have h0 : ∀ (c k : Nat), c + lens (l.drop (i + 1)) ≤ 10000000 → need (l.drop (i + 1)) < k → litmus_Reads.l0 k c l l.length ((i : Int) + 1) = some ((c : Int) + cntA (fun x => Li.rdL (opOf x)) (l.drop (i + 1)), 0) := fun c k hc hk => by
      have := lr_l0 l hl hb m (i + 1) (by omega) (by omega) c k hc hk
      rw [← this]; congr 1
    unfold litmus_Reads.l0
    rw [if_pos (by omega), if_pos (by omega), if_pos (by omega), L2_at hlt]
    have := lr_l1 l hl hb i hlt h0 (l[i]).length 0 (by omega) (by omega) c k (by omega) (by omega)
    rw [cntA_drop _ hlt]
    rw [show ((0 : Nat) : Int) = 0 from rfl, List.drop_zero] at this
    rw [this]
    congr 2
    omega
/-- What the reference counts. -/
def rp (x : S44) : Bool := !(x.f0 == 1) && !(x.f0 == 5)
theorem rr_l1 (l : List (List S44)) (hl : l.length ≤ 1000) (hb : ∀ r ∈ l, r.length ≤ 1000) (i : Nat) (hi : i < l.length)
    (h0 : ∀ (c k : Nat), c + lens (l.drop (i + 1)) ≤ 10000000 → need (l.drop (i + 1)) < k → locklessref03_Reads.l0 k c ((i : Int) + 1) l = some ((c : Int) + cntA rp (l.drop (i + 1)), 0)) :
    ∀ (m j : Nat), (l[i]).length - j = m → j ≤ (l[i]).length → ∀ (c k : Nat), c + ((l[i]).length - j) + lens (l.drop (i + 1)) ≤ 10000000 → m + 1 + need (l.drop (i + 1)) < k →
      locklessref03_Reads.l1 k c i j l = some ((c : Int) + cntN rp ((l[i]).drop j) + cntA rp (l.drop (i + 1)), 0)
  | 0, j, hm, hj, c, k, hc, hk => by
    obtain ⟨k, rfl, hk'⟩ := succ_fuel hk
    unfold locklessref03_Reads.l1
    rw [if_pos (by omega), if_pos (by omega), L2_at hi, if_neg (by omega), w64 (by omega) (by omega), h0 c k (by omega) (by omega), List.drop_of_length_le (show (l[i]).length ≤ j by omega)]
    simp [cntN]
  | m + 1, j, hm, hj, c, k, hc, hk => by
    obtain ⟨k, rfl, hk'⟩ := succ_fuel hk
    have hr := hb l[i] (List.getElem_mem hi)
    have hlt : j < (l[i]).length := by omega
    unfold locklessref03_Reads.l1
    rw [if_pos (by omega), if_pos (by omega), L2_at hi, if_pos (by omega), if_pos (by omega), T_at hlt, cntN_drop _ hlt]
    by_cases h1 : ((l[i])[j]).f0 = 1
    · have ih := rr_l1 l hl hb i hi h0 m (j + 1) (by omega) (by omega) c k (by omega) (by omega)
      rw [if_pos h1, w64 (by omega) (by omega)]
      rw [show ((j : Int) + 1) = ((j + 1 : Nat) : Int) by omega, ih]
      simp [Li.b1, rp, h1]
    · rw [if_neg h1]
      by_cases h5 : ((l[i])[j]).f0 = 5
      · have ih := rr_l1 l hl hb i hi h0 m (j + 1) (by omega) (by omega) c k (by omega) (by omega)
        rw [if_pos h5, w64 (by omega) (by omega)]
        rw [show ((j : Int) + 1) = ((j + 1 : Nat) : Int) by omega, ih]
        simp [Li.b1, rp, h5]
      · have ih := rr_l1 l hl hb i hi h0 m (j + 1) (by omega) (by omega) (c + 1) k (by omega) (by omega)
        rw [if_neg h5, w64 (by omega) (by omega), w64 (by omega) (by omega)]
        rw [show ((c : Int) + 1) = ((c + 1 : Nat) : Int) by omega, show ((j : Int) + 1) = ((j + 1 : Nat) : Int) by omega, ih]
        rw [show Li.b1 (rp (l[i])[j]) = 1 from by simp [Li.b1, rp, h1, h5]]
        congr 2
        omega
theorem rr_l0 (l : List (List S44)) (hl : l.length ≤ 1000) (hb : ∀ r ∈ l, r.length ≤ 1000) : ∀ (m i : Nat), l.length - i = m → i ≤ l.length → ∀ (c k : Nat), c + lens (l.drop i) ≤ 10000000 → need (l.drop i) < k →
    locklessref03_Reads.l0 k c i l = some ((c : Int) + cntA rp (l.drop i), 0)
  | 0, i, hm, hi, c, k, hc, hk => by
    obtain ⟨k, rfl, _⟩ := succ_fuel hk
    unfold locklessref03_Reads.l0
    rw [if_neg (by omega), List.drop_of_length_le (by omega)]
    simp [cntA]
  | m + 1, i, hm, hi, c, k, hc, hk => by
    have hlt : i < l.length := by omega
    rw [need_drop hlt] at hk
    obtain ⟨k, rfl, hk'⟩ := succ_fuel hk
    have hr := hb l[i] (List.getElem_mem hlt)
    rw [lens_drop hlt] at hc
    have h0 : ∀ (c k : Nat), c + lens (l.drop (i + 1)) ≤ 10000000 → need (l.drop (i + 1)) < k → locklessref03_Reads.l0 k c ((i : Int) + 1) l = some ((c : Int) + cntA rp (l.drop (i + 1)), 0) := fun c k hc hk => by
      have := rr_l0 l hl hb m (i + 1) (by omega) (by omega) c k hc hk
      rw [← this]; congr 1
    unfold locklessref03_Reads.l0
    rw [if_pos (by omega)]
    have := rr_l1 l hl hb i hlt h0 (l[i]).length 0 (by omega) (by omega) c k (by omega) (by omega)
    rw [cntA_drop _ hlt]
    rw [show ((0 : Nat) : Int) = 0 from rfl, List.drop_zero] at this
    rw [this]
    congr 2
    omega
theorem cntN_eq {r : List S44} (h : ∀ x ∈ r, Li.okL (opOf x) = true) : cntN (fun x => Li.rdL (opOf x)) r = cntN rp r := by
  unfold cntN
  congr 1
  apply List.map_congr_left
  intro x hx
  congr 1
  have := h x hx
  unfold Li.okL at this
  rw [Bool.and_eq_true] at this
  have hm := this.1
  unfold Li.mayL at hm
  simp only [Bool.and_eq_true, decide_eq_true_eq] at hm
  have h0 : 0 ≤ x.f0 := hm.1.1.1
  have h5 : x.f0 ≤ 5 := hm.1.1.2
  unfold Li.rdL Li.accL rp opOf
  simp only
  rcases (show x.f0 = 0 ∨ x.f0 = 1 ∨ x.f0 = 2 ∨ x.f0 = 3 ∨ x.f0 = 4 ∨ x.f0 = 5 by omega) with e | e | e | e | e | e <;> rw [e] <;> rfl
theorem cntA_eq {l : List (List S44)} (h : ∀ x ∈ l.flatten, Li.okL (opOf x) = true) : cntA (fun x => Li.rdL (opOf x)) l = cntA rp l := by
  unfold cntA
  congr 1
  apply List.map_congr_left
  intro r hr
  exact cntN_eq (fun x hx => h x (List.mem_flatten.2 ⟨r, hr, hx⟩))
theorem ok_of_check {l : List (List S44)} (h : Li.checkL (progOf l) = 0) : ∀ x ∈ l.flatten, Li.okL (opOf x) = true := by
  unfold Li.checkL at h
  split at h
  · simp at h
  split at h
  · simp at h
  split at h
  · rename_i hall
    rw [List.all_eq_true] at hall
    intro x hx
    refine hall _ ?_
    unfold progOf
    rw [← List.map_flatten]
    exact List.mem_map.2 ⟨x, hx, rfl⟩
  · simp at h
theorem reads_both (l : List (List S44)) (hl : l.length ≤ 1000) (hb : ∀ r ∈ l, r.length ≤ 1000) (hs : lens l ≤ 1000000) (k : Nat) (hk : need l < k) (hk2 : needC l + 10 < k) :
    ∃ n, litmus_Reads.f k l = some n ∧ locklessref03_Reads.f k l = some n := by
  unfold litmus_Reads.f locklessref03_Reads.f
  rw [check_f l hl hs, rcheck_f l hl hs k hk2, Option.bind_some, Option.bind_some]
  by_cases hc : Li.checkL (progOf l) = 0
  · rw [if_pos hc, if_pos hc]
    have h1 := lr_l0 l hl hb l.length 0 (by omega) (by omega) 0 k (by rw [List.drop_zero]; omega) (by rw [List.drop_zero]; exact hk)
    have h2 := rr_l0 l hl hb l.length 0 (by omega) (by omega) 0 k (by rw [List.drop_zero]; omega) (by rw [List.drop_zero]; exact hk)
    rw [List.drop_zero] at h1 h2
    rw [cntA_eq (ok_of_check hc)] at h1
    exact ⟨_, h1, h2⟩
  · rw [if_neg hc, if_neg hc]
    exact ⟨_, rfl, rfl⟩
/-- The law holds of every program. -/
theorem checks_true (l : List (List S44)) (hl : l.length ≤ 17592186044416) (hb : ∀ r ∈ l, r.length ≤ 35184372088832) : ∃ k, locklesslaw03_LitmusChecks.f k l = some true := by
  obtain ⟨b, h1, h2⟩ := large_f l hl hb
  refine ⟨l.length + 1000, ?_⟩
  unfold locklesslaw03_LitmusChecks.f
  rw [h1 _ (by omega), Option.bind_some]
  cases b with
  | true =>
    rw [if_pos rfl, sane_f _ (by omega)]; rfl
  | false =>
    have hn := h2 rfl
    have hb2 : ∀ r ∈ l, r.length ≤ 1000 := fun r hr => by have := len_lens hr; omega
    obtain ⟨n, e1, e2⟩ := reads_both l (by omega) hb2 (by omega) (l.length + 1000) (by rw [need_lens]; omega) (by rw [needC_lens]; omega)
    rw [if_neg (by decide), own_f l (by omega) hb2 _ (by omega), Option.bind_some, e1, Option.bind_some, e2, Option.bind_some, check_f l (by omega) (by omega), Option.bind_some, rcheck_f l (by omega) (by omega) _ (by rw [needC_lens]; omega), Option.bind_some]
    rw [if_pos rfl, if_pos rfl, if_pos rfl, same_f l (by omega) hb2 _ (by rw [need_lens]; omega), Option.bind_some, if_pos rfl, sane_f _ (by omega)]
    rfl
end Go.Proofs.Ytgfbgbclpeihdaa.XCh
