/- The reference's accesses, plain: no condition. -/
import Derived.Test.YtgfbgbclpeihdaaSnpB
namespace Go.Proofs.Ytgfbgbclpeihdaa.XSn
open Go.RowKit Go.Proofs.YtgfbgbclpeihdaaW.PrintWords Go.Proofs.YtgfbgbclpeihdaaW.PrintLast Go.Proofs.YtgfbgbclpeihdaaW.PrintMore
set_option linter.unusedVariables false
set_option linter.unusedSimpArgs false
set_option maxRecDepth 100000
set_option maxHeartbeats 4000000
def acG (o : Int) (x : S44) : List S44 := if x.f0 = 5 then [] else [⟨x.f0, x.f1, x.f2, x.f3, o⟩]
theorem acG_len (o : Int) (x : S44) : (acG o x).length ≤ 1 := by unfold acG; split <;> simp
theorem ac_l1 (o : Int) (l : List (List S44)) (hl : l.length ≤ 1000) (hb : ∀ r ∈ l, r.length ≤ 1000)
    (i : Nat) (hi : i < l.length) (out : List (List S44)) (ho : out.length ≤ 1000) (N : Nat) (R : List (List S44)) (Y : List S44)
    (h0 : ∀ k, N < k → locklessref03_accesses.l0 k o ((i : Int) + 1) l (out ++ [Y]) = some R) :
    ∀ (m j : Nat), (l[i]).length - j = m → j ≤ (l[i]).length → ∀ (x8 : List S44) (k : Nat), x8.length ≤ j → x8 ++ ((l[i]).drop j).flatMap (acG o) = Y → m + 1 + N < k → locklessref03_accesses.l1 k o i x8 j l out = some R
  | 0, j, hm, hj, x8, k, hx, hY, hk => by
    obtain ⟨k, rfl, hk'⟩ := succ_fuel hk
    rw [List.drop_of_length_le (show (l[i]).length ≤ j by omega), List.flatMap_nil, List.append_nil] at hY
    subst hY
    rw [locklessref03_accesses.l1, if_pos (by omega), if_pos (by omega), L2_at hi, if_neg (by omega), if_pos (by omega), w64 (by omega) (by omega)]
    exact h0 k (by omega)
  | m + 1, j, hm, hj, x8, k, hx, hY, hk => by
    obtain ⟨k, rfl, hk'⟩ := succ_fuel hk
    have hr := hb l[i] (List.getElem_mem hi)
    have hlt : j < (l[i]).length := by omega
    rw [List.drop_eq_getElem_cons hlt, List.flatMap_cons, ← List.append_assoc] at hY
    have h3' := acG_len o (l[i])[j]
    have ih := ac_l1 o l hl hb i hi out ho N R Y h0 m (j + 1) (by omega) (by omega) (x8 ++ acG o (l[i])[j]) k (by rw [List.length_append]; omega) hY (by omega)
    rw [locklessref03_accesses.l1, if_pos (by omega), if_pos (by omega), L2_at hi, if_pos (by omega), if_pos (by omega), T_at hlt, w64 (by omega) (by omega), show ((j : Int) + 1) = ((j + 1 : Nat) : Int) by omega]
    unfold acG at ih
    generalize (l[i])[j] = x at *
    by_cases h5 : x.f0 = 5
    · rw [if_pos h5]
      rw [if_pos h5, List.append_nil] at ih
      exact ih
    · rw [if_neg h5, if_pos (by omega)]
      rw [if_neg h5] at ih
      exact ih
theorem ac_l0 (o : Int) (l : List (List S44)) (hl : l.length ≤ 1000) (hb : ∀ r ∈ l, r.length ≤ 1000) :
    ∀ (m i : Nat), l.length - i = m → i ≤ l.length → ∀ (out : List (List S44)) (k : Nat), out.length ≤ i → need (l.drop i) < k → locklessref03_accesses.l0 k o i l out = some (out ++ (l.drop i).map (·.flatMap (acG o)))
  | 0, i, hm, hi, out, k, ho, hk => by
    obtain ⟨k, rfl, _⟩ := succ_fuel hk
    rw [locklessref03_accesses.l0, if_neg (by omega), List.drop_of_length_le (by omega), List.map_nil, List.append_nil]
  | m + 1, i, hm, hi, out, k, ho, hk => by
    have hlt : i < l.length := by omega
    rw [need_drop hlt] at hk
    obtain ⟨k, rfl, hk'⟩ := succ_fuel hk
    rw [locklessref03_accesses.l0, if_pos (by omega)]
    refine ac_l1 o l hl hb i hlt out (by omega) (need (l.drop (i + 1))) _ ((l[i]).flatMap (acG o)) (fun k hk => ?_) (l[i]).length 0 (by omega) (by omega) [] k (by simp) (by simp) (by omega)
    have ih := ac_l0 o l hl hb m (i + 1) (by omega) (by omega) (out ++ [(l[i]).flatMap (acG o)]) k (by rw [List.length_append, List.length_singleton]; omega) hk
    rw [show ((i : Int) + 1) = ((i + 1 : Nat) : Int) by omega, ih, List.drop_eq_getElem_cons hlt, List.map_cons, List.append_assoc]
    rfl
theorem accs_f (o : Int) (l : List (List S44)) (hl : l.length ≤ 1000) (hb : ∀ r ∈ l, r.length ≤ 1000) (k : Nat) (hk : need l < k) : locklessref03_accesses.f k l o = some (l.map (·.flatMap (acG o))) := by
  have := ac_l0 o l hl hb l.length 0 (by omega) (by omega) [] k (by simp) (by rw [List.drop_zero]; exact hk)
  rw [List.drop_zero, List.nil_append] at this
  exact this
theorem ok_k {x : S44} (h : Li.okL (opOf x) = true) : 0 ≤ x.f0 ∧ x.f0 ≤ 5 := by
  unfold Li.okL Li.mayL at h
  simp only [Bool.and_eq_true, decide_eq_true_eq] at h
  exact h.1.1.1
theorem acc_iff {x : S44} (h : Li.okL (opOf x) = true) : Li.accL (opOf x) = true ↔ ¬ x.f0 = 5 := by
  have := ok_k h
  unfold Li.accL
  simp only [Bool.and_eq_true, decide_eq_true_eq]
  show (0 ≤ x.f0 ∧ x.f0 ≤ 4) ↔ _
  omega
theorem flatMap_ext' {G H : S44 → List S44} : ∀ (r : List S44), (∀ x ∈ r, G x = H x) → r.flatMap G = r.flatMap H
  | [], _ => rfl
  | x :: r, h => by rw [List.flatMap_cons, List.flatMap_cons, h x List.mem_cons_self, flatMap_ext' r (fun y hy => h y (List.mem_cons_of_mem _ hy))]
theorem flat_le {G : S44 → List S44} (hG : ∀ x, (G x).length ≤ 1) : ∀ (r : List S44), (r.flatMap G).length ≤ r.length
  | [] => Nat.le_refl _
  | x :: r => by have := hG x; have := flat_le hG r; rw [List.flatMap_cons, List.length_append, List.length_cons]; omega
theorem lens_le {G : S44 → List S44} (hG : ∀ x, (G x).length ≤ 1) : ∀ (l : List (List S44)), lens (l.map (·.flatMap G)) ≤ lens l
  | [] => Nat.le_refl _
  | r :: l => by
    have h1 := flat_le hG r
    have h2 := lens_le hG l
    simp only [lens, List.map_cons, List.sum_cons] at *
    omega
end Go.Proofs.Ytgfbgbclpeihdaa.XSn
