/- What the reference's Check computes is checkL: plain; no condition. -/
import Derived.Test.YtgfbgbclpeihdaaRcpA
namespace Go.Proofs.Ytgfbgbclpeihdaa.XRc
open Go.RowKit Go.Proofs.Ytgfbgbclpeihdaa.Li Go.Proofs.YtgfbgbclpeihdaaW.PrintWords Go.Proofs.YtgfbgbclpeihdaaW.PrintLast Go.Proofs.YtgfbgbclpeihdaaW.PrintMore
set_option linter.unusedVariables false
set_option linter.unusedSimpArgs false
set_option maxRecDepth 100000
set_option maxHeartbeats 4000000
theorem rmay_f (n : Nat) (a b : Int) : locklessref03_may.f (n + 1) a b = some (mayL a b) := by
  unfold locklessref03_may.f mayL
  by_cases o0 : b < 0
  · rw [if_pos o0]
    unfold locklessref03_may.j0; dsimp only
    rw [if_pos rfl, show decide (0 ≤ b) = false by simp; omega]; simp
  · rw [if_neg o0]
    unfold locklessref03_may.j0; dsimp only
    rw [show decide (0 ≤ b) = true by simp; omega]
    by_cases o4 : b > 4
    · rw [if_pos (by simp; omega), show decide (b ≤ 4) = false by simp; omega]; simp
    · rw [if_neg (by simp; omega), show decide (b ≤ 4) = true by simp; omega]
      by_cases k0 : a = 0
      · subst k0
        rw [if_pos rfl]
        rcases (show b = 0 ∨ b = 1 ∨ b = 2 ∨ b = 3 ∨ b = 4 by omega) with rfl | rfl | rfl | rfl | rfl <;> rfl
      rw [if_neg k0]
      by_cases k1 : a = 1
      · subst k1
        rw [if_pos rfl]
        rcases (show b = 0 ∨ b = 1 ∨ b = 2 ∨ b = 3 ∨ b = 4 by omega) with rfl | rfl | rfl | rfl | rfl <;> rfl
      rw [if_neg k1]
      by_cases k5 : a = 5
      · subst k5
        rw [if_pos rfl]
        rcases (show b = 0 ∨ b = 1 ∨ b = 2 ∨ b = 3 ∨ b = 4 by omega) with rfl | rfl | rfl | rfl | rfl <;> rfl
      rw [if_neg k5]
      by_cases k2 : a ≥ 2
      · rw [if_pos k2, show decide (0 ≤ a) = true by simp; omega]
        by_cases k4 : a ≤ 4
        · rw [show decide (a ≤ 5) = true by simp; omega]; simp [k0, k1, k5, k4]
        · rw [show decide (a ≤ 5) = false by simp; omega]; simp [k4]
      · rw [if_neg k2, show decide (0 ≤ a) = false by simp; omega]; simp
theorem risOp_f (n : Nat) (x : LOp) : locklessref03_isOp.f (n + 1) x.k x.l x.v x.w x.o = some (okL x) := by
  obtain ⟨k, l, v, u, o⟩ := x
  simp only
  unfold locklessref03_isOp.f
  rw [rmay_f, Option.bind_some]
  unfold okL fitL
  simp only
  cases hm : mayL k o with
  | false => rw [if_neg (by decide)]; rfl
  | true =>
    rw [if_pos rfl]
    by_cases l0 : l < 0
    · rw [if_pos l0, show decide (0 ≤ l) = false by simp; omega]; simp [locklessref03_isOp.j0]
    rw [if_neg l0]
    unfold locklessref03_isOp.j0; dsimp only
    by_cases l3 : l ≥ 3
    · rw [if_pos (by simp; omega), show decide (l ≤ 2) = false by simp; omega]; simp
    rw [if_neg (by simp; omega), show decide (0 ≤ l) = true by simp; omega, show decide (l ≤ 2) = true by simp; omega]
    simp only [Bool.true_and]
    by_cases k5 : k = 5
    · subst k5
      rw [if_pos rfl, if_neg (by decide : ¬ (5 : Int) = 0), if_neg (by decide : ¬ (5 : Int) = 1), if_neg (by decide : ¬ (5 : Int) = 2), if_neg (by decide : ¬ ((5 : Int) = 3 ∨ (5 : Int) = 4))]
      by_cases a : l = 0 <;> by_cases b : v = 0 <;> by_cases c : u = 0 <;> simp [a, b, c]
    rw [if_neg k5]
    by_cases k0 : k = 0
    · subst k0
      simp only [if_pos rfl]
      by_cases b : v = 0
      · simp [b]
        by_cases c : u = 0 <;> simp [c]
      · simp [b]
    rw [if_neg k0, if_neg k0]
    by_cases k1 : k = 1
    · subst k1
      simp only [if_pos rfl]
      by_cases b : v ≥ 0
      · by_cases b2 : v ≤ 9
        · simp [b, b2]
          by_cases c : u = 0 <;> simp [c]
        · simp [b, b2]
      · simp [b]
    rw [if_neg k1, if_neg k1]
    by_cases k2 : k = 2
    · subst k2
      simp only [if_pos rfl]
      by_cases b : v ≥ -9
      · by_cases b2 : v ≤ 9
        · simp [b, b2]
          by_cases c : u = 0 <;> simp [c]
        · simp [b, b2]
      · simp [b]
    rw [if_neg k2, if_neg k2]
    have hk : k = 3 ∨ k = 4 := by
      unfold mayL at hm
      simp only [Bool.and_eq_true, decide_eq_true_eq] at hm
      omega
    rw [if_pos hk]
    by_cases b : v ≥ 0
    · by_cases b2 : v ≤ 9
      · by_cases c : u ≥ 0
        · simp [b, b2, c]
        · simp [b, b2, c]
      · simp [b, b2]
    · simp [b]
theorem raccess_f (x : LOp) : locklessref03_isAccess.f x.k x.l x.v x.w x.o = some (accL x) := by
  unfold locklessref03_isAccess.f accL
  by_cases h : x.k ≥ 0
  · rw [if_pos h, show decide (0 ≤ x.k) = true by simp; omega, Bool.true_and]
    congr 1
    by_cases h4 : x.k ≤ 4
    · rw [show decide (x.k < 5) = true by simp; omega]; simp [h4]
    · rw [show decide (x.k < 5) = false by simp; omega]; simp [h4]
  · rw [if_neg h, show decide (0 ≤ x.k) = false by simp; omega]; rfl
def W3 (F : List LOp) : List Int := [(nWr 0 F : Int), (nWr 1 F : Int), (nWr 2 F : Int)]
theorem rd0 (a b c : Int) : rd [a, b, c] 0 = a := rfl
theorem rd1 (a b c : Int) : rd [a, b, c] 1 = b := rfl
theorem rd2 (a b c : Int) : rd [a, b, c] 2 = c := rfl
theorem rc_op (l : List (List S44)) (i j : Nat) (hi : i < l.length) (hj : j < (l[i]).length) (hi2 : i ≤ 1000000) (hj2 : j ≤ 1000000) (F : List LOp) (hF : F.length ≤ 1000000) (v : Bool) (k : Nat) (hk : 0 < k) :
    locklessref03_Check.l1 (k + 3) (nAcc F : Int) (nFen F : Int) (W3 F) v i j l =
      locklessref03_Check.l1 k (nAcc (F ++ [opOf (l[i])[j]]) : Int) (nFen (F ++ [opOf (l[i])[j]]) : Int) (W3 (F ++ [opOf (l[i])[j]])) (v && okL (opOf (l[i])[j])) i ((j : Int) + 1) l := by
  have ha := nAcc_le F
  have hf := nFen_le F
  have h0 := nWr_le 0 F
  have h1 := nWr_le 1 F
  have h2 := nWr_le 2 F
  rw [locklessref03_Check.l1, if_pos (by omega), if_pos (by omega), L2_at hi, if_pos (by omega), if_pos (by omega), T_at hj]
  have hok := risOp_f (k + 1) (opOf (l[i])[j])
  rw [nAcc_snoc, nFen_snoc]
  unfold W3
  rw [nWr_snoc, nWr_snoc, nWr_snoc]
  generalize nAcc F = a at *
  generalize nFen F = f at *
  generalize nWr 0 F = w0 at *
  generalize nWr 1 F = w1 at *
  generalize nWr 2 F = w2 at *
  have hx : (opOf (l[i])[j]).k = ((l[i])[j]).f0 ∧ (opOf (l[i])[j]).l = ((l[i])[j]).f1 ∧ (opOf (l[i])[j]).v = ((l[i])[j]).f2 ∧ (opOf (l[i])[j]).w = ((l[i])[j]).f3 ∧ (opOf (l[i])[j]).o = ((l[i])[j]).f4 := ⟨rfl, rfl, rfl, rfl, rfl⟩
  generalize opOf (l[i])[j] = y at *
  generalize (l[i])[j] = x at *
  obtain ⟨K, L, V, W, O⟩ := x
  obtain ⟨K', L', V', W', O'⟩ := y
  simp only at hx
  obtain ⟨rfl, rfl, rfl, rfl, rfl⟩ := hx
  simp only at hok ⊢
  have hab : a ≤ 1000000 := by omega
  have hfb : f ≤ 3000000 := by omega
  have hb0 : w0 ≤ 1000000 := by omega
  have hb1 : w1 ≤ 1000000 := by omega
  have hb2 : w2 ≤ 1000000 := by omega
  clear ha hf h0 h1 h2 hF
  have key : ∀ b, locklessref03_Check.j2 (k + 2) (a : Int) (f : Int) [(w0 : Int), (w1 : Int), (w2 : Int)] b i j l K' L' V' W' O' = locklessref03_Check.l1 k ((a + b1 (accL ⟨K', L', V', W', O'⟩) : Nat) : Int) ((f + fenW ⟨K', L', V', W', O'⟩ : Nat) : Int) [((w0 + b1 (wrL 0 ⟨K', L', V', W', O'⟩) : Nat) : Int), ((w1 + b1 (wrL 1 ⟨K', L', V', W', O'⟩) : Nat) : Int), ((w2 + b1 (wrL 2 ⟨K', L', V', W', O'⟩) : Nat) : Int)] b i ((j : Int) + 1) l := by
    intro b
    rw [locklessref03_Check.j2]
    have hj1 : wrap64 ((j : Int) + 1) = (j : Int) + 1 := w64 (by omega) (by omega)
    have ha1 := wsucc a (by omega)
    have hf1 := wsucc f (Nat.le_trans hfb (by decide))
    have hf2 := wsucc2 f (Nat.le_trans hfb (by decide))
    have hw0 := wsucc w0 (by omega)
    have hw1 := wsucc w1 (by omega)
    have hw2 := wsucc w2 (by omega)
    by_cases k5 : K' = 5
    · subst k5
      rw [if_pos rfl, locklessref03_Check.j3]
      rw [show locklessref03_isAccess.f 5 L' V' W' O' = some false from rfl, Option.bind_some, if_neg (by decide), hj1, hf1]
      have e1 : accL ⟨5, L', V', W', O'⟩ = false := rfl
      simp [fenW, wrL, e1, b1]
    rw [if_neg k5, locklessref03_Check.j3]
    rw [show locklessref03_isAccess.f K' L' V' W' O' = some (accL ⟨K', L', V', W', O'⟩) from raccess_f ⟨K', L', V', W', O'⟩, Option.bind_some]
    cases hacc : accL ⟨K', L', V', W', O'⟩ with
    | false =>
      rw [if_neg (by decide), hj1]
      simp [fenW, wrL, hacc, b1, k5]
    | true =>
      have hK : 0 ≤ K' := by unfold accL at hacc; simp only [Bool.and_eq_true, decide_eq_true_eq] at hacc; omega
      rw [if_pos rfl, ha1, hj1, hf2]
      by_cases o4 : O' = 4
      · subst o4
        rw [if_pos rfl]
        by_cases k0 : K' = 0
        · subst k0
          rw [if_neg (by omega)]
          simp [fenW, wrL, hacc, b1]
        · rw [if_pos (by omega)]
          by_cases l0 : 0 ≤ L'
          · rw [if_pos l0]
            by_cases l3 : L' < 3
            · rw [if_pos l3, if_pos l0, if_pos (by simp; omega)]
              rcases (show L' = 0 ∨ L' = 1 ∨ L' = 2 by omega) with rfl | rfl | rfl
              · rw [rd0, hw0]; simp [fenW, wrL, hacc, b1, k0, k5]
              · rw [rd1, hw1]; simp [fenW, wrL, hacc, b1, k0, k5]
              · rw [rd2, hw2]; simp [fenW, wrL, hacc, b1, k0, k5]
            · rw [if_neg l3]
              have e0 : ¬ L' = 0 := by omega
              have e1 : ¬ L' = 1 := by omega
              have e2 : ¬ L' = 2 := by omega
              simp [fenW, wrL, hacc, b1, k0, k5, e0, e1, e2]
          · rw [if_neg l0]
            have e0 : ¬ L' = 0 := by omega
            have e1 : ¬ L' = 1 := by omega
            have e2 : ¬ L' = 2 := by omega
            simp [fenW, wrL, hacc, b1, k0, k5, e0, e1, e2]
      · rw [if_neg o4]
        by_cases k0 : K' = 0
        · subst k0
          rw [if_neg (by omega)]
          simp [fenW, wrL, hacc, b1, o4]
        · rw [if_pos (by omega)]
          by_cases l0 : 0 ≤ L'
          · rw [if_pos l0]
            by_cases l3 : L' < 3
            · rw [if_pos l3, if_pos l0, if_pos (by simp; omega)]
              rcases (show L' = 0 ∨ L' = 1 ∨ L' = 2 by omega) with rfl | rfl | rfl
              · rw [rd0, hw0]; simp [fenW, wrL, hacc, b1, k0, k5, o4]
              · rw [rd1, hw1]; simp [fenW, wrL, hacc, b1, k0, k5, o4]
              · rw [rd2, hw2]; simp [fenW, wrL, hacc, b1, k0, k5, o4]
            · rw [if_neg l3]
              have e0 : ¬ L' = 0 := by omega
              have e1 : ¬ L' = 1 := by omega
              have e2 : ¬ L' = 2 := by omega
              simp [fenW, wrL, hacc, b1, k0, k5, o4, e0, e1, e2]
          · rw [if_neg l0]
            have e0 : ¬ L' = 0 := by omega
            have e1 : ¬ L' = 1 := by omega
            have e2 : ¬ L' = 2 := by omega
            simp [fenW, wrL, hacc, b1, k0, k5, o4, e0, e1, e2]
  cases v with
  | true => rw [if_pos rfl, hok, Option.bind_some, key]; rfl
  | false => rw [if_neg (by decide), key]; rfl
def needC (l : List (List S44)) : Nat := (l.map fun r => 3 * r.length + 2).sum
theorem needC_drop {l : List (List S44)} {i : Nat} (h : i < l.length) : needC (l.drop i) = 3 * (l[i]).length + 2 + needC (l.drop (i + 1)) := by
  rw [List.drop_eq_getElem_cons h]; simp only [needC, List.map_cons, List.sum_cons]
theorem rc_l2 (F : List LOp) (v : Bool) (k : Nat) (hk : 5 ≤ k) : locklessref03_Check.j4 k (W3 F) v false = some (if (decide (nWr 0 F ≤ 4) && decide (nWr 1 F ≤ 4) && decide (nWr 2 F ≤ 4)) = false then 2 else if v = true then 0 else 1) := by
  obtain ⟨k, rfl⟩ : ∃ k', k = k' + 1 + 1 + 1 + 1 + 1 := ⟨k - 5, by omega⟩
  unfold W3
  generalize nWr 0 F = w0
  generalize nWr 1 F = w1
  generalize nWr 2 F = w2
  have e0 : locklessref03_Check.j4 (k + 1 + 1 + 1 + 1 + 1) [(w0 : Int), (w1 : Int), (w2 : Int)] v false = locklessref03_Check.l2 (k + 1 + 1 + 1 + 1) [(w0 : Int), (w1 : Int), (w2 : Int)] v 0 := by
    rw [locklessref03_Check.j4]; exact if_neg (by decide)
  have st : ∀ k (x : Int), 0 ≤ x → x < 3 → locklessref03_Check.l2 (k + 1) [(w0 : Int), (w1 : Int), (w2 : Int)] v x = if rd [(w0 : Int), (w1 : Int), (w2 : Int)] x > 4 then some 2 else locklessref03_Check.l2 k [(w0 : Int), (w1 : Int), (w2 : Int)] v (wrap64 (x + 1)) := fun k x h h3 => by
    rw [locklessref03_Check.l2, if_pos (by simp; omega), if_pos h]
  have en : locklessref03_Check.l2 (k + 1) [(w0 : Int), (w1 : Int), (w2 : Int)] v 3 = if v = true then some 0 else some 1 := by
    rw [locklessref03_Check.l2]; exact if_neg (by simp)
  rw [e0, st _ 0 (by omega) (by omega), rd0, show wrap64 (0 + 1) = 1 from w64 (by omega) (by omega), st _ 1 (by omega) (by omega), rd1, show wrap64 (1 + 1) = 2 from w64 (by omega) (by omega), st _ 2 (by omega) (by omega), rd2, show wrap64 (2 + 1) = 3 from w64 (by omega) (by omega), en]
  by_cases h0 : w0 ≤ 4
  · rw [if_neg (by omega)]
    by_cases h1 : w1 ≤ 4
    · rw [if_neg (by omega)]
      by_cases h2 : w2 ≤ 4
      · rw [if_neg (by omega), show (decide (w0 ≤ 4) && decide (w1 ≤ 4) && decide (w2 ≤ 4)) = true by simp [h0, h1, h2], if_neg (show ¬ (true = false) by decide)]
        cases v <;> rfl
      · rw [if_pos (by omega), show (decide (w0 ≤ 4) && decide (w1 ≤ 4) && decide (w2 ≤ 4)) = false by simp [h2], if_pos rfl]
    · rw [if_pos (by omega), show (decide (w0 ≤ 4) && decide (w1 ≤ 4) && decide (w2 ≤ 4)) = false by simp [h1], if_pos rfl]
  · rw [if_pos (by omega), show (decide (w0 ≤ 4) && decide (w1 ≤ 4) && decide (w2 ≤ 4)) = false by simp [h0], if_pos rfl]
theorem flat_take {l : List (List S44)} {i : Nat} (h : i < l.length) : (progOf (l.take (i + 1))).flatten = (progOf (l.take i)).flatten ++ (l[i]).map opOf := by
  rw [List.take_succ_eq_append_getElem h]
  simp only [progOf, List.map_append, List.flatten_append, List.map_cons, List.map_nil, List.flatten_cons, List.flatten_nil, List.append_nil]
theorem flat_take_le (l : List (List S44)) (i : Nat) : (progOf (l.take i)).flatten.length ≤ lens l := by
  rw [lens_flat]
  unfold lens
  rw [List.map_take]
  have h := List.take_append_drop i (l.map List.length)
  have : (l.map List.length).sum = ((l.map List.length).take i).sum + ((l.map List.length).drop i).sum := by rw [← List.sum_append, h]
  omega
theorem rc_l1 (l : List (List S44)) (hl : l.length ≤ 1000) (hs : lens l ≤ 1000000) (v0 : Bool) (i : Nat) (hi : i < l.length) (R : Int)
    (h0 : ∀ k, needC (l.drop (i + 1)) + 10 < k → locklessref03_Check.l0 k (nAcc (progOf (l.take (i + 1))).flatten : Int) (nFen (progOf (l.take (i + 1))).flatten : Int) (W3 (progOf (l.take (i + 1))).flatten) (v0 && (progOf (l.take (i + 1))).flatten.all okL) ((i : Int) + 1) l = some R) :
    ∀ (m j : Nat), (l[i]).length - j = m → j ≤ (l[i]).length → ∀ k, 3 * m + 1 + needC (l.drop (i + 1)) + 10 < k →
      locklessref03_Check.l1 k (nAcc ((progOf (l.take i)).flatten ++ ((l[i]).take j).map opOf) : Int) (nFen ((progOf (l.take i)).flatten ++ ((l[i]).take j).map opOf) : Int) (W3 ((progOf (l.take i)).flatten ++ ((l[i]).take j).map opOf)) (v0 && ((progOf (l.take i)).flatten ++ ((l[i]).take j).map opOf).all okL) i j l = some R
  | 0, j, hm, hj, k, hk => by
    obtain ⟨k, rfl, hk'⟩ := succ_fuel hk
    have := h0 k (by omega)
    rw [flat_take hi] at this
    rw [List.take_of_length_le (show (l[i]).length ≤ j by omega)]
    unfold locklessref03_Check.l1
    rw [if_pos (by omega), if_pos (by omega), L2_at hi, if_neg (by omega), w64 (by omega) (by omega)]
    exact this
  | m + 1, j, hm, hj, k, hk => by
    have hlt : j < (l[i]).length := by omega
    have ih := rc_l1 l hl hs v0 i hi R h0 m (j + 1) (by omega) (by omega) (k - 3) (by omega)
    have hle := flat_take_le l (i + 1)
    rw [flat_take hi, List.length_append, List.length_map] at hle
    obtain ⟨k', rfl⟩ : ∃ k', k = k' + 3 := ⟨k - 3, by omega⟩
    rw [show k' + 3 - 3 = k' by omega] at ih
    rw [rc_op l i j hi hlt (by omega) (by omega) _ (by rw [List.length_append, List.length_map, List.length_take]; omega) _ k' (by omega)]
    rw [← ih, List.take_succ_eq_append_getElem hlt, List.map_append, ← List.append_assoc, List.map_cons, List.map_nil]
    rw [show (v0 && ((progOf (l.take i)).flatten ++ ((l[i]).take j).map opOf ++ [opOf (l[i])[j]]).all okL) = (v0 && ((progOf (l.take i)).flatten ++ ((l[i]).take j).map opOf).all okL && okL (opOf (l[i])[j])) from by rw [List.all_append (xs := _ ++ _)]; simp [Bool.and_assoc]]
    rfl
theorem rc_l0 (l : List (List S44)) (hl : l.length ≤ 1000) (hs : lens l ≤ 1000000) (v0 : Bool) : ∀ (m i : Nat), l.length - i = m → i ≤ l.length → ∀ k, needC (l.drop i) + 10 < k →
    locklessref03_Check.l0 k (nAcc (progOf (l.take i)).flatten : Int) (nFen (progOf (l.take i)).flatten : Int) (W3 (progOf (l.take i)).flatten) (v0 && (progOf (l.take i)).flatten.all okL) i l = some (if limL (progOf l) = false then 2 else if (v0 && (progOf l).flatten.all okL) = true then 0 else 1)
  | 0, i, hm, hi, k, hk => by
    obtain ⟨k, rfl, hk'⟩ := succ_fuel hk
    rw [List.take_of_length_le (by omega)]
    unfold locklessref03_Check.l0
    rw [if_neg (by omega)]
    have e : limL (progOf l) = (decide (l.length ≤ 3) && (decide (nAcc (progOf l).flatten ≤ 6) && decide (nFen (progOf l).flatten ≤ 8) && (decide (nWr 0 (progOf l).flatten ≤ 4) && decide (nWr 1 (progOf l).flatten ≤ 4) && decide (nWr 2 (progOf l).flatten ≤ 4)))) := by
      unfold limL; rw [prog_len]
    rw [e]
    by_cases h3 : l.length ≤ 3
    · rw [if_neg (by omega)]
      by_cases h6 : nAcc (progOf l).flatten ≤ 6
      · rw [if_neg (by omega)]
        by_cases h8 : nFen (progOf l).flatten ≤ 8
        · rw [show decide ((nFen (progOf l).flatten : Int) > 8) = false by simp; omega, rc_l2 _ _ _ (by omega)]
          simp [h3, h6, h8]
        · rw [show decide ((nFen (progOf l).flatten : Int) > 8) = true by simp; omega]
          obtain ⟨k, rfl⟩ : ∃ k', k = k' + 1 := ⟨k - 1, by omega⟩
          unfold locklessref03_Check.j4
          simp [h8]
      · rw [if_pos (by omega)]
        obtain ⟨k, rfl⟩ : ∃ k', k = k' + 1 := ⟨k - 1, by omega⟩
        unfold locklessref03_Check.j4
        simp [h6]
    · rw [if_pos (by omega)]
      obtain ⟨k, rfl⟩ : ∃ k', k = k' + 1 := ⟨k - 1, by omega⟩
      unfold locklessref03_Check.j4
      simp [h3]
  | m + 1, i, hm, hi, k, hk => by
    have hlt : i < l.length := by omega
    rw [needC_drop hlt] at hk
    obtain ⟨k, rfl, hk'⟩ := succ_fuel hk
    have h0 := rc_l0 l hl hs v0 m (i + 1) (by omega) (by omega)
    have := rc_l1 l hl hs v0 i hlt _ (fun k hk => by rw [← h0 k hk]; rfl) (l[i]).length 0 (by omega) (by omega) k (by omega)
    unfold locklessref03_Check.l0
    rw [if_pos (by omega), ← this]
    simp
theorem rcheck_f (l : List (List S44)) (hl : l.length ≤ 1000) (hs : lens l ≤ 1000000) (k : Nat) (hk : needC l + 10 < k) : locklessref03_Check.f k l = some (Li.checkL (progOf l)) := by
  unfold locklessref03_Check.f
  rw [if_pos (by decide)]
  have := rc_l0 l hl hs (decide ((l.length : Int) > 0)) l.length 0 (by omega) (by omega) k (by rw [List.drop_zero]; exact hk)
  rw [show (progOf (l.take 0)).flatten = [] from rfl] at this
  rw [show (List.replicate 3 (0 : Int)) = W3 [] from rfl]
  rw [show (decide ((l.length : Int) > 0) && ([] : List LOp).all okL) = decide ((l.length : Int) > 0) from by simp] at this
  refine Eq.trans this ?_
  congr 1
  unfold Li.checkL
  split
  · rfl
  · by_cases he : progOf l = []
    · have : l = [] := by unfold progOf at he; simpa using he
      subst this
      rw [if_pos he]; rfl
    · rw [if_neg he, show decide ((l.length : Int) > 0) = true from by
        have : l ≠ [] := fun e => he (by rw [e]; rfl)
        have := List.length_pos_iff.2 this
        simp; omega, Bool.true_and]
theorem needC_lens (l : List (List S44)) : needC l = 3 * lens l + 2 * l.length := by
  induction l with
  | nil => rfl
  | cons a l ih =>
    have e : lens (a :: l) = a.length + lens l := by simp [lens]
    have e2 : needC (a :: l) = 3 * a.length + 2 + needC l := by simp [needC]
    rw [e, e2, ih, List.length_cons]; omega
end Go.Proofs.Ytgfbgbclpeihdaa.XRc
