/- LitmusExpands in plain words: no condition. -/
import Derived.Test.YtgfbgbclpeihdaaExpF
import Derived.Test.YtgfbgbclpeihdaaExpM
import Derived.Test.YtgfbgbclpeihdaaExpD
namespace Go.Proofs.Ytgfbgbclpeihdaa.XEx
open Go.RowKit Go.Proofs.YtgfbgbclpeihdaaW.PrintWords Go.Proofs.YtgfbgbclpeihdaaW.PrintLast Go.Proofs.YtgfbgbclpeihdaaW.PrintMore
set_option linter.unusedVariables false
set_option linter.unusedSimpArgs false
set_option maxRecDepth 100000
set_option maxHeartbeats 4000000
theorem rb_Expand_1_l1 (l : List (List S44)) (hl : l.length ≤ 1000) (hb : ∀ r ∈ l, r.length ≤ 1000) (F : S44 → Bool → List S44) (h3 : ∀ x b, (F x b).length ≤ 3) (hF : ∀ r ∈ l, ∀ x ∈ r, ∀ (b : Bool) (k : Nat), 4 ≤ k → litmus_Expand_1.f k x.f0 x.f1 x.f2 x.f3 x.f4 b = some (F x b))
    (i : Nat) (hi : i < l.length) (out : List (List S44)) (ho : out.length ≤ 1000) (N : Nat) (hN : 5 ≤ N) (R : List (List S44)) (Y : List S44)
    (h0 : ∀ k, N < k → litmus_rebuilt_Expand_1.l0 k l l.length ((i : Int) + 1) (out ++ [Y]) = some R) :
    ∀ (m j : Nat), (l[i]).length - j = m → j ≤ (l[i]).length → ∀ (x8 : List S44) (b : Bool) (k : Nat), x8.length ≤ 3 * j → x8 ++ rb F b ((l[i]).drop j) = Y → m + 1 + N < k → litmus_rebuilt_Expand_1.l1 k x8 b l l.length i l[i] (l[i]).length j out = some R
  | 0, j, hm, hj, x8, b, k, hx, hY, hk => by
    obtain ⟨k, rfl, hk'⟩ := succ_fuel hk
    rw [List.drop_of_length_le (show (l[i]).length ≤ j by omega), rb, List.append_nil] at hY
    subst hY
    rw [litmus_rebuilt_Expand_1.l1, if_neg (by omega), if_pos (by omega), w64 (by omega) (by omega)]
    exact h0 k (by omega)
  | m + 1, j, hm, hj, x8, b, k, hx, hY, hk => by
    obtain ⟨k, rfl, hk'⟩ := succ_fuel hk
    have hr := hb l[i] (List.getElem_mem hi)
    have hlt : j < (l[i]).length := by omega
    rw [List.drop_eq_getElem_cons hlt, rb, ← List.append_assoc] at hY
    have h3' := h3 (l[i])[j] b
    have ih := rb_Expand_1_l1 l hl hb F h3 hF i hi out ho N hN R Y h0 m (j + 1) (by omega) (by omega) (x8 ++ F (l[i])[j] b) (b && !Li.accL (opOf (l[i])[j])) k (by rw [List.length_append]; omega) hY (by omega)
    rw [litmus_rebuilt_Expand_1.l1, if_pos (by omega), if_pos (by omega), if_pos (by omega), T_at hlt, hF l[i] (List.getElem_mem hi) (l[i])[j] (List.getElem_mem hlt) b k (by omega), Option.bind_some, if_pos (by omega), Option.bind_some, w64 (by omega) (by omega), show ((j : Int) + 1) = ((j + 1 : Nat) : Int) by omega]
    cases b with
    | true => rw [if_pos rfl, access_f, Option.bind_some]; exact ih
    | false => rw [if_neg (by decide)]; exact ih
theorem rb_Expand_1_l0 (l : List (List S44)) (hl : l.length ≤ 1000) (hb : ∀ r ∈ l, r.length ≤ 1000) (F : S44 → Bool → List S44) (h3 : ∀ x b, (F x b).length ≤ 3) (hF : ∀ r ∈ l, ∀ x ∈ r, ∀ (b : Bool) (k : Nat), 4 ≤ k → litmus_Expand_1.f k x.f0 x.f1 x.f2 x.f3 x.f4 b = some (F x b)) :
    ∀ (m i : Nat), l.length - i = m → i ≤ l.length → ∀ (out : List (List S44)) (k : Nat), out.length ≤ i → need (l.drop i) + 5 < k → litmus_rebuilt_Expand_1.l0 k l l.length i out = some (out ++ (l.drop i).map (rb F true))
  | 0, i, hm, hi, out, k, ho, hk => by
    obtain ⟨k, rfl, _⟩ := succ_fuel hk
    rw [litmus_rebuilt_Expand_1.l0, if_neg (by omega), List.drop_of_length_le (by omega), List.map_nil, List.append_nil]
  | m + 1, i, hm, hi, out, k, ho, hk => by
    have hlt : i < l.length := by omega
    rw [need_drop hlt] at hk
    obtain ⟨k, rfl, hk'⟩ := succ_fuel hk
    rw [litmus_rebuilt_Expand_1.l0, if_pos (by omega), if_pos (by omega), if_pos (by omega), L2_at hlt]
    refine rb_Expand_1_l1 l hl hb F h3 hF i hlt out (by omega) (need (l.drop (i + 1)) + 5) (by omega) _ (rb F true l[i]) (fun k hk => ?_) (l[i]).length 0 (by omega) (by omega) [] true k (by simp) (by simp) (by omega)
    have ih := rb_Expand_1_l0 l hl hb F h3 hF m (i + 1) (by omega) (by omega) (out ++ [rb F true l[i]]) k (by rw [List.length_append, List.length_singleton]; omega) hk
    rw [show ((i : Int) + 1) = ((i + 1 : Nat) : Int) by omega, ih, List.drop_eq_getElem_cons hlt, List.map_cons, List.append_assoc]
    rfl
theorem rb_Expand_1_f (l : List (List S44)) (hl : l.length ≤ 1000) (hb : ∀ r ∈ l, r.length ≤ 1000) (F : S44 → Bool → List S44) (h3 : ∀ x b, (F x b).length ≤ 3) (hF : ∀ r ∈ l, ∀ x ∈ r, ∀ (b : Bool) (k : Nat), 4 ≤ k → litmus_Expand_1.f k x.f0 x.f1 x.f2 x.f3 x.f4 b = some (F x b)) (k : Nat) (hk : need l + 5 < k) :
    litmus_rebuilt_Expand_1.f k l = some (l.map (rb F true)) := by
  have := rb_Expand_1_l0 l hl hb F h3 hF l.length 0 (by omega) (by omega) [] k (by simp) (by rw [List.drop_zero]; exact hk)
  rw [List.drop_zero, List.nil_append] at this
  exact this
theorem large_or (l : List (List S44)) (hl : l.length ≤ 17592186044416) (hb : ∀ r ∈ l, r.length ≤ 35184372088832) : (∀ k, l.length < k → locklesslaw03_Large.f k l = some true) ∨ ((∀ k, l.length < k → locklesslaw03_Large.f k l = some false) ∧ l.length ≤ 60 ∧ lens l ≤ 60 ∧ ∀ r ∈ l, r.length ≤ 1000) := by
  obtain ⟨b, h1, h2⟩ := large_f l hl hb
  cases b with
  | true => exact .inl h1
  | false =>
    have := h2 rfl
    exact .inr ⟨h1, by omega, by omega, fun r hr => by have := len_lens hr; omega⟩
def ordP (k : Int) : Int := if k = 0 then 1 else if k = 1 then 2 else 3
def exG (x : S44) : List S44 := if Li.accL (opOf x) = true ∧ x.f4 = 4 then [fen, ⟨x.f0, x.f1, x.f2, x.f3, ordP x.f0⟩, fen] else [x]
def exF (x : S44) (b : Bool) : List S44 := exG x
theorem exG_len (x : S44) : (exG x).length ≤ 3 := by unfold exG; split <;> simp
theorem acc_k {x : S44} (h : Li.accL (opOf x) = true) : x.f0 = 0 ∨ x.f0 = 1 ∨ x.f0 = 2 ∨ x.f0 = 3 ∨ x.f0 = 4 := by
  unfold Li.accL at h
  simp only [Bool.and_eq_true, decide_eq_true_eq] at h
  have h1 : 0 ≤ x.f0 := h.1
  have h2 : x.f0 ≤ 4 := h.2
  omega
theorem plain_f (k0 : Int) (hk0 : k0 = 0 ∨ k0 = 1 ∨ k0 = 2 ∨ k0 = 3 ∨ k0 = 4) (k : Nat) : order_Plain.f (k + 1) k0 4 = some (ordP k0, 0) := by
  rcases hk0 with rfl | rfl | rfl | rfl | rfl <;> rfl
theorem ex_f (x : S44) (b : Bool) (k : Nat) (hk : 4 ≤ k) : litmus_Expand_1.f k x.f0 x.f1 x.f2 x.f3 x.f4 b = some (exF x b) := by
  obtain ⟨k, rfl⟩ : ∃ k', k = k' + 1 + 1 := ⟨k - 2, by omega⟩
  unfold litmus_Expand_1.f exF exG
  rw [access_f, Option.bind_some]
  cases h : Li.accL (opOf x) with
  | false =>
    rw [if_neg (by decide), litmus_Expand_1.j0, if_pos rfl, if_neg (by simp)]
  | true =>
    rw [if_pos rfl]
    by_cases h4 : x.f4 = 4
    · rw [litmus_Expand_1.j0, h4, if_neg (by decide), plain_f _ (acc_k h), if_pos ⟨rfl, rfl⟩]
      rfl
    · rw [litmus_Expand_1.j0, if_pos (by simpa using h4), if_neg (fun e => h4 e.2)]
def expanded (l : List (List S44)) : List (List S44) := l.map (·.flatMap exG)
theorem expand_f (l : List (List S44)) (hl : l.length ≤ 1000) (hb : ∀ r ∈ l, r.length ≤ 1000) (hs : lens l ≤ 1000000) (k : Nat) (hk : need l + 5 < k) :
    litmus_Expand.f k l = some (if Li.checkL (progOf l) = 0 then (expanded l, 0) else ([], Li.checkL (progOf l))) := by
  unfold litmus_Expand.f
  rw [check_f l hl hs, Option.bind_some]
  split
  · rw [rb_Expand_1_f l hl hb exF (fun x b => exG_len x) (fun r _ x _ b k hk => ex_f x b k hk) k hk, Option.bind_some]
    unfold expanded
    rw [show l.map (rb exF true) = l.map (·.flatMap exG) from List.map_congr_left (fun r _ => rb_flat (F := exF) (G := exG) (fun _ _ => rfl) r true)]
  · rfl
/-- The reference's. -/
theorem rx_l1 (l : List (List S44)) (hl : l.length ≤ 1000) (hb : ∀ r ∈ l, r.length ≤ 1000) (hok : ∀ r ∈ l, ∀ x ∈ r, Li.okL (opOf x) = true)
    (i : Nat) (hi : i < l.length) (out : List (List S44)) (ho : out.length ≤ 1000) (N : Nat) (R : List (List S44) × Int) (Y : List S44)
    (h0 : ∀ k, N < k → locklessref03_Expand.l0 k ((i : Int) + 1) l (out ++ [Y]) 5 0 0 0 4 = some R) :
    ∀ (m j : Nat), (l[i]).length - j = m → j ≤ (l[i]).length → ∀ (x8 : List S44) (k : Nat), x8.length ≤ 3 * j → x8 ++ ((l[i]).drop j).flatMap exG = Y → m + 1 + N < k → locklessref03_Expand.l1 k i x8 j l out 5 0 0 0 4 = some R
  | 0, j, hm, hj, x8, k, hx, hY, hk => by
    obtain ⟨k, rfl, hk'⟩ := succ_fuel hk
    rw [List.drop_of_length_le (show (l[i]).length ≤ j by omega), List.flatMap_nil, List.append_nil] at hY
    subst hY
    rw [locklessref03_Expand.l1, if_pos (by omega), if_pos (by omega), L2_at hi, if_neg (by omega), if_pos (by omega), w64 (by omega) (by omega)]
    exact h0 k (by omega)
  | m + 1, j, hm, hj, x8, k, hx, hY, hk => by
    obtain ⟨k, rfl, hk'⟩ := succ_fuel hk
    have hr := hb l[i] (List.getElem_mem hi)
    have hlt : j < (l[i]).length := by omega
    have hx5 := hok l[i] (List.getElem_mem hi) (l[i])[j] (List.getElem_mem hlt)
    rw [List.drop_eq_getElem_cons hlt, List.flatMap_cons, ← List.append_assoc] at hY
    have h3' := exG_len (l[i])[j]
    have ih := rx_l1 l hl hb hok i hi out ho N R Y h0 m (j + 1) (by omega) (by omega) (x8 ++ exG (l[i])[j]) k (by rw [List.length_append]; omega) hY (by omega)
    rw [locklessref03_Expand.l1, if_pos (by omega), if_pos (by omega), L2_at hi, if_pos (by omega), if_pos (by omega), T_at hlt, w64 (by omega) (by omega), show ((j : Int) + 1) = ((j + 1 : Nat) : Int) by omega]
    have hk5 : 0 ≤ ((l[i])[j]).f0 ∧ ((l[i])[j]).f0 ≤ 5 := by
      unfold Li.okL Li.mayL at hx5
      simp only [Bool.and_eq_true, decide_eq_true_eq] at hx5
      exact hx5.1.1.1
    unfold exG at ih
    generalize (l[i])[j] = x at *
    by_cases h5 : x.f0 = 5
    · rw [if_pos h5, if_pos (by omega)]
      rw [if_neg (fun e => by have := acc_k e.1; omega)] at ih
      exact ih
    · rw [if_neg h5]
      have ha : Li.accL (opOf x) = true := by
        unfold Li.accL
        rw [show (opOf x).k = x.f0 from rfl, show decide (0 ≤ x.f0) = true by simp; omega, show decide (x.f0 ≤ 4) = true by simp; omega]
        rfl
      by_cases h4 : x.f4 = 4
      · rw [if_pos ⟨ha, h4⟩] at ih
        rw [if_pos h4]
        have hp : locklessref03_plain.f x.f0 x.f1 x.f2 x.f3 x.f4 = some (ordP x.f0) := by
          unfold locklessref03_plain.f ordP
          rw [if_pos h4]
          split
          · rfl
          · split <;> rfl
        rw [hp, Option.bind_some, Option.bind_some, if_pos (by simp; omega)]
        exact ih
      · rw [if_neg (fun e => h4 e.2)] at ih
        rw [if_neg h4, if_pos (by omega)]
        exact ih
theorem rx_l0 (l : List (List S44)) (hl : l.length ≤ 1000) (hb : ∀ r ∈ l, r.length ≤ 1000) (hok : ∀ r ∈ l, ∀ x ∈ r, Li.okL (opOf x) = true) :
    ∀ (m i : Nat), l.length - i = m → i ≤ l.length → ∀ (out : List (List S44)) (k : Nat), out.length ≤ i → need (l.drop i) < k → locklessref03_Expand.l0 k i l out 5 0 0 0 4 = some (out ++ (l.drop i).map (·.flatMap exG), 0)
  | 0, i, hm, hi, out, k, ho, hk => by
    obtain ⟨k, rfl, _⟩ := succ_fuel hk
    rw [locklessref03_Expand.l0, if_neg (by omega), List.drop_of_length_le (by omega), List.map_nil, List.append_nil]
  | m + 1, i, hm, hi, out, k, ho, hk => by
    have hlt : i < l.length := by omega
    rw [need_drop hlt] at hk
    obtain ⟨k, rfl, hk'⟩ := succ_fuel hk
    rw [locklessref03_Expand.l0, if_pos (by omega)]
    refine rx_l1 l hl hb hok i hlt out (by omega) (need (l.drop (i + 1))) _ ((l[i]).flatMap exG) (fun k hk => ?_) (l[i]).length 0 (by omega) (by omega) [] k (by simp) (by simp) (by omega)
    have ih := rx_l0 l hl hb hok m (i + 1) (by omega) (by omega) (out ++ [(l[i]).flatMap exG]) k (by rw [List.length_append, List.length_singleton]; omega) hk
    rw [show ((i : Int) + 1) = ((i + 1 : Nat) : Int) by omega, ih, List.drop_eq_getElem_cons hlt, List.map_cons, List.append_assoc]
    rfl
theorem rexpand_f (l : List (List S44)) (hl : l.length ≤ 1000) (hb : ∀ r ∈ l, r.length ≤ 1000) (hs : lens l ≤ 1000000) (k : Nat) (hk : need l < k) :
    locklessref03_Expand.f k l = some (if Li.checkL (progOf l) = 0 then (expanded l, 0) else ([], Li.checkL (progOf l))) := by
  unfold locklessref03_Expand.f
  rw [rcheck_f l hl hs, Option.bind_some]
  split
  · rename_i h
    have := rx_l0 l hl hb (ok_of_check h) l.length 0 (by omega) (by omega) [] k (by simp) (by rw [List.drop_zero]; exact hk)
    rw [List.drop_zero, List.nil_append] at this
    exact this
  · rfl
theorem expanded_len (l : List (List S44)) : (expanded l).length = l.length := by unfold expanded; rw [List.length_map]
theorem flat_len3 (r : List S44) : (r.flatMap exG).length ≤ 3 * r.length := by
  induction r with
  | nil => exact Nat.le_refl _
  | cons x r ih =>
    have := exG_len x
    rw [List.flatMap_cons, List.length_append, List.length_cons]; omega
theorem expanded_lens (l : List (List S44)) : lens (expanded l) ≤ 3 * lens l := by
  induction l with
  | nil => exact Nat.le_refl _
  | cons r l ih =>
    have := flat_len3 r
    simp only [lens, expanded, List.map_cons, List.sum_cons] at *
    omega
theorem flat_id (r : List S44) (h : ∀ x ∈ r, ¬ (Li.accL (opOf x) = true ∧ x.f4 = 4)) : r.flatMap exG = r := by
  induction r with
  | nil => rfl
  | cons x r ih =>
    rw [List.flatMap_cons, ih (fun y hy => h y (List.mem_cons_of_mem _ hy))]
    unfold exG
    rw [if_neg (h x List.mem_cons_self)]
    rfl
theorem fenced_stays {l : List (List S44)} (h : Li.checkL (progOf l) = 0) : expanded (fenced l) = fenced l := by
  have hok := ok_of_check h
  unfold expanded
  have : ∀ r ∈ fenced l, r.flatMap exG = r := fun r hr => by
    obtain ⟨r0, hr0, rfl⟩ := List.mem_map.1 hr
    exact flat_id _ (fun x hx => (fe_ok r0 (hok r0 hr0) true x hx).2)
  rw [List.map_congr_left this, List.map_id']
theorem same_pair {P : Prop} [Decidable P] (a b : List (List S44)) : True := trivial
/-- The law holds of every program. -/
theorem expands_true (l : List (List S44)) (hl : l.length ≤ 17592186044416) (hb : ∀ r ∈ l, r.length ≤ 35184372088832) : ∃ k, locklesslaw03_LitmusExpands.f k l = some true := by
  refine ⟨l.length + 3002, ?_⟩
  unfold locklesslaw03_LitmusExpands.f
  rcases large_or l hl hb with h1 | ⟨h1, h2, h3, h4⟩
  · rw [h1 _ (by omega), Option.bind_some, if_pos rfl, sane_f _ (by omega)]; rfl
  · rw [h1 _ (by omega), Option.bind_some, if_neg (by decide)]
    rw [expand_f l (by omega) h4 (by omega) _ (by rw [need_lens]; omega), Option.bind_some, rexpand_f l (by omega) h4 (by omega) _ (by rw [need_lens]; omega), Option.bind_some, if_pos rfl]
    have hel := expanded_lens l
    have heb : ∀ r ∈ expanded l, r.length ≤ 1000 := fun r hr => by have := len_lens hr; omega
    have hz : ∀ (k : Nat), 3000 ≤ k → locklessref03_Same.f k (if Li.checkL (progOf l) = 0 then (expanded l, (0 : Int)) else ([], Li.checkL (progOf l))).1 (if Li.checkL (progOf l) = 0 then (expanded l, (0 : Int)) else ([], Li.checkL (progOf l))).1 = some true := fun k hk => by
      split
      · exact same_f _ (by rw [expanded_len]; omega) heb k (by rw [need_lens, expanded_len]; omega)
      · exact same_f [] (by simp) (fun r hr => by cases hr) k (by simp [need]; omega)
    rw [hz _ (by omega), Option.bind_some, show l.length + 3002 = l.length + 3001 + 1 from rfl, locklesslaw03_LitmusExpands.j0, if_neg (by decide)]
    rw [fenced_f l (by omega) h4 (by omega) _ (by rw [need_lens]; omega), Option.bind_some]
    by_cases hc : Li.checkL (progOf l) = 0
    · have hfl := fenced_lens l
      have hfn : (fenced l).length = l.length := by unfold fenced; rw [List.length_map]
      have hfb : ∀ r ∈ fenced l, r.length ≤ 1000 := fun r hr => by have := len_lens hr; omega
      rw [if_pos hc]
      dsimp only
      rw [if_pos rfl, expand_f (fenced l) (by omega) hfb (by omega) _ (by rw [need_lens, hfn]; omega), if_pos (fenced_check hc), Option.bind_some]
      dsimp only
      rw [if_pos rfl, fenced_stays hc, same_f (fenced l) (by omega) hfb _ (by rw [need_lens, hfn]; omega), Option.bind_some, if_pos rfl, sane_f _ (by omega)]
      rfl
    · rw [if_neg hc]
      dsimp only
      rw [if_neg hc, sane_f _ (by omega)]
      rfl
end Go.Proofs.Ytgfbgbclpeihdaa.XEx
