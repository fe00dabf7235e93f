/- LitmusStrengthens in plain words: no condition. -/
import Derived.Test.YtgfbgbclpeihdaaSnpF
import Derived.Test.YtgfbgbclpeihdaaSnpQ
import Derived.Test.YtgfbgbclpeihdaaSnpM
import Derived.Test.YtgfbgbclpeihdaaSnpO
import Derived.Test.YtgfbgbclpeihdaaSnpD
import Derived.Test.YtgfbgbclpeihdaaLiY
namespace Go.Proofs.Ytgfbgbclpeihdaa.XSn
open Go.RowKit Go.Proofs.YtgfbgbclpeihdaaW.PrintWords Go.Proofs.YtgfbgbclpeihdaaW.PrintLast Go.Proofs.YtgfbgbclpeihdaaW.PrintMore
set_option linter.unusedVariables false
set_option linter.unusedSimpArgs false
set_option maxRecDepth 100000
set_option maxHeartbeats 4000000
theorem rb_Strong_1_l1 (l : List (List S44)) (hl : l.length ≤ 1000) (hb : ∀ r ∈ l, r.length ≤ 1000) (F : S44 → Bool → List S44) (h3 : ∀ x b, (F x b).length ≤ 3) (hF : ∀ r ∈ l, ∀ x ∈ r, ∀ (b : Bool) (k : Nat), 4 ≤ k → litmus_Strong_1.f x.f0 x.f1 x.f2 x.f3 x.f4 b = some (F x b))
    (i : Nat) (hi : i < l.length) (out : List (List S44)) (ho : out.length ≤ 1000) (N : Nat) (hN : 5 ≤ N) (R : List (List S44)) (Y : List S44)
    (h0 : ∀ k, N < k → litmus_rebuilt_Strong_1.l0 k l l.length ((i : Int) + 1) (out ++ [Y]) = some R) :
    ∀ (m j : Nat), (l[i]).length - j = m → j ≤ (l[i]).length → ∀ (x8 : List S44) (b : Bool) (k : Nat), x8.length ≤ 3 * j → x8 ++ rb F b ((l[i]).drop j) = Y → m + 1 + N < k → litmus_rebuilt_Strong_1.l1 k x8 b l l.length i l[i] (l[i]).length j out = some R
  | 0, j, hm, hj, x8, b, k, hx, hY, hk => by
    obtain ⟨k, rfl, hk'⟩ := succ_fuel hk
    rw [List.drop_of_length_le (show (l[i]).length ≤ j by omega), rb, List.append_nil] at hY
    subst hY
    rw [litmus_rebuilt_Strong_1.l1, if_neg (by omega), if_pos (by omega), w64 (by omega) (by omega)]
    exact h0 k (by omega)
  | m + 1, j, hm, hj, x8, b, k, hx, hY, hk => by
    obtain ⟨k, rfl, hk'⟩ := succ_fuel hk
    have hr := hb l[i] (List.getElem_mem hi)
    have hlt : j < (l[i]).length := by omega
    rw [List.drop_eq_getElem_cons hlt, rb, ← List.append_assoc] at hY
    have h3' := h3 (l[i])[j] b
    have ih := rb_Strong_1_l1 l hl hb F h3 hF i hi out ho N hN R Y h0 m (j + 1) (by omega) (by omega) (x8 ++ F (l[i])[j] b) (b && !Li.accL (opOf (l[i])[j])) k (by rw [List.length_append]; omega) hY (by omega)
    rw [litmus_rebuilt_Strong_1.l1, if_pos (by omega), if_pos (by omega), if_pos (by omega), T_at hlt, hF l[i] (List.getElem_mem hi) (l[i])[j] (List.getElem_mem hlt) b k (by omega), Option.bind_some, if_pos (by omega), Option.bind_some, w64 (by omega) (by omega), show ((j : Int) + 1) = ((j + 1 : Nat) : Int) by omega]
    cases b with
    | true => rw [if_pos rfl, access_f, Option.bind_some]; exact ih
    | false => rw [if_neg (by decide)]; exact ih
theorem rb_Strong_1_l0 (l : List (List S44)) (hl : l.length ≤ 1000) (hb : ∀ r ∈ l, r.length ≤ 1000) (F : S44 → Bool → List S44) (h3 : ∀ x b, (F x b).length ≤ 3) (hF : ∀ r ∈ l, ∀ x ∈ r, ∀ (b : Bool) (k : Nat), 4 ≤ k → litmus_Strong_1.f x.f0 x.f1 x.f2 x.f3 x.f4 b = some (F x b)) :
    ∀ (m i : Nat), l.length - i = m → i ≤ l.length → ∀ (out : List (List S44)) (k : Nat), out.length ≤ i → need (l.drop i) + 5 < k → litmus_rebuilt_Strong_1.l0 k l l.length i out = some (out ++ (l.drop i).map (rb F true))
  | 0, i, hm, hi, out, k, ho, hk => by
    obtain ⟨k, rfl, _⟩ := succ_fuel hk
    rw [litmus_rebuilt_Strong_1.l0, if_neg (by omega), List.drop_of_length_le (by omega), List.map_nil, List.append_nil]
  | m + 1, i, hm, hi, out, k, ho, hk => by
    have hlt : i < l.length := by omega
    rw [need_drop hlt] at hk
    obtain ⟨k, rfl, hk'⟩ := succ_fuel hk
    rw [litmus_rebuilt_Strong_1.l0, if_pos (by omega), if_pos (by omega), if_pos (by omega), L2_at hlt]
    refine rb_Strong_1_l1 l hl hb F h3 hF i hlt out (by omega) (need (l.drop (i + 1)) + 5) (by omega) _ (rb F true l[i]) (fun k hk => ?_) (l[i]).length 0 (by omega) (by omega) [] true k (by simp) (by simp) (by omega)
    have ih := rb_Strong_1_l0 l hl hb F h3 hF m (i + 1) (by omega) (by omega) (out ++ [rb F true l[i]]) k (by rw [List.length_append, List.length_singleton]; omega) hk
    rw [show ((i : Int) + 1) = ((i + 1 : Nat) : Int) by omega, ih, List.drop_eq_getElem_cons hlt, List.map_cons, List.append_assoc]
    rfl
theorem rb_Strong_1_f (l : List (List S44)) (hl : l.length ≤ 1000) (hb : ∀ r ∈ l, r.length ≤ 1000) (F : S44 → Bool → List S44) (h3 : ∀ x b, (F x b).length ≤ 3) (hF : ∀ r ∈ l, ∀ x ∈ r, ∀ (b : Bool) (k : Nat), 4 ≤ k → litmus_Strong_1.f x.f0 x.f1 x.f2 x.f3 x.f4 b = some (F x b)) (k : Nat) (hk : need l + 5 < k) :
    litmus_rebuilt_Strong_1.f k l = some (l.map (rb F true)) := by
  have := rb_Strong_1_l0 l hl hb F h3 hF l.length 0 (by omega) (by omega) [] k (by simp) (by rw [List.drop_zero]; exact hk)
  rw [List.drop_zero, List.nil_append] at this
  exact this
theorem large_or (l : List (List S44)) (hl : l.length ≤ 17592186044416) (hb : ∀ r ∈ l, r.length ≤ 35184372088832) : (∀ k, l.length < k → locklesslaw03_Large.f k l = some true) ∨ ((∀ k, l.length < k → locklesslaw03_Large.f k l = some false) ∧ l.length ≤ 60 ∧ lens l ≤ 60 ∧ ∀ r ∈ l, r.length ≤ 1000) := by
  obtain ⟨b, h1, h2⟩ := large_f l hl hb
  cases b with
  | true => exact .inl h1
  | false =>
    have := h2 rfl
    exact .inr ⟨h1, by omega, by omega, fun r hr => by have := len_lens hr; omega⟩
theorem at_f (l m : List (List S44)) (hl : l.length ≤ 1000) (hs : lens l ≤ 1000000) (hm : m.length ≤ 1000) (ht : lens m ≤ 1000000) : litmus_AtLeast.f l m = some (Li.atL (progOf l) (progOf m)) := by
  unfold litmus_AtLeast.f
  rw [if_pos ⟨⟨by rw [lens_flat]; exact hs, by omega⟩, by rw [lens_flat]; exact ht, by omega⟩]
def str (x : S44) : S44 := ⟨x.f0, x.f1, x.f2, x.f3, 4⟩
def stG (x : S44) : List S44 := if Li.accL (opOf x) = true then [str x] else []
def stF (x : S44) (b : Bool) : List S44 := stG x
theorem stG_len (x : S44) : (stG x).length ≤ 1 := by unfold stG; split <;> simp
theorem st_f (x : S44) (b : Bool) : litmus_Strong_1.f x.f0 x.f1 x.f2 x.f3 x.f4 b = some (stF x b) := by
  unfold litmus_Strong_1.f stF stG
  rw [access_f, Option.bind_some]
  cases Li.accL (opOf x) <;> rfl
def strong (l : List (List S44)) : List (List S44) := l.map (·.flatMap stG)
theorem lim_f (l : List (List S44)) (hl : l.length ≤ 1000) (hs : lens l ≤ 1000000) : litmus_limits.f l = some (Li.limL (progOf l)) := by
  unfold litmus_limits.f
  rw [if_pos ⟨by rw [lens_flat]; exact hs, by omega⟩]
theorem strong_len (l : List (List S44)) : (strong l).length = l.length := by unfold strong; rw [List.length_map]
theorem strong_f (l : List (List S44)) (hl : l.length ≤ 1000) (hb : ∀ r ∈ l, r.length ≤ 1000) (hs : lens l ≤ 1000000) (k : Nat) (hk : need l + 5 < k) :
    litmus_Strong.f k l = some (if Li.checkL (progOf l) = 0 then (if Li.limL (progOf (strong l)) = true then (strong l, 0) else ([], 2)) else ([], Li.checkL (progOf l))) := by
  unfold litmus_Strong.f
  rw [check_f l hl hs, Option.bind_some]
  split
  · rw [rb_Strong_1_f l hl hb stF (fun x b => Nat.le_trans (stG_len x) (by decide)) (fun r _ x _ b k _ => st_f x b) k hk, Option.bind_some]
    rw [show l.map (rb stF true) = strong l from List.map_congr_left (fun r _ => rb_flat (F := stF) (G := stG) (fun _ _ => rfl) r true)]
    rw [lim_f (strong l) (by rw [strong_len]; exact hl) (Nat.le_trans (lens_le stG_len l) hs), Option.bind_some]
    split <;> rfl
  · rfl
theorem st_ac {l : List (List S44)} (h : Li.checkL (progOf l) = 0) : l.map (·.flatMap (acG 4)) = strong l := by
  have hok := ok_of_check h
  exact List.map_congr_left (fun r hr => flatMap_ext' r (fun x hx => by
    unfold acG stG
    by_cases h5 : x.f0 = 5
    · rw [if_pos h5, if_neg (fun e => (acc_iff (hok r hr x hx)).1 e h5)]
    · rw [if_neg h5, if_pos ((acc_iff (hok r hr x hx)).2 h5)]; rfl))
theorem str_ok {x : S44} (h : Li.okL (opOf x) = true) (h5 : ¬ x.f0 = 5) : Li.okL (opOf (str x)) = true := by
  have hk := ok_k h
  unfold Li.okL at h ⊢
  rw [Bool.and_eq_true] at h ⊢
  refine ⟨?_, h.2⟩
  show Li.mayL x.f0 4 = true
  rcases (show x.f0 = 0 ∨ x.f0 = 1 ∨ x.f0 = 2 ∨ x.f0 = 3 ∨ x.f0 = 4 by omega) with e | e | e | e | e <;> rw [e] <;> rfl
theorem strong_ok {l : List (List S44)} (h : Li.checkL (progOf l) = 0) : ∀ r ∈ strong l, ∀ x ∈ r, Li.okL (opOf x) = true := by
  have hok := ok_of_check h
  intro r hr x hx
  obtain ⟨r0, hr0, rfl⟩ := List.mem_map.1 hr
  obtain ⟨y, hy, hx⟩ := List.mem_flatMap.1 hx
  unfold stG at hx
  split at hx
  · rename_i ha
    rw [List.mem_singleton] at hx
    subst hx
    exact str_ok (hok r0 hr0 y hy) ((acc_iff (hok r0 hr0 y hy)).1 ha)
  · cases hx
theorem strong_check {l : List (List S44)} (h : Li.checkL (progOf l) = 0) : Li.checkL (progOf (strong l)) = if Li.limL (progOf (strong l)) = true then 0 else 2 := by
  by_cases hl : Li.limL (progOf (strong l)) = true
  · rw [if_pos hl]
    exact check_parts.2 ⟨hl, by unfold strong; simpa using (check_parts.1 h).2.1, strong_ok h⟩
  · rw [if_neg hl]
    unfold Li.checkL
    rw [if_pos (by simpa using hl)]
theorem rstrong_f (l : List (List S44)) (hl : l.length ≤ 1000) (hb : ∀ r ∈ l, r.length ≤ 1000) (hs : lens l ≤ 1000000) (k : Nat) (hk : need l < k) :
    locklessref03_Strong.f k l = some (if Li.checkL (progOf l) = 0 then (if Li.limL (progOf (strong l)) = true then (strong l, 0) else ([], 2)) else ([], Li.checkL (progOf l))) := by
  unfold locklessref03_Strong.f
  rw [rcheck_f l hl hs, Option.bind_some]
  by_cases hc : Li.checkL (progOf l) = 0
  · rw [if_pos hc, if_pos hc, accs_f 4 l hl hb k hk, Option.bind_some, st_ac hc, rcheck_f (strong l) (by rw [strong_len]; exact hl) (Nat.le_trans (lens_le stG_len l) hs), Option.bind_some, strong_check hc]
    by_cases hm : Li.limL (progOf (strong l)) = true
    · rw [if_pos hm, if_pos rfl, if_pos hm]
    · rw [if_neg hm, if_neg (by decide), if_neg hm]
  · rw [if_neg hc, if_neg hc]
/-- Fences between accesses. -/
def ins : Bool → List S44 → List S44
  | _, [] => []
  | b, x :: r => (if b = true then [x] else [fen, x]) ++ ins false r
theorem ins_rb (r : List S44) (hok : ∀ x ∈ r, Li.okL (opOf x) = true) : ∀ b, rb feF b r = ins b (r.flatMap (acG 0)) := by
  induction r with
  | nil => intro b; rfl
  | cons x r ih =>
    intro b
    have hx := hok x List.mem_cons_self
    rw [rb, ih (fun y hy => hok y (List.mem_cons_of_mem _ hy)), List.flatMap_cons]
    by_cases h5 : x.f0 = 5
    · have ha : Li.accL (opOf x) = false := by
        cases h : Li.accL (opOf x) with
        | false => rfl
        | true => exact absurd h5 ((acc_iff hx).1 h)
      rw [show feF x b = [] from by unfold feF; rw [ha]; rfl, show acG 0 x = [] from by unfold acG; rw [if_pos h5], ha]
      simp
    · have ha := (acc_iff hx).2 h5
      rw [show feF x b = (if b = true then [rlx x] else [fen, rlx x]) from by unfold feF; rw [if_pos ha], show acG 0 x = [rlx x] from by unfold acG; rw [if_neg h5]; rfl, ha]
      simp only [List.singleton_append, ins, Bool.not_true, Bool.and_false]
theorem rf_l1 (l : List (List S44)) (hl : l.length ≤ 1000) (hb : ∀ r ∈ l, r.length ≤ 1000)
    (i : Nat) (hi : i < l.length) (out : List (List S44)) (ho : out.length ≤ 1000) (N : Nat) (R : List (List S44) × Int) (Y : List S44)
    (h0 : ∀ k, N < k → locklessref03_Fenced.l0 k ((i : Int) + 1) l (out ++ [Y]) = some R) :
    ∀ (m j : Nat), (l[i]).length - j = m → j ≤ (l[i]).length → ∀ (x8 : List S44) (k : Nat), x8.length ≤ 2 * j → x8 ++ ins (decide (j = 0)) ((l[i]).drop j) = Y → m + 1 + N < k → locklessref03_Fenced.l1 k i x8 j l out = some R
  | 0, j, hm, hj, x8, k, hx, hY, hk => by
    obtain ⟨k, rfl, hk'⟩ := succ_fuel hk
    rw [List.drop_of_length_le (show (l[i]).length ≤ j by omega), ins, List.append_nil] at hY
    subst hY
    rw [locklessref03_Fenced.l1, if_pos (by omega), if_pos (by omega), L2_at hi, if_neg (by omega), if_pos (by omega), w64 (by omega) (by omega)]
    exact h0 k (by omega)
  | m + 1, j, hm, hj, x8, k, hx, hY, hk => by
    obtain ⟨k, rfl, hk'⟩ := succ_fuel hk
    have hr := hb l[i] (List.getElem_mem hi)
    have hlt : j < (l[i]).length := by omega
    rw [List.drop_eq_getElem_cons hlt, ins, ← List.append_assoc] at hY
    have ih := rf_l1 l hl hb i hi out ho N R Y h0 m (j + 1) (by omega) (by omega) (x8 ++ (if decide (j = 0) = true then [(l[i])[j]] else [fen, (l[i])[j]])) k (by rw [List.length_append]; split <;> simp <;> omega) (by rw [show decide (j + 1 = 0) = false from by simp]; exact hY) (by omega)
    rw [locklessref03_Fenced.l1, if_pos (by omega), if_pos (by omega), L2_at hi, if_pos (by omega), T_at hlt, w64 (by omega) (by omega), show ((j : Int) + 1) = ((j + 1 : Nat) : Int) by omega]
    by_cases hj0 : j = 0
    · rw [if_neg (by omega), if_pos (by omega), if_pos (by omega)]
      rw [if_pos (by simpa using hj0)] at ih
      exact ih
    · rw [if_pos (by omega), if_pos (by omega), Option.bind_some, if_pos (by omega), if_pos (by rw [List.length_append, List.length_singleton]; omega)]
      rw [if_neg (by simpa using hj0)] at ih
      rw [List.append_assoc]
      exact ih
theorem rf_l0 (l : List (List S44)) (hl : l.length ≤ 1000) (hb : ∀ r ∈ l, r.length ≤ 1000) :
    ∀ (m i : Nat), l.length - i = m → i ≤ l.length → ∀ (out : List (List S44)) (k : Nat), out.length ≤ i → need (l.drop i) < k → locklessref03_Fenced.l0 k i l out = some (out ++ (l.drop i).map (ins true), 0)
  | 0, i, hm, hi, out, k, ho, hk => by
    obtain ⟨k, rfl, _⟩ := succ_fuel hk
    rw [locklessref03_Fenced.l0, if_neg (by omega), List.drop_of_length_le (by omega), List.map_nil, List.append_nil]
  | m + 1, i, hm, hi, out, k, ho, hk => by
    have hlt : i < l.length := by omega
    rw [need_drop hlt] at hk
    obtain ⟨k, rfl, hk'⟩ := succ_fuel hk
    rw [locklessref03_Fenced.l0, if_pos (by omega)]
    refine rf_l1 l hl hb i hlt out (by omega) (need (l.drop (i + 1))) _ (ins true l[i]) (fun k hk => ?_) (l[i]).length 0 (by omega) (by omega) [] k (by simp) (by simp) (by omega)
    have ih := rf_l0 l hl hb m (i + 1) (by omega) (by omega) (out ++ [ins true l[i]]) k (by rw [List.length_append, List.length_singleton]; omega) hk
    rw [show ((i : Int) + 1) = ((i + 1 : Nat) : Int) by omega, ih, List.drop_eq_getElem_cons hlt, List.map_cons, List.append_assoc]
    rfl
theorem bare0_row {l : List (List S44)} (hb : ∀ r ∈ l, r.length ≤ 1000) : ∀ r ∈ l.map (·.flatMap (acG 0)), r.length ≤ 1000 := fun r hr => by
  obtain ⟨r0, hr0, rfl⟩ := List.mem_map.1 hr
  exact Nat.le_trans (flat_le (acG_len 0) r0) (hb r0 hr0)
theorem rfenced_f (l : List (List S44)) (hl : l.length ≤ 1000) (hb : ∀ r ∈ l, r.length ≤ 1000) (hs : lens l ≤ 1000000) (k : Nat) (hk : lens l + 2 * l.length + 5 < k) :
    locklessref03_Fenced.f k l = some (if Li.checkL (progOf l) = 0 then (fenced l, 0) else ([], Li.checkL (progOf l))) := by
  unfold locklessref03_Fenced.f
  rw [rcheck_f l hl hs, Option.bind_some]
  by_cases hc : Li.checkL (progOf l) = 0
  · rw [if_pos hc, if_pos hc, accs_f 0 l hl hb k (by rw [need_lens]; omega), Option.bind_some]
    have hok := ok_of_check hc
    have := rf_l0 (l.map (·.flatMap (acG 0))) (by rw [List.length_map]; exact hl) (bare0_row hb) l.length 0 (by rw [List.length_map]; omega) (by omega) [] k (by simp) (by rw [List.drop_zero, need_lens, List.length_map]; have := lens_le (acG_len 0) l; omega)
    rw [List.drop_zero, List.nil_append, List.map_map] at this
    refine Eq.trans this ?_
    rw [show l.map (ins true ∘ fun r => r.flatMap (acG 0)) = fenced l from List.map_congr_left (fun r hr => (ins_rb r (hok r hr) true).symm)]
  · rw [if_neg hc, if_neg hc]
def baG (x : S44) : List S44 := if x.f0 = 5 then [] else [x]
theorem baG_len (x : S44) : (baG x).length ≤ 1 := by unfold baG; split <;> simp
def bare (l : List (List S44)) : List (List S44) := l.map (·.flatMap baG)
theorem bare_len (l : List (List S44)) : (bare l).length = l.length := by unfold bare; rw [List.length_map]
theorem sum_bare (g : Li.LOp → Nat) : ∀ (r : List S44), (((r.flatMap baG).map opOf).map g).sum ≤ ((r.map opOf).map g).sum
  | [] => Nat.le_refl _
  | x :: r => by
    have ih := sum_bare g r
    rw [List.flatMap_cons, List.map_append, List.map_append, List.sum_append, List.map_cons, List.map_cons, List.sum_cons]
    refine Nat.add_le_add ?_ ih
    unfold baG
    split <;> simp
theorem bare_check {l : List (List S44)} (h : Li.checkL (progOf l) = 0) : Li.checkL (progOf (bare l)) = 0 := by
  obtain ⟨h1, h2, h3⟩ := check_parts.1 h
  rw [lim_parts] at h1
  obtain ⟨a1, a2, a3, a4, a5, a6⟩ := h1
  rw [prog_len] at a1
  have key : ∀ f : List Li.LOp → Nat, (∀ A B, f (A ++ B) = f A + f B) → f [] = 0 → (∀ r : List S44, f ((r.flatMap baG).map opOf) ≤ f (r.map opOf)) → f (progOf (bare l)).flatten ≤ f (progOf l).flatten := fun f hf h0 hr => by
    rw [sum_map _ _ hf h0, sum_map _ _ hf h0]
    unfold bare
    rw [List.map_map]
    exact sum_le _ _ _ (fun r _ => hr r)
  have eA := key Li.nAcc Li.nAcc_app rfl (fun r => sum_bare _ r)
  have eF := key Li.nFen Li.nFen_app rfl (fun r => sum_bare _ r)
  have eW := fun j => key (Li.nWr j) (Li.nWr_app j) rfl (fun r => sum_bare _ r)
  refine check_parts.2 ⟨?_, ?_, ?_⟩
  · rw [lim_parts, prog_len, bare_len]
    have := eW 0
    have := eW 1
    have := eW 2
    omega
  · unfold bare; simpa using h2
  · intro r hr x hx
    obtain ⟨r0, hr0, rfl⟩ := List.mem_map.1 hr
    obtain ⟨y, hy, hx⟩ := List.mem_flatMap.1 hx
    unfold baG at hx
    split at hx
    · cases hx
    · rw [List.mem_singleton] at hx; subst hx; exact h3 r0 hr0 x hy
theorem strong_bare {l : List (List S44)} (h : Li.checkL (progOf l) = 0) : strong l = (bare l).map (·.map str) := by
  have hok := ok_of_check h
  unfold strong bare
  rw [List.map_map]
  refine List.map_congr_left (fun r hr => ?_)
  have : ∀ (r : List S44), (∀ x ∈ r, Li.okL (opOf x) = true) → r.flatMap stG = (r.flatMap baG).map str := by
    intro r
    induction r with
    | nil => intro _; rfl
    | cons x r ih =>
      intro hr
      have hx := hr x List.mem_cons_self
      rw [List.flatMap_cons, List.flatMap_cons, List.map_append, ih (fun y hy => hr y (List.mem_cons_of_mem _ hy))]
      congr 1
      unfold stG baG
      by_cases h5 : x.f0 = 5
      · rw [if_pos h5, if_neg (fun e => (acc_iff hx).1 e h5)]; rfl
      · rw [if_neg h5, if_pos ((acc_iff hx).2 h5)]; rfl
  exact this r (hok r hr)
theorem ge_four {a : Int} (h : 0 ≤ a ∧ a ≤ 4) : Li.geL 4 a = true := by rcases Li.five h with rfl | rfl | rfl | rfl | rfl <;> decide
theorem strong_ge {l : List (List S44)} (h : Li.checkL (progOf l) = 0) (hs : Li.checkL (progOf (strong l)) = 0) : Li.atL (progOf (strong l)) (progOf (bare l)) = (true, 0) := by
  have hbc := bare_check h
  have hok := ok_of_check hbc
  unfold Li.atL
  rw [if_pos hs, if_pos hbc, strong_bare h]
  congr 1
  rw [Li.all2_iff]
  refine ⟨by simp [progOf], fun i h1 h2 => ?_⟩
  have hi : i < (bare l).length := by rw [prog_len] at h2; exact h2
  have e1 : (progOf ((bare l).map (·.map str)))[i] = ((bare l)[i].map str).map opOf := by simp [progOf]
  have e2 : (progOf (bare l))[i] = ((bare l)[i]).map opOf := by simp [progOf]
  rw [e1, e2, Li.all2_iff]
  refine ⟨by simp, fun j h3 h4 => ?_⟩
  have hj : j < ((bare l)[i]).length := by rw [List.length_map] at h4; exact h4
  rw [List.getElem_map, List.getElem_map, List.getElem_map]
  exact Li.geO_parts.2 ⟨ge_four (Li.ok_ord (hok _ (List.getElem_mem hi) _ (List.getElem_mem hj))), rfl, rfl, rfl, rfl⟩
/-- The law's own loop. -/
theorem lw_l1 (l s : List (List S44)) (hl : l.length ≤ 1000) (hb : ∀ r ∈ l, r.length ≤ 1000)
    (i : Nat) (hi : i < l.length) (out : List (List S44)) (ho : out.length ≤ 1000) (N : Nat) (R : Bool) (Y : List S44)
    (h0 : ∀ k, N < k → locklesslaw03_LitmusStrengthens.l0 k ((i : Int) + 1) l s (out ++ [Y]) = some R) :
    ∀ (m j : Nat), (l[i]).length - j = m → j ≤ (l[i]).length → ∀ (x8 : List S44) (k : Nat), x8.length ≤ j → x8 ++ ((l[i]).drop j).flatMap baG = Y → m + 1 + N < k → locklesslaw03_LitmusStrengthens.l1 k i x8 j l s out = some R
  | 0, j, hm, hj, x8, k, hx, hY, hk => by
    obtain ⟨k, rfl, hk'⟩ := succ_fuel hk
    rw [List.drop_of_length_le (show (l[i]).length ≤ j by omega), List.flatMap_nil, List.append_nil] at hY
    subst hY
    rw [locklesslaw03_LitmusStrengthens.l1, if_pos (by omega), if_pos (by omega), L2_at hi, if_neg (by omega), if_pos (by omega), w64 (by omega) (by omega)]
    exact h0 k (by omega)
  | m + 1, j, hm, hj, x8, k, hx, hY, hk => by
    obtain ⟨k, rfl, hk'⟩ := succ_fuel hk
    have hr := hb l[i] (List.getElem_mem hi)
    have hlt : j < (l[i]).length := by omega
    rw [List.drop_eq_getElem_cons hlt, List.flatMap_cons, ← List.append_assoc] at hY
    have h3' := baG_len (l[i])[j]
    have ih := lw_l1 l s hl hb i hi out ho N R Y h0 m (j + 1) (by omega) (by omega) (x8 ++ baG (l[i])[j]) k (by rw [List.length_append]; omega) hY (by omega)
    rw [locklesslaw03_LitmusStrengthens.l1, if_pos (by omega), if_pos (by omega), L2_at hi, if_pos (by omega), if_pos (by omega), T_at hlt, w64 (by omega) (by omega), show ((j : Int) + 1) = ((j + 1 : Nat) : Int) by omega]
    unfold baG at ih
    generalize (l[i])[j] = x at *
    by_cases h5 : x.f0 = 5
    · rw [if_pos h5]
      rw [if_pos h5, List.append_nil] at ih
      exact ih
    · rw [if_neg h5, if_pos (by omega)]
      rw [if_neg h5] at ih
      exact ih
theorem lw_l0 (l s : List (List S44)) (hl : l.length ≤ 1000) (hb : ∀ r ∈ l, r.length ≤ 1000) (R : Bool) (N : Nat)
    (hend : ∀ k, N < k → locklesslaw03_LitmusStrengthens.l0 k l.length l s (bare l) = some R) :
    ∀ (m i : Nat), l.length - i = m → i ≤ l.length → ∀ (out : List (List S44)) (k : Nat), out.length ≤ i → out ++ (l.drop i).map (·.flatMap baG) = bare l → need (l.drop i) + N < k → locklesslaw03_LitmusStrengthens.l0 k i l s out = some R
  | 0, i, hm, hi, out, k, ho, hY, hk => by
    obtain rfl : i = l.length := by omega
    rw [List.drop_of_length_le (Nat.le_refl _), List.map_nil, List.append_nil] at hY
    subst hY
    exact hend k (by omega)
  | m + 1, i, hm, hi, out, k, ho, hY, hk => by
    have hlt : i < l.length := by omega
    rw [need_drop hlt] at hk
    rw [List.drop_eq_getElem_cons hlt, List.map_cons] at hY
    obtain ⟨k, rfl, hk'⟩ := succ_fuel hk
    rw [locklesslaw03_LitmusStrengthens.l0, if_pos (by omega)]
    refine lw_l1 l s hl hb i hlt out (by omega) (need (l.drop (i + 1)) + N) _ ((l[i]).flatMap baG) (fun k hk => ?_) (l[i]).length 0 (by omega) (by omega) [] k (by simp) (by simp) (by omega)
    have ih := lw_l0 l s hl hb R N hend m (i + 1) (by omega) (by omega) (out ++ [(l[i]).flatMap baG]) k (by rw [List.length_append, List.length_singleton]; omega) (by rw [List.append_assoc]; exact hY) hk
    rw [show ((i : Int) + 1) = ((i + 1 : Nat) : Int) by omega]
    exact ih
/-- The law holds of every program. -/
theorem strengthens_true (l : List (List S44)) (hl : l.length ≤ 17592186044416) (hb : ∀ r ∈ l, r.length ≤ 35184372088832) : ∃ k, locklesslaw03_LitmusStrengthens.f k l = some true := by
  refine ⟨l.length + 3002, ?_⟩
  unfold locklesslaw03_LitmusStrengthens.f
  rcases large_or l hl hb with h1 | ⟨h1, h2, h3, h4⟩
  · rw [h1 _ (by omega), Option.bind_some, if_pos rfl, sane_f _ (by omega)]; rfl
  · rw [h1 _ (by omega), Option.bind_some, if_neg (by decide)]
    rw [own_f l (by omega) h4 _ (by omega), Option.bind_some, strong_f l (by omega) h4 (by omega) _ (by rw [need_lens]; omega), Option.bind_some, rstrong_f l (by omega) h4 (by omega) _ (by rw [need_lens]; omega), Option.bind_some]
    rw [fenced_f l (by omega) h4 (by omega) _ (by rw [need_lens]; omega), Option.bind_some, rfenced_f l (by omega) h4 (by omega) _ (by omega), Option.bind_some, if_pos rfl, if_pos rfl]
    have hsl := lens_le stG_len l
    have hsn := strong_len l
    have hsb : ∀ r ∈ strong l, r.length ≤ 1000 := fun r hr => by have := len_lens hr; unfold strong at this; omega
    have hfl := fenced_lens l
    have hfn : (fenced l).length = l.length := by unfold fenced; rw [List.length_map]
    have hfb : ∀ r ∈ fenced l, r.length ≤ 1000 := fun r hr => by have := len_lens hr; omega
    have hnil : ∀ (k : Nat), 3000 ≤ k → locklessref03_Same.f k [] [] = some true := fun k hk => same_f [] (by simp) (fun r hr => by cases hr) k (by simp [need]; omega)
    have hS : ∀ (k : Nat), 3000 ≤ k → locklessref03_Same.f k (strong l) (strong l) = some true := fun k hk => same_f _ (by omega) hsb k (by rw [need_lens, hsn]; unfold strong; omega)
    have hF : ∀ (k : Nat), 3000 ≤ k → locklessref03_Same.f k (fenced l) (fenced l) = some true := fun k hk => same_f _ (by omega) hfb k (by rw [need_lens, hfn]; omega)
    have hL : ∀ (k : Nat), 3000 ≤ k → locklessref03_Same.f k l l = some true := fun k hk => same_f _ (by omega) h4 k (by rw [need_lens]; omega)
    by_cases hc : Li.checkL (progOf l) = 0
    · rw [if_pos hc, if_pos hc]
      by_cases hm : Li.limL (progOf (strong l)) = true
      · rw [if_pos hm]
        dsimp only
        rw [hS _ (by omega), Option.bind_some, if_pos rfl, hF _ (by omega), Option.bind_some, if_pos rfl, hL _ (by omega), Option.bind_some]
        rw [show l.length + 3002 = l.length + 3001 + 1 from rfl, locklesslaw03_LitmusStrengthens.j0, if_neg (by decide), if_pos rfl]
        have hsc : Li.checkL (progOf (strong l)) = 0 := by rw [strong_check hc, if_pos hm]
        refine lw_l0 l (strong l) (by omega) h4 true 1000 (fun k hk => ?_) l.length 0 (by omega) (by omega) [] _ (by simp) (by rw [List.drop_zero]; rfl) (by rw [List.drop_zero, need_lens]; omega)
        obtain ⟨k, rfl, hk'⟩ := succ_fuel hk
        have hbl := lens_le baG_len l
        rw [locklesslaw03_LitmusStrengthens.l0, if_neg (by omega), at_f (strong l) (bare l) (by omega) (by unfold strong; omega) (by rw [bare_len]; omega) (by unfold bare; omega), Option.bind_some, strong_ge hc hsc]
        dsimp only
        rw [if_pos rfl, if_pos rfl, sane_f _ (by omega)]
        rfl
      · rw [if_neg hm]
        dsimp only
        rw [hnil _ (by omega), Option.bind_some, if_pos rfl, hF _ (by omega), Option.bind_some, if_pos rfl, hL _ (by omega), Option.bind_some]
        rw [show l.length + 3002 = l.length + 3001 + 1 from rfl, locklesslaw03_LitmusStrengthens.j0, if_neg (by decide), if_neg (by decide), sane_f _ (by omega)]
        rfl
    · rw [if_neg hc, if_neg hc]
      dsimp only
      rw [hnil _ (by omega), Option.bind_some, if_pos rfl, Option.bind_some, if_pos rfl, hL _ (by omega), Option.bind_some]
      rw [show l.length + 3002 = l.length + 3001 + 1 from rfl, locklesslaw03_LitmusStrengthens.j0, if_neg (by decide), if_neg hc, sane_f _ (by omega)]
      rfl
end Go.Proofs.Ytgfbgbclpeihdaa.XSn
