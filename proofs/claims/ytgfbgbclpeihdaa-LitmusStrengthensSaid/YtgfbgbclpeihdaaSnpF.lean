/- litmus.Fenced, plain: what it returns is valid; no condition. -/
import Derived.Test.YtgfbgbclpeihdaaSnpB
namespace Go.Proofs.Ytgfbgbclpeihdaa.XSn
open Go.RowKit Go.Proofs.YtgfbgbclpeihdaaW.PrintWords Go.Proofs.YtgfbgbclpeihdaaW.PrintLast Go.Proofs.YtgfbgbclpeihdaaW.PrintMore
set_option linter.unusedVariables false
set_option linter.unusedSimpArgs false
set_option maxRecDepth 100000
set_option maxHeartbeats 4000000
theorem rb_Fenced_1_l1 (l : List (List S44)) (hl : l.length ≤ 1000) (hb : ∀ r ∈ l, r.length ≤ 1000) (F : S44 → Bool → List S44) (h3 : ∀ x b, (F x b).length ≤ 3) (hF : ∀ r ∈ l, ∀ x ∈ r, ∀ (b : Bool) (k : Nat), 4 ≤ k → litmus_Fenced_1.f x.f0 x.f1 x.f2 x.f3 x.f4 b = some (F x b))
    (i : Nat) (hi : i < l.length) (out : List (List S44)) (ho : out.length ≤ 1000) (N : Nat) (hN : 5 ≤ N) (R : List (List S44)) (Y : List S44)
    (h0 : ∀ k, N < k → litmus_rebuilt_Fenced_1.l0 k l l.length ((i : Int) + 1) (out ++ [Y]) = some R) :
    ∀ (m j : Nat), (l[i]).length - j = m → j ≤ (l[i]).length → ∀ (x8 : List S44) (b : Bool) (k : Nat), x8.length ≤ 3 * j → x8 ++ rb F b ((l[i]).drop j) = Y → m + 1 + N < k → litmus_rebuilt_Fenced_1.l1 k x8 b l l.length i l[i] (l[i]).length j out = some R
  | 0, j, hm, hj, x8, b, k, hx, hY, hk => by
    obtain ⟨k, rfl, hk'⟩ := succ_fuel hk
    rw [List.drop_of_length_le (show (l[i]).length ≤ j by omega), rb, List.append_nil] at hY
    subst hY
    rw [litmus_rebuilt_Fenced_1.l1, if_neg (by omega), if_pos (by omega), w64 (by omega) (by omega)]
    exact h0 k (by omega)
  | m + 1, j, hm, hj, x8, b, k, hx, hY, hk => by
    obtain ⟨k, rfl, hk'⟩ := succ_fuel hk
    have hr := hb l[i] (List.getElem_mem hi)
    have hlt : j < (l[i]).length := by omega
    rw [List.drop_eq_getElem_cons hlt, rb, ← List.append_assoc] at hY
    have h3' := h3 (l[i])[j] b
    have ih := rb_Fenced_1_l1 l hl hb F h3 hF i hi out ho N hN R Y h0 m (j + 1) (by omega) (by omega) (x8 ++ F (l[i])[j] b) (b && !Li.accL (opOf (l[i])[j])) k (by rw [List.length_append]; omega) hY (by omega)
    rw [litmus_rebuilt_Fenced_1.l1, if_pos (by omega), if_pos (by omega), if_pos (by omega), T_at hlt, hF l[i] (List.getElem_mem hi) (l[i])[j] (List.getElem_mem hlt) b k (by omega), Option.bind_some, if_pos (by omega), Option.bind_some, w64 (by omega) (by omega), show ((j : Int) + 1) = ((j + 1 : Nat) : Int) by omega]
    cases b with
    | true => rw [if_pos rfl, access_f, Option.bind_some]; exact ih
    | false => rw [if_neg (by decide)]; exact ih
theorem rb_Fenced_1_l0 (l : List (List S44)) (hl : l.length ≤ 1000) (hb : ∀ r ∈ l, r.length ≤ 1000) (F : S44 → Bool → List S44) (h3 : ∀ x b, (F x b).length ≤ 3) (hF : ∀ r ∈ l, ∀ x ∈ r, ∀ (b : Bool) (k : Nat), 4 ≤ k → litmus_Fenced_1.f x.f0 x.f1 x.f2 x.f3 x.f4 b = some (F x b)) :
    ∀ (m i : Nat), l.length - i = m → i ≤ l.length → ∀ (out : List (List S44)) (k : Nat), out.length ≤ i → need (l.drop i) + 5 < k → litmus_rebuilt_Fenced_1.l0 k l l.length i out = some (out ++ (l.drop i).map (rb F true))
  | 0, i, hm, hi, out, k, ho, hk => by
    obtain ⟨k, rfl, _⟩ := succ_fuel hk
    rw [litmus_rebuilt_Fenced_1.l0, if_neg (by omega), List.drop_of_length_le (by omega), List.map_nil, List.append_nil]
  | m + 1, i, hm, hi, out, k, ho, hk => by
    have hlt : i < l.length := by omega
    rw [need_drop hlt] at hk
    obtain ⟨k, rfl, hk'⟩ := succ_fuel hk
    rw [litmus_rebuilt_Fenced_1.l0, if_pos (by omega), if_pos (by omega), if_pos (by omega), L2_at hlt]
    refine rb_Fenced_1_l1 l hl hb F h3 hF i hlt out (by omega) (need (l.drop (i + 1)) + 5) (by omega) _ (rb F true l[i]) (fun k hk => ?_) (l[i]).length 0 (by omega) (by omega) [] true k (by simp) (by simp) (by omega)
    have ih := rb_Fenced_1_l0 l hl hb F h3 hF m (i + 1) (by omega) (by omega) (out ++ [rb F true l[i]]) k (by rw [List.length_append, List.length_singleton]; omega) hk
    rw [show ((i : Int) + 1) = ((i + 1 : Nat) : Int) by omega, ih, List.drop_eq_getElem_cons hlt, List.map_cons, List.append_assoc]
    rfl
theorem rb_Fenced_1_f (l : List (List S44)) (hl : l.length ≤ 1000) (hb : ∀ r ∈ l, r.length ≤ 1000) (F : S44 → Bool → List S44) (h3 : ∀ x b, (F x b).length ≤ 3) (hF : ∀ r ∈ l, ∀ x ∈ r, ∀ (b : Bool) (k : Nat), 4 ≤ k → litmus_Fenced_1.f x.f0 x.f1 x.f2 x.f3 x.f4 b = some (F x b)) (k : Nat) (hk : need l + 5 < k) :
    litmus_rebuilt_Fenced_1.f k l = some (l.map (rb F true)) := by
  have := rb_Fenced_1_l0 l hl hb F h3 hF l.length 0 (by omega) (by omega) [] k (by simp) (by rw [List.drop_zero]; exact hk)
  rw [List.drop_zero, List.nil_append] at this
  exact this
/-- A strong fence. -/
def fen : S44 := ⟨5, 0, 0, 0, 4⟩
def rlx (x : S44) : S44 := ⟨x.f0, x.f1, x.f2, x.f3, 0⟩
def feF (x : S44) (b : Bool) : List S44 := if Li.accL (opOf x) = true then (if b = true then [rlx x] else [fen, rlx x]) else []
theorem feF_len (x : S44) (b : Bool) : (feF x b).length ≤ 3 := by unfold feF; cases Li.accL (opOf x) <;> cases b <;> simp
theorem fe_f (x : S44) (b : Bool) : litmus_Fenced_1.f x.f0 x.f1 x.f2 x.f3 x.f4 b = some (feF x b) := by
  unfold litmus_Fenced_1.f feF
  rw [access_f, Option.bind_some]
  cases Li.accL (opOf x) with
  | false => rfl
  | true => cases b <;> rfl
def fenced (l : List (List S44)) : List (List S44) := l.map (rb feF true)
theorem fenced_f (l : List (List S44)) (hl : l.length ≤ 1000) (hb : ∀ r ∈ l, r.length ≤ 1000) (hs : lens l ≤ 1000000) (k : Nat) (hk : need l + 5 < k) :
    litmus_Fenced.f k l = some (if Li.checkL (progOf l) = 0 then (fenced l, 0) else ([], Li.checkL (progOf l))) := by
  unfold litmus_Fenced.f
  rw [check_f l hl hs, Option.bind_some]
  split
  · rw [rb_Fenced_1_f l hl hb feF feF_len (fun r _ x _ b k _ => fe_f x b) k hk]; rfl
  · rfl
/-- Accesses stay, their order is relaxed. -/
theorem fe_acc (r : List S44) : ∀ b, Li.nAcc ((rb feF b r).map opOf) = Li.nAcc (r.map opOf) := by
  induction r with
  | nil => intro b; rfl
  | cons x r ih =>
    intro b
    rw [rb, List.map_append, Li.nAcc_app, ih, List.map_cons, show opOf x :: r.map opOf = [opOf x] ++ r.map opOf from rfl, Li.nAcc_app]
    congr 1
    unfold feF
    cases h : Li.accL (opOf x) with
    | false => simp [Li.nAcc, h, Li.b1]
    | true =>
      have h' : Li.accL (opOf (rlx x)) = true := h
      have hf : Li.accL (opOf fen) = false := rfl
      cases b <;> simp [Li.nAcc, h, h', hf, Li.b1]
theorem fe_wr (j : Int) (r : List S44) : ∀ b, Li.nWr j ((rb feF b r).map opOf) = Li.nWr j (r.map opOf) := by
  induction r with
  | nil => intro b; rfl
  | cons x r ih =>
    intro b
    rw [rb, List.map_append, Li.nWr_app, ih, List.map_cons, show opOf x :: r.map opOf = [opOf x] ++ r.map opOf from rfl, Li.nWr_app]
    congr 1
    unfold feF
    cases h : Li.accL (opOf x) with
    | false =>
      have : Li.wrL j (opOf x) = false := by unfold Li.wrL; rw [h]; rfl
      simp [Li.nWr, this, Li.b1]
    | true =>
      have h' : Li.wrL j (opOf (rlx x)) = Li.wrL j (opOf x) := rfl
      have hf : Li.wrL j (opOf fen) = false := rfl
      cases b <;> simp [Li.nWr, h', hf, Li.b1]
theorem fe_fen (r : List S44) : ∀ b, Li.nFen ((rb feF b r).map opOf) ≤ Li.nAcc (r.map opOf) := by
  induction r with
  | nil => intro b; exact Nat.le_refl _
  | cons x r ih =>
    intro b
    rw [rb, List.map_append, Li.nFen_app, List.map_cons, show opOf x :: r.map opOf = [opOf x] ++ r.map opOf from rfl, Li.nAcc_app]
    refine Nat.add_le_add ?_ (ih _)
    unfold feF
    cases h : Li.accL (opOf x) with
    | false => simp [Li.nFen]
    | true =>
      have h5 : (opOf (rlx x)).k ≠ 5 := by
        unfold Li.accL at h; simp only [Bool.and_eq_true, decide_eq_true_eq] at h
        have := h.2; intro e; rw [show (opOf (rlx x)).k = (opOf x).k from rfl] at e; omega
      have h' : Li.fenW (opOf (rlx x)) = 0 := by
        unfold Li.fenW; rw [show decide ((opOf (rlx x)).k = 5) = false by simp [h5], show decide ((opOf (rlx x)).o = 4) = false from rfl, Bool.and_false]; rfl
      have hf : Li.fenW (opOf fen) = 1 := rfl
      cases b <;> simp [Li.nFen, Li.nAcc, h, h', hf, Li.b1]
theorem fe_ok (r : List S44) (hr : ∀ x ∈ r, Li.okL (opOf x) = true) : ∀ b, ∀ y ∈ rb feF b r, Li.okL (opOf y) = true ∧ ¬ (Li.accL (opOf y) = true ∧ y.f4 = 4) := by
  induction r with
  | nil => intro b y hy; cases hy
  | cons x r ih =>
    intro b y hy
    rw [rb, List.mem_append] at hy
    rcases hy with hy | hy
    · have hx := hr x List.mem_cons_self
      have key : Li.accL (opOf x) = true → Li.okL (opOf (rlx x)) = true := fun h => by
        unfold Li.accL at h; simp only [Bool.and_eq_true, decide_eq_true_eq] at h
        unfold Li.okL at hx ⊢
        rw [Bool.and_eq_true] at hx
        rw [Bool.and_eq_true]
        refine ⟨?_, hx.2⟩
        have h1 := h.1
        have h2 := h.2
        unfold Li.mayL
        rw [show (opOf (rlx x)).k = (opOf x).k from rfl, show (opOf (rlx x)).o = 0 from rfl]
        generalize (opOf x).k = K at *
        rcases (show K = 0 ∨ K = 1 ∨ K = 2 ∨ K = 3 ∨ K = 4 by omega) with rfl | rfl | rfl | rfl | rfl <;> rfl
      unfold feF at hy
      cases h : Li.accL (opOf x) with
      | false => rw [h] at hy; cases hy
      | true =>
        rw [h, if_pos rfl] at hy
        have kr : Li.okL (opOf (rlx x)) = true ∧ ¬ (Li.accL (opOf (rlx x)) = true ∧ (rlx x).f4 = 4) := ⟨key h, fun e => absurd e.2 (by show ¬ (0 : Int) = 4; decide)⟩
        have kf : Li.okL (opOf fen) = true ∧ ¬ (Li.accL (opOf fen) = true ∧ fen.f4 = 4) := ⟨rfl, fun e => absurd e.1 (by decide)⟩
        cases b with
        | true =>
          rw [if_pos rfl, List.mem_singleton] at hy
          subst hy; exact kr
        | false =>
          rw [if_neg (by decide)] at hy
          rcases List.mem_cons.1 hy with rfl | hy
          · exact kf
          · rw [List.mem_singleton] at hy; subst hy; exact kr
    · exact ih (fun x hx => hr x (List.mem_cons_of_mem _ hx)) _ y hy
theorem sum_map (P : List (List S44)) (f : List Li.LOp → Nat) (hf : ∀ A B, f (A ++ B) = f A + f B) (h0 : f [] = 0) : f (progOf P).flatten = (P.map fun r => f (r.map opOf)).sum := by
  induction P with
  | nil => exact h0
  | cons r P ih =>
    show f ((r.map opOf) ++ (progOf P).flatten) = _
    rw [hf, ih, List.map_cons, List.sum_cons]
theorem sum_le {α : Type} (L : List α) (f g : α → Nat) (h : ∀ x ∈ L, f x ≤ g x) : (L.map f).sum ≤ (L.map g).sum := by
  induction L with
  | nil => exact Nat.le_refl _
  | cons a L ih =>
    rw [List.map_cons, List.map_cons, List.sum_cons, List.sum_cons]
    exact Nat.add_le_add (h a List.mem_cons_self) (ih fun x hx => h x (List.mem_cons_of_mem _ hx))
theorem lim_parts {P : List (List Li.LOp)} : Li.limL P = true ↔ P.length ≤ 3 ∧ Li.nAcc P.flatten ≤ 6 ∧ Li.nFen P.flatten ≤ 8 ∧ Li.nWr 0 P.flatten ≤ 4 ∧ Li.nWr 1 P.flatten ≤ 4 ∧ Li.nWr 2 P.flatten ≤ 4 := by
  unfold Li.limL
  simp only [Bool.and_eq_true, decide_eq_true_eq]
  omega
theorem check_parts {l : List (List S44)} : Li.checkL (progOf l) = 0 ↔ Li.limL (progOf l) = true ∧ l ≠ [] ∧ ∀ r ∈ l, ∀ x ∈ r, Li.okL (opOf x) = true := by
  constructor
  · intro h
    refine ⟨?_, ?_, ok_of_check h⟩
    · unfold Li.checkL at h
      split at h
      · simp at h
      · rename_i hl; simpa using hl
    · rintro rfl
      unfold Li.checkL at h
      split at h <;> simp [progOf] at h
  · rintro ⟨h1, h2, h3⟩
    unfold Li.checkL
    rw [if_neg (by rw [h1]; decide), if_neg (by unfold progOf; simpa using h2), if_pos]
    rw [List.all_eq_true]
    intro y hy
    obtain ⟨r, hr, hy⟩ := List.mem_flatten.1 hy
    obtain ⟨r0, hr0, rfl⟩ := List.mem_map.1 hr
    obtain ⟨x, hx, rfl⟩ := List.mem_map.1 hy
    exact h3 r0 hr0 x hx
theorem fenced_check {l : List (List S44)} (h : Li.checkL (progOf l) = 0) : Li.checkL (progOf (fenced l)) = 0 := by
  obtain ⟨h1, h2, h3⟩ := check_parts.1 h
  rw [lim_parts] at h1
  obtain ⟨a1, a2, a3, a4, a5, a6⟩ := h1
  rw [prog_len] at a1
  have eA : Li.nAcc (progOf (fenced l)).flatten = Li.nAcc (progOf l).flatten := by
    rw [sum_map _ _ Li.nAcc_app rfl, sum_map _ _ Li.nAcc_app rfl]
    unfold fenced
    rw [List.map_map]
    congr 1
    exact List.map_congr_left (fun r _ => fe_acc r true)
  have eW : ∀ j, Li.nWr j (progOf (fenced l)).flatten = Li.nWr j (progOf l).flatten := fun j => by
    rw [sum_map _ _ (Li.nWr_app j) rfl, sum_map _ _ (Li.nWr_app j) rfl]
    unfold fenced
    rw [List.map_map]
    congr 1
    exact List.map_congr_left (fun r _ => fe_wr j r true)
  have eF : Li.nFen (progOf (fenced l)).flatten ≤ Li.nAcc (progOf l).flatten := by
    rw [sum_map _ _ Li.nFen_app rfl, sum_map _ _ Li.nAcc_app rfl]
    unfold fenced
    rw [List.map_map]
    exact sum_le _ _ _ (fun r _ => fe_fen r true)
  refine check_parts.2 ⟨?_, ?_, ?_⟩
  · rw [lim_parts, prog_len, eA, eW, eW, eW]
    refine ⟨by unfold fenced; rw [List.length_map]; exact a1, a2, by omega, a4, a5, a6⟩
  · unfold fenced; simpa using h2
  · intro r hr x hx
    obtain ⟨r0, hr0, rfl⟩ := List.mem_map.1 hr
    exact (fe_ok r0 (h3 r0 hr0) true x hx).1
theorem fe_len (r : List S44) : ∀ b, (rb feF b r).length ≤ 2 * r.length := by
  induction r with
  | nil => intro b; exact Nat.le_refl _
  | cons x r ih =>
    intro b
    rw [rb, List.length_append, List.length_cons]
    have h1 := ih (b && !Li.accL (opOf x))
    have h2 : (feF x b).length ≤ 2 := by unfold feF; cases Li.accL (opOf x) <;> cases b <;> simp
    omega
theorem fenced_lens (l : List (List S44)) : lens (fenced l) ≤ 2 * lens l := by
  induction l with
  | nil => exact Nat.le_refl _
  | cons r l ih =>
    have := fe_len r true
    simp only [lens, fenced, List.map_cons, List.sum_cons] at *
    omega
end Go.Proofs.Ytgfbgbclpeihdaa.XSn
