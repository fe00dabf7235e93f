/- A deque goes: what pushes, pops and steals tell, by the rules' deeds alone: plain lemmas; no condition. -/
import Derived.Test.YtiialjmpfeopjaaPwD
namespace Go.Proofs.Ytiialjmpfeopjaa.Sp
open Go.RowKit Go.Sort Go.Proofs.YtiialjmpfeopjaaW.PrintWords Go.Proofs.YtiialjmpfeopjaaW.PrintLast Go.Proofs.YtiialjmpfeopjaaW.PrintMore
set_option linter.unusedVariables false
set_option linter.unusedSimpArgs false
set_option maxRecDepth 100000
def stealC : CallT := (⟨#[115, 116, 101, 97, 108]⟩, 0, 0)
theorem at4 : ruleS 4 1 = some rule4 := by
  unfold ruleS
  rw [if_neg (by omega), if_neg (by omega), if_neg (by omega), if_neg (by omega), if_pos rfl]
theorem good4 {s : List Int} : rule4.good s = true ↔ s.length ≤ 24 ∧ ∀ x ∈ s, 0 ≤ x ∧ x ≤ 900 := good1
theorem nm_push_steal : decide ((⟨#[112, 117, 115, 104]⟩ : ByteArray).toList = (⟨#[115, 116, 101, 97, 108]⟩ : ByteArray).toList) = false := by decide +kernel
theorem nm_pop_steal : decide ((⟨#[112, 111, 112]⟩ : ByteArray).toList = (⟨#[115, 116, 101, 97, 108]⟩ : ByteArray).toList) = false := by decide +kernel
theorem push4 (s : List Int) (x : Int) (hs : s.length + 1 ≤ 24) (hg : ∀ x ∈ s, 0 ≤ x ∧ x ≤ 900) (hx : 0 ≤ x ∧ x ≤ 900) : doS 4 1 s (pushC x).1 (pushC x).2.1 (pushC x).2.2 0 = some (s ++ [x], 0, 0) :=
  do_step (rest := []) at4 (good4.2 ⟨by omega, hg⟩) (act_first (does_true nm_push (takes_one hx.1 hx.2) (by decide) (by decide))) rfl (good4.2 ⟨by simp; omega, fun z hz => by
    rcases List.mem_append.1 hz with h | h
    · exact hg z h
    · rw [List.mem_singleton.1 h]; exact hx⟩)
theorem pushes4 : ∀ (ws s : List Int), s.length + ws.length ≤ 24 → (∀ x ∈ s, 0 ≤ x ∧ x ≤ 900) → (∀ x ∈ ws, 0 ≤ x ∧ x ≤ 900) → Goes 4 1 (ws.map pushC) s (List.replicate ws.length 0) (s ++ ws)
  | [], s, _, _, _ => ⟨rfl, by simp⟩
  | x :: ws, s, h, hs, hw => by
    have hx := hw x (List.mem_cons_self ..)
    have ih := pushes4 ws (s ++ [x]) (by simp at h ⊢; omega) (fun z hz => by
      rcases List.mem_append.1 hz with h | h
      · exact hs z h
      · rw [List.mem_singleton.1 h]; exact hx) (fun z hz => hw z (List.mem_cons_of_mem _ hz))
    rw [List.append_assoc, List.singleton_append] at ih
    exact Goes.cons (push4 s x (by simp at h; omega) hs hx) (by simp at h ⊢; omega) ih
theorem pop4 (s : List Int) (x : Int) (hs : s.length + 1 ≤ 24) (hg : ∀ x ∈ s, 0 ≤ x ∧ x ≤ 900) (hx : 0 ≤ x ∧ x ≤ 900) : doS 4 1 (s ++ [x]) popC.1 popC.2.1 popC.2.2 0 = some (s, x, 0) := by
  refine do_step (rest := []) at4 (good4.2 ⟨by simp; omega, fun z hz => by
    rcases List.mem_append.1 hz with h | h
    · exact hg z h
    · rw [List.mem_singleton.1 h]; exact hx⟩) ((act_next (does_false nm_push_pop)).trans (act_first (does_true nm_pop takes_none (by decide) (by decide)))) ?_ (good4.2 ⟨by omega, hg⟩)
  show takeD (fun s => (s.length : Int) - 1) (s ++ [x]) 0 0 0 = _
  unfold takeD
  rw [if_neg (by simp)]
  simp [List.eraseIdx_append_of_length_le]
theorem steal4 (s : List Int) (x : Int) (hs : s.length + 1 ≤ 24) (hg : ∀ x ∈ s, 0 ≤ x ∧ x ≤ 900) (hx : 0 ≤ x ∧ x ≤ 900) : doS 4 1 (x :: s) stealC.1 stealC.2.1 stealC.2.2 0 = some (s, x, 0) := by
  refine do_step (rest := []) at4 (good4.2 ⟨by simp; omega, fun z hz => by
    rcases List.mem_cons.1 hz with h | h
    · rw [h]; exact hx
    · exact hg z h⟩) ((act_next (does_false nm_push_steal)).trans ((act_next (does_false nm_pop_steal)).trans (act_first (does_true (by simp [takeS, stealC]) takes_none (by decide) (by decide))))) ?_ (good4.2 ⟨by omega, hg⟩)
  show takeD (fun _ => 0) (x :: s) 0 0 0 = _
  unfold takeD
  rw [if_neg (by simp)]
  simp
theorem pop4_nil : doS 4 1 [] popC.1 popC.2.1 popC.2.2 0 = some ([], -1, 0) :=
  do_step (rest := []) at4 (good4.2 ⟨by simp, by simp⟩) ((act_next (does_false nm_push_pop)).trans (act_first (does_true nm_pop takes_none (by decide) (by decide)))) rfl (good4.2 ⟨by simp, by simp⟩)
theorem steal4_nil : doS 4 1 [] stealC.1 stealC.2.1 stealC.2.2 0 = some ([], -1, 0) :=
  do_step (rest := []) at4 (good4.2 ⟨by simp, by simp⟩) ((act_next (does_false nm_push_steal)).trans ((act_next (does_false nm_pop_steal)).trans (act_first (does_true (by simp [takeS, stealC]) takes_none (by decide) (by decide))))) rfl (good4.2 ⟨by simp, by simp⟩)
/-- The i-th call: from the one end, or from the other one. -/
def endC (B : Nat → Bool) (i : Nat) : CallT := if B i = true then stealC else popC
/-- What is told of the words from lo on, m of them. -/
def outD (B : Nat → Bool) (ws : List Int) : Nat → Nat → Nat → List Int
  | 0, _, _ => [-1]
  | m + 1, i, lo => if B i = true then ws.getD lo 0 :: outD B ws m (i + 1) (lo + 1) else ws.getD (lo + m) 0 :: outD B ws m (i + 1) lo
theorem outD_len (B : Nat → Bool) (ws : List Int) : ∀ m i lo, (outD B ws m i lo).length = m + 1
  | 0, _, _ => rfl
  | m + 1, i, lo => by
    unfold outD
    split <;> simp [outD_len B ws m]
theorem seg_cons (ws : List Int) (lo m : Nat) (h : lo + m < ws.length) : (ws.drop lo).take (m + 1) = ws.getD lo 0 :: (ws.drop (lo + 1)).take m := by
  rw [List.drop_eq_getElem_cons (by omega), List.take_succ_cons]
  congr 1
  rw [List.getD_eq_getElem?_getD, List.getElem?_eq_getElem (by omega)]; rfl
theorem seg_snoc (ws : List Int) (lo m : Nat) (h : lo + m < ws.length) : (ws.drop lo).take (m + 1) = (ws.drop lo).take m ++ [ws.getD (lo + m) 0] := by
  rw [List.take_succ_eq_append_getElem (by rw [List.length_drop]; omega)]
  congr 2
  rw [List.getElem_drop, List.getD_eq_getElem?_getD, List.getElem?_eq_getElem h]; rfl
theorem ends_go (B : Nat → Bool) (ws : List Int) (hl : ws.length ≤ 11) (hw : ∀ x ∈ ws, 0 ≤ x ∧ x ≤ 900) : ∀ (m i lo : Nat), lo + m ≤ ws.length → Goes 4 1 ((List.range' i (m + 1)).map (endC B)) ((ws.drop lo).take m) (outD B ws m i lo) []
  | 0, i, lo, h => by
    rw [List.take_zero]
    show Goes 4 1 [endC B i] [] [-1] []
    unfold endC
    by_cases hb : B i = true
    · rw [if_pos hb]; exact Goes.one steal4_nil (by simp)
    · rw [if_neg hb]; exact Goes.one pop4_nil (by simp)
  | m + 1, i, lo, h => by
    have hseg : ∀ lo m, ∀ x ∈ (ws.drop lo).take m, 0 ≤ x ∧ x ≤ 900 := fun lo m x hx => hw x (List.mem_of_mem_drop (List.mem_of_mem_take hx))
    have hat : ∀ j, j < ws.length → 0 ≤ ws.getD j 0 ∧ ws.getD j 0 ≤ 900 := fun j hj => by
      rw [List.getD_eq_getElem?_getD, List.getElem?_eq_getElem hj]
      exact hw _ (List.getElem_mem hj)
    have hsl : ∀ lo m, ((ws.drop lo).take m).length ≤ 11 := fun lo m => by rw [List.length_take, List.length_drop]; omega
    rw [List.range'_succ, List.map_cons]
    unfold outD
    by_cases hb : B i = true
    · rw [if_pos hb, seg_cons ws lo m (by omega)]
      have e : endC B i = stealC := by unfold endC; rw [if_pos hb]
      rw [e]
      have hq := hsl (lo + 1) m
      exact Goes.cons (steal4 _ _ (by omega) (hseg _ _) (hat lo (by omega))) (by omega) (ends_go B ws hl hw m (i + 1) (lo + 1) (by omega))
    · rw [if_neg hb, seg_snoc ws lo m (by omega)]
      have e : endC B i = popC := by unfold endC; rw [if_neg hb]
      rw [e]
      have hq := hsl lo m
      exact Goes.cons (pop4 _ _ (by omega) (hseg _ _) (hat (lo + m) (by omega))) (by omega) (ends_go B ws hl hw m (i + 1) lo (by omega))
theorem deque_run (B : Nat → Bool) (ws : List Int) (hl : ws.length ≤ 11) (hw : ∀ x ∈ ws, 0 ≤ x ∧ x ≤ 900) : runS 4 1 (ws.map pushC ++ (List.range' 0 (ws.length + 1)).map (endC B)) = some (List.replicate ws.length 0 ++ outD B ws ws.length 0 0, [], 0) := by
  refine goes_run at4 (by decide) (by simp; omega) (Goes.append (pushes4 ws [] (by simp; omega) (by simp) hw) ?_)
  have := ends_go B ws hl hw ws.length 0 0 (by omega)
  rw [List.drop_zero, List.take_length] at this
  exact this
end Go.Proofs.Ytiialjmpfeopjaa.Sp
