/- Stacks and queues go: what pushes and pops tell, by the rules' deeds alone: plain lemmas; no condition. -/
import Derived.Test.YtiialjmpfeopjaaGreatPwA
namespace Go.Proofs.YtiialjmpfeopjaaGreat.Sp
open Go.RowKit Go.Sort Go.Proofs.YtiialjmpfeopjaaGreatW.PrintWords Go.Proofs.YtiialjmpfeopjaaGreatW.PrintLast Go.Proofs.YtiialjmpfeopjaaGreatW.PrintMore
set_option linter.unusedVariables false
set_option linter.unusedSimpArgs false
set_option maxRecDepth 100000
def pushC (x : Int) : CallT := (⟨#[112, 117, 115, 104]⟩, x, 0)
def popC : CallT := (⟨#[112, 111, 112]⟩, 0, 0)
def enqC (x : Int) : CallT := (⟨#[101, 110, 113]⟩, x, 0)
def deqC : CallT := (⟨#[100, 101, 113]⟩, 0, 0)
theorem at1 : ruleS 1 1 = some rule1 := by unfold ruleS; rw [if_neg (by omega), if_pos rfl]
theorem at2 : ruleS 2 1 = some rule2 := by unfold ruleS; rw [if_neg (by omega), if_neg (by omega), if_pos rfl]
theorem nm_push : decide ((⟨#[112, 117, 115, 104]⟩ : ByteArray).toList = (⟨#[112, 117, 115, 104]⟩ : ByteArray).toList) = true := by simp
theorem nm_pop : decide ((⟨#[112, 111, 112]⟩ : ByteArray).toList = (⟨#[112, 111, 112]⟩ : ByteArray).toList) = true := by simp
theorem nm_push_pop : decide ((⟨#[112, 117, 115, 104]⟩ : ByteArray).toList = (⟨#[112, 111, 112]⟩ : ByteArray).toList) = false := by decide +kernel
theorem nm_enq_deq : decide ((⟨#[101, 110, 113]⟩ : ByteArray).toList = (⟨#[100, 101, 113]⟩ : ByteArray).toList) = false := by decide +kernel
theorem good1 {s : List Int} : rule1.good s = true ↔ s.length ≤ 24 ∧ ∀ x ∈ s, 0 ≤ x ∧ x ≤ 900 := by
  show wordsB 24 900 s = true ↔ _
  rw [words_iff]
  exact ⟨fun h => ⟨by have := h.1; omega, h.2⟩, fun h => ⟨by have := h.1; omega, h.2⟩⟩
theorem good2 {s : List Int} : rule2.good s = true ↔ s.length ≤ 24 ∧ ∀ x ∈ s, 0 ≤ x ∧ x ≤ 900 := good1
theorem push_step (s : List Int) (x : Int) (hs : s.length + 1 ≤ 24) (hg : ∀ x ∈ s, 0 ≤ x ∧ x ≤ 900) (hx : 0 ≤ x ∧ x ≤ 900) : doS 1 1 s (pushC x).1 (pushC x).2.1 (pushC x).2.2 0 = some (s ++ [x], 0, 0) :=
  do_step (rest := []) at1 (good1.2 ⟨by omega, hg⟩) (act_first (does_true nm_push (takes_one hx.1 hx.2) (by decide) (by decide))) rfl (good1.2 ⟨by simp; omega, fun z hz => by
    rcases List.mem_append.1 hz with h | h
    · exact hg z h
    · rw [List.mem_singleton.1 h]; exact hx⟩)
theorem enq_step (s : List Int) (x : Int) (hs : s.length + 1 ≤ 24) (hg : ∀ x ∈ s, 0 ≤ x ∧ x ≤ 900) (hx : 0 ≤ x ∧ x ≤ 900) : doS 2 1 s (enqC x).1 (enqC x).2.1 (enqC x).2.2 0 = some (s ++ [x], 0, 0) :=
  do_step (rest := []) at2 (good2.2 ⟨by omega, hg⟩) (act_first (does_true (by simp [putS, enqC]) (takes_one hx.1 hx.2) (by decide) (by decide))) rfl (good2.2 ⟨by simp; omega, fun z hz => by
    rcases List.mem_append.1 hz with h | h
    · exact hg z h
    · rw [List.mem_singleton.1 h]; exact hx⟩)
theorem pop_step (s : List Int) (x : Int) (hs : s.length + 1 ≤ 24) (hg : ∀ x ∈ s, 0 ≤ x ∧ x ≤ 900) (hx : 0 ≤ x ∧ x ≤ 900) : doS 1 1 (s ++ [x]) popC.1 popC.2.1 popC.2.2 0 = some (s, x, 0) := by
  refine do_step (rest := []) at1 (good1.2 ⟨by simp; omega, fun z hz => by
    rcases List.mem_append.1 hz with h | h
    · exact hg z h
    · rw [List.mem_singleton.1 h]; exact hx⟩) ((act_next (does_false nm_push_pop)).trans (act_first (does_true nm_pop takes_none (by decide) (by decide)))) ?_ (good1.2 ⟨by omega, hg⟩)
  show takeD (fun s => (s.length : Int) - 1) (s ++ [x]) 0 0 0 = _
  unfold takeD
  rw [if_neg (by simp)]
  simp [List.eraseIdx_append_of_length_le]
theorem pop_nil : doS 1 1 [] popC.1 popC.2.1 popC.2.2 0 = some ([], -1, 0) :=
  do_step (rest := []) at1 (good1.2 ⟨by simp, by simp⟩) ((act_next (does_false nm_push_pop)).trans (act_first (does_true nm_pop takes_none (by decide) (by decide)))) rfl (good1.2 ⟨by simp, by simp⟩)
theorem deq_step (s : List Int) (x : Int) (hs : s.length + 1 ≤ 24) (hg : ∀ x ∈ s, 0 ≤ x ∧ x ≤ 900) (hx : 0 ≤ x ∧ x ≤ 900) : doS 2 1 (x :: s) deqC.1 deqC.2.1 deqC.2.2 0 = some (s, x, 0) := by
  refine do_step (rest := []) at2 (good2.2 ⟨by simp; omega, fun z hz => by
    rcases List.mem_cons.1 hz with h | h
    · rw [h]; exact hx
    · exact hg z h⟩) ((act_next (does_false nm_enq_deq)).trans (act_first (does_true (by simp [takeS, deqC]) takes_none (by decide) (by decide)))) ?_ (good2.2 ⟨by omega, hg⟩)
  show takeD (fun _ => 0) (x :: s) 0 0 0 = _
  unfold takeD
  rw [if_neg (by simp)]
  simp
theorem deq_nil : doS 2 1 [] deqC.1 deqC.2.1 deqC.2.2 0 = some ([], -1, 0) :=
  do_step (rest := []) at2 (good2.2 ⟨by simp, by simp⟩) ((act_next (does_false nm_enq_deq)).trans (act_first (does_true (by simp [takeS, deqC]) takes_none (by decide) (by decide)))) rfl (good2.2 ⟨by simp, by simp⟩)
theorem pushes_go : ∀ (ws s : List Int), s.length + ws.length ≤ 24 → (∀ x ∈ s, 0 ≤ x ∧ x ≤ 900) → (∀ x ∈ ws, 0 ≤ x ∧ x ≤ 900) → Goes 1 1 (ws.map pushC) s (List.replicate ws.length 0) (s ++ ws)
  | [], s, _, _, _ => ⟨rfl, by simp⟩
  | x :: ws, s, h, hs, hw => by
    have hx := hw x (List.mem_cons_self ..)
    have ih := pushes_go ws (s ++ [x]) (by simp at h ⊢; omega) (fun z hz => by
      rcases List.mem_append.1 hz with h | h
      · exact hs z h
      · rw [List.mem_singleton.1 h]; exact hx) (fun z hz => hw z (List.mem_cons_of_mem _ hz))
    rw [List.append_assoc, List.singleton_append] at ih
    exact Goes.cons (push_step s x (by simp at h; omega) hs hx) (by simp at h ⊢; omega) ih
theorem enqs_go : ∀ (ws s : List Int), s.length + ws.length ≤ 24 → (∀ x ∈ s, 0 ≤ x ∧ x ≤ 900) → (∀ x ∈ ws, 0 ≤ x ∧ x ≤ 900) → Goes 2 1 (ws.map enqC) s (List.replicate ws.length 0) (s ++ ws)
  | [], s, _, _, _ => ⟨rfl, by simp⟩
  | x :: ws, s, h, hs, hw => by
    have hx := hw x (List.mem_cons_self ..)
    have ih := enqs_go ws (s ++ [x]) (by simp at h ⊢; omega) (fun z hz => by
      rcases List.mem_append.1 hz with h | h
      · exact hs z h
      · rw [List.mem_singleton.1 h]; exact hx) (fun z hz => hw z (List.mem_cons_of_mem _ hz))
    rw [List.append_assoc, List.singleton_append] at ih
    exact Goes.cons (enq_step s x (by simp at h; omega) hs hx) (by simp at h ⊢; omega) ih
theorem pops_go : ∀ (l : List Int), l.length ≤ 24 → (∀ x ∈ l, 0 ≤ x ∧ x ≤ 900) → Goes 1 1 (List.replicate l.length popC) l.reverse l []
  | [], _, _ => ⟨rfl, rfl⟩
  | x :: l, h, hw => by
    have hx := hw x (List.mem_cons_self ..)
    have hl := fun z hz => hw z (List.mem_cons_of_mem x hz)
    rw [List.reverse_cons]
    exact Goes.cons (pop_step l.reverse x (by simp at h ⊢; omega) (fun z hz => hl z (List.mem_reverse.1 hz)) hx) (by simp at h ⊢; omega) (pops_go l (by simp at h; omega) hl)
theorem deqs_go : ∀ (l : List Int), l.length ≤ 24 → (∀ x ∈ l, 0 ≤ x ∧ x ≤ 900) → Goes 2 1 (List.replicate l.length deqC) l l []
  | [], _, _ => ⟨rfl, rfl⟩
  | x :: l, h, hw => by
    have hx := hw x (List.mem_cons_self ..)
    have hl := fun z hz => hw z (List.mem_cons_of_mem x hz)
    exact Goes.cons (deq_step l x (by simp at h ⊢; omega) hl hx) (by simp at h ⊢; omega) (deqs_go l (by simp at h; omega) hl)
theorem stack_run (ws : List Int) (h : ws.length ≤ 11) (hw : ∀ x ∈ ws, 0 ≤ x ∧ x ≤ 900) : runS 1 1 (ws.map pushC ++ List.replicate (ws.length + 1) popC) = some (List.replicate ws.length 0 ++ (ws.reverse ++ [-1]), [], 0) := by
  refine goes_run at1 (by decide) (by simp; omega) (Goes.append (pushes_go ws [] (by simp; omega) (by simp) hw) ?_)
  rw [List.replicate_succ', List.nil_append]
  have h1 := pops_go ws.reverse (by simp; omega) (fun z hz => hw z (List.mem_reverse.1 hz))
  rw [List.reverse_reverse, List.length_reverse] at h1
  exact Goes.append h1 (Goes.one pop_nil (by simp))
theorem queue_run (ws : List Int) (h : ws.length ≤ 11) (hw : ∀ x ∈ ws, 0 ≤ x ∧ x ≤ 900) : runS 2 1 (ws.map enqC ++ List.replicate (ws.length + 1) deqC) = some (List.replicate ws.length 0 ++ (ws ++ [-1]), [], 0) := by
  refine goes_run at2 (by decide) (by simp; omega) (Goes.append (enqs_go ws [] (by simp; omega) (by simp) hw) ?_)
  rw [List.replicate_succ', List.nil_append]
  exact Goes.append (deqs_go ws (by omega) hw) (Goes.one deq_nil (by simp))
theorem awake_run : runS 2 1 [enqC 5, enqC 6, deqC] = some ([0, 0, 5], [6], 0) := by
  refine goes_run at2 (by decide) (by decide) ?_
  exact Goes.cons (enq_step [] 5 (by decide) (by simp) (by decide)) (by decide) (Goes.cons (enq_step [5] 6 (by decide) (by simp) (by decide)) (by decide) (Goes.one (deq_step [6] 5 (by decide) (by simp) (by decide)) (by decide)))
end Go.Proofs.YtiialjmpfeopjaaGreat.Sp
