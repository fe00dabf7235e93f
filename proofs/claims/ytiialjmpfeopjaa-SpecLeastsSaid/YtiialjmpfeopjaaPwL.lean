/- Lists by priority and bags go: what put, take and get tell, by the rules' deeds alone: plain lemmas; no condition. -/
import Derived.Test.YtiialjmpfeopjaaPwU
import Derived.Test.YtiialjmpfeopjaaPwG
namespace Go.Proofs.Ytiialjmpfeopjaa.Sp
open Go.RowKit Go.Sort Go.Proofs.YtiialjmpfeopjaaW.PrintWords Go.Proofs.YtiialjmpfeopjaaW.PrintLast Go.Proofs.YtiialjmpfeopjaaW.PrintMore
set_option linter.unusedVariables false
set_option linter.unusedSimpArgs false
set_option maxRecDepth 100000
theorem at5 : ruleS 5 1 = some rule5 := by
  unfold ruleS
  rw [if_neg (by omega)]
  repeat' (first | rw [if_neg (by omega)] | rw [if_pos rfl])
theorem at6 : ruleS 6 1 = some rule6 := by
  unfold ruleS
  rw [if_neg (by omega)]
  repeat' (first | rw [if_neg (by omega)] | rw [if_pos rfl])
def putB : ByteArray := ⟨#[112, 117, 116]⟩
def takeB : ByteArray := ⟨#[116, 97, 107, 101]⟩
def getB : ByteArray := ⟨#[103, 101, 116]⟩
def putX (x : Int) : CallT := (putB, x, 0)
def takeX : CallT := (takeB, 0, 0)
theorem insL_le : ∀ {s : List Int} {x : Int}, s.Pairwise (· ≤ ·) → (insL s x).Pairwise (· ≤ ·)
  | [], x, _ => by show List.Pairwise _ [x]; simp
  | a :: s, x, h => by
    have h2 := List.pairwise_cons.1 h
    by_cases ha : a < x
    · rw [insL_lt ha]
      refine List.pairwise_cons.2 ⟨fun y hy => ?_, insL_le h2.2⟩
      rcases insL_mem.1 hy with e | e
      · rw [e]; omega
      · exact h2.1 y e
    · rw [insL_ge h (by omega)]
      refine List.pairwise_cons.2 ⟨fun y hy => ?_, h⟩
      rcases List.mem_cons.1 hy with e | e
      · omega
      · have := h2.1 y e; omega
theorem insL_sum : ∀ {s : List Int} {x : Int}, s.Pairwise (· ≤ ·) → sumI (insL s x) = sumI s + x
  | [], x, _ => by show x + 0 = 0 + x; omega
  | a :: s, x, h => by
    have h2 := List.pairwise_cons.1 h
    by_cases ha : a < x
    · rw [insL_lt ha]
      show a + sumI (insL s x) = a + sumI s + x
      rw [insL_sum h2.2]; omega
    · rw [insL_ge h (by omega)]
      show x + (a + sumI s) = a + sumI s + x
      omega
theorem asc_le : ∀ {s : List Int}, s.Pairwise (· ≤ ·) → ascB s = true
  | [], _ => rfl
  | [a], _ => rfl
  | a :: b :: r, h => by
    have h2 := List.pairwise_cons.1 h
    simp only [ascB, Bool.and_eq_true, decide_eq_true_eq]
    exact ⟨h2.1 b (List.mem_cons_self ..), asc_le h2.2⟩
/-- Words in ascending order. -/
structure LeI (s : List Int) : Prop where
  asc : s.Pairwise (· ≤ ·)
  wd : ∀ x ∈ s, 0 ≤ x ∧ x ≤ 900
theorem good_le {s : List Int} (h : LeI s) (hl : s.length ≤ 24) : ascendingB 900 false s = true := by
  have h3 : wordsB 24 900 s = true := words_iff.2 ⟨by omega, h.wd⟩
  simp only [ascendingB, asc_le h.asc, h3]
  rfl
theorem LeI.ins {s : List Int} {x : Int} (h : LeI s) (hx : 0 ≤ x ∧ x ≤ 900) : LeI (insL s x) :=
  ⟨insL_le h.asc, fun y hy => (insL_mem.1 hy).elim (fun e => by rw [e]; exact hx) (fun e => h.wd y e)⟩
theorem LeI.sub {s t : List Int} (h : LeI s) (ht : t.Sublist s) : LeI t := ⟨h.asc.sublist ht, fun x hx => h.wd x (ht.subset hx)⟩
theorem put_act5 {x : Int} (hx : 0 ≤ x ∧ x ≤ 900) : actS rule5.acts putB x 0 0 = some (putS ⟨#[112, 117, 116]⟩ (fun s _ => s.Pairwise (· ≤ ·)) insL) :=
  act_first (does_true (by simp [putB, putS]) (takes_one hx.1 hx.2) (by decide) (show (0 : Int) < 4 by decide))
theorem put_act6 {x : Int} (hx : 0 ≤ x ∧ x ≤ 900) : actS rule6.acts putB x 0 0 = some (putS ⟨#[112, 117, 116]⟩ (fun s _ => s.Pairwise (· ≤ ·)) insL) :=
  act_first (does_true (by simp [putB, putS]) (takes_one hx.1 hx.2) (by decide) (show (0 : Int) < 4 by decide))
theorem nm5 : decide ((⟨#[112, 117, 116]⟩ : ByteArray).toList = takeB.toList) = false := by decide +kernel
theorem nm6 : decide ((⟨#[112, 117, 116]⟩ : ByteArray).toList = getB.toList) = false := by decide +kernel
theorem put_do5 {s : List Int} {x : Int} (h : LeI s) (hl : s.length + 1 ≤ 24) (hx : 0 ≤ x ∧ x ≤ 900) : doS 5 1 s putB x 0 0 = some (insL s x, 0, 0) :=
  do_step (rest := []) at5 (good_le h (by omega)) (put_act5 hx) rfl (good_le (h.ins hx) (by rw [insL_len]; omega))
theorem put_do6 {s : List Int} {x : Int} (h : LeI s) (hl : s.length + 1 ≤ 24) (hx : 0 ≤ x ∧ x ≤ 900) : doS 6 1 s putB x 0 0 = some (insL s x, 0, 0) :=
  do_step (rest := []) at6 (good_le h (by omega)) (put_act6 hx) rfl (good_le (h.ins hx) (by rw [insL_len]; omega))
theorem take_act5 : actS rule5.acts takeB 0 0 0 = some (takeS ⟨#[116, 97, 107, 101]⟩ (fun _ => 0)) :=
  (act_next (does_false nm5)).trans (act_first (does_true (by simp [takeB, takeS]) takes_none (by decide) (show (0 : Int) < 4 by decide)))
theorem take_do5 {a : Int} {s : List Int} (h : LeI (a :: s)) (hl : s.length + 1 ≤ 24) : doS 5 1 (a :: s) takeB 0 0 0 = some (s, a, 0) :=
  do_step (rest := []) at5 (good_le h (by simpa using hl)) take_act5 rfl (good_le (h.sub (List.sublist_cons_self a s)) (by omega))
theorem none_do5 : doS 5 1 [] takeB 0 0 0 = some ([], -1, 0) :=
  do_step (rest := []) at5 (good_le ⟨List.Pairwise.nil, fun x hx => by cases hx⟩ (by decide)) take_act5 rfl (good_le ⟨List.Pairwise.nil, fun x hx => by cases hx⟩ (by decide))
def insAll (ws s : List Int) : List Int := ws.foldl insL s
theorem insAll_len : ∀ (ws s : List Int), (insAll ws s).length = s.length + ws.length
  | [], s => rfl
  | x :: ws, s => by show (insAll ws (insL s x)).length = _; rw [insAll_len ws, insL_len, List.length_cons]; omega
theorem insAll_I : ∀ {ws s : List Int}, LeI s → (∀ x ∈ ws, 0 ≤ x ∧ x ≤ 900) → LeI (insAll ws s)
  | [], s, h, _ => h
  | x :: ws, s, h, hw => insAll_I (ws := ws) (s := insL s x) (h.ins (hw x (List.mem_cons_self ..))) (fun y hy => hw y (List.mem_cons_of_mem _ hy))
theorem insAll_sum : ∀ {ws s : List Int}, LeI s → (∀ x ∈ ws, 0 ≤ x ∧ x ≤ 900) → sumI (insAll ws s) = sumI s + sumI ws
  | [], s, h, _ => by show sumI s = sumI s + 0; omega
  | x :: ws, s, h, hw => by
    show sumI (insAll ws (insL s x)) = sumI s + (x + sumI ws)
    rw [insAll_sum (h.ins (hw x (List.mem_cons_self ..))) (fun y hy => hw y (List.mem_cons_of_mem _ hy)), insL_sum h.asc]; omega
theorem insAll_mem {y : Int} : ∀ {ws s : List Int}, y ∈ insAll ws s ↔ y ∈ s ∨ y ∈ ws
  | [], s => by show y ∈ s ↔ _; simp
  | x :: ws, s => by
    show y ∈ insAll ws (insL s x) ↔ _
    rw [insAll_mem (ws := ws), insL_mem, List.mem_cons]
    constructor
    · rintro ((h | h) | h)
      · exact .inr (.inl h)
      · exact .inl h
      · exact .inr (.inr h)
    · rintro (h | h | h)
      · exact .inl (.inr h)
      · exact .inl (.inl h)
      · exact .inr h
theorem puts_go5 : ∀ (ws s : List Int), LeI s → (∀ x ∈ ws, 0 ≤ x ∧ x ≤ 900) → s.length + ws.length ≤ 24 → Goes 5 1 (ws.map putX) s (ws.map fun _ => 0) (insAll ws s)
  | [], s, _, _, _ => ⟨rfl, rfl⟩
  | x :: ws, s, h, hw, hl => by
    rw [List.length_cons] at hl
    exact Goes.cons (put_do5 h (by omega) (hw x (List.mem_cons_self ..))) (by rw [insL_len]; omega) (puts_go5 ws _ (h.ins (hw x (List.mem_cons_self ..))) (fun y hy => hw y (List.mem_cons_of_mem _ hy)) (by rw [insL_len]; omega))
theorem puts_go6 : ∀ (ws s : List Int), LeI s → (∀ x ∈ ws, 0 ≤ x ∧ x ≤ 900) → s.length + ws.length ≤ 24 → Goes 6 1 (ws.map putX) s (ws.map fun _ => 0) (insAll ws s)
  | [], s, _, _, _ => ⟨rfl, rfl⟩
  | x :: ws, s, h, hw, hl => by
    rw [List.length_cons] at hl
    exact Goes.cons (put_do6 h (by omega) (hw x (List.mem_cons_self ..))) (by rw [insL_len]; omega) (puts_go6 ws _ (h.ins (hw x (List.mem_cons_self ..))) (fun y hy => hw y (List.mem_cons_of_mem _ hy)) (by rw [insL_len]; omega))
theorem takes_go5 : ∀ (s : List Int), LeI s → s.length ≤ 24 → Goes 5 1 (List.replicate (s.length + 1) takeX) s (s ++ [-1]) []
  | [], _, _ => Goes.one none_do5 (by simp)
  | a :: s, h, hl => by
    rw [List.length_cons] at hl
    exact Goes.cons (take_do5 h (by omega)) (by omega) (takes_go5 s (h.sub (List.sublist_cons_self a s)) (by omega))
theorem get_act6 : actS rule6.acts getB 0 0 3 = some whichA :=
  (act_next (does_false nm6)).trans (act_first (does_true (by simp [getB, whichA]) takes_none (by decide) (show (3 : Int) < 4 by decide)))
theorem first_at (s : List Int) (o : Int) (h : o ∈ s) : ∃ i, i < s.length ∧ isNew s i = true ∧ s.getD i 0 = o := by
  induction s with
  | nil => cases h
  | cons a s ih =>
    by_cases e : a = o
    · exact ⟨0, by simp, rfl, e⟩
    · have h2 : o ∈ s := (List.mem_cons.1 h).elim (fun q => absurd q.symm e) id
      obtain ⟨i, hi, hn, hv⟩ := ih h2
      refine ⟨i + 1, by simpa using hi, ?_, by simpa using hv⟩
      unfold isNew at *
      cases i with
      | zero =>
        have : s.getD 0 0 = o := hv
        simp only [Nat.add_sub_cancel, List.getD_cons_zero, List.getD_cons_succ, this]
        simp [e]
      | succ i =>
        simp only [Nat.add_sub_cancel, List.getD_cons_succ] at hn ⊢
        simpa using hn
theorem get_next6 {s : List Int} (h : LeI s) (hl : s.length ≤ 24) (o : Int) : ∃ n', nextS 6 1 s getB 0 0 3 o = some (n', (decide (o ∈ s) || (decide (s.length = 0) && decide (o = -1))), 0) := by
  have hE : effS 6 1 s getB 0 0 3 = some (whichD s 0 0 3) := eff_step at6 (good_le h hl) get_act6
  have hs8 : ∀ t : List Int, t.Sublist s → validS 6 1 t = true := fun t ht => by
    unfold validS; rw [at6]; exact good_le (h.sub ht) (by have := ht.length_le; omega)
  unfold nextS
  rw [hE]
  by_cases hz : s = []
  · subst hz
    have hD : whichD [] 0 0 3 = [(-1, [])] := rfl
    rw [hD]
    simp only
    rw [if_pos (by decide)]
    by_cases ho : o = -1
    · subst ho
      have hi : idxE (-1) [((-1 : Int), ([] : List Int))] = some 0 := rfl
      rw [hi]
      refine ⟨[], ?_⟩
      simp only
      have hv := hs8 [] (List.Sublist.refl _)
      have e0 : (([((-1 : Int), ([] : List Int))] : List Eff).getD 0 (0, [])).2 = [] := rfl
      rw [e0, if_pos (by decide), if_pos hv]
      rfl
    · have hi : idxE o [((-1 : Int), ([] : List Int))] = none := by
        unfold idxE
        rw [List.findIdx?_eq_none_iff]
        intro x hx
        rw [List.mem_singleton.1 hx]
        simpa using fun e => ho e.symm
      rw [hi]
      exact ⟨[], by simp [ho]⟩
  · have hD : whichD s 0 0 3 = whichL s s.length := by unfold whichD; rw [if_neg hz]
    have hlen := whichL_len s s.length
    rw [hD]
    simp only
    rw [if_pos (by omega)]
    have hs0 : decide (s.length = 0) = false := decide_eq_false (fun e => hz (List.length_eq_zero_iff.1 e))
    cases hi : idxE o (whichL s s.length) with
    | none =>
      have hno : o ∉ s := fun hm => by
        obtain ⟨i, hi2, hn, hv⟩ := first_at s o hm
        unfold idxE at hi
        rw [List.findIdx?_eq_none_iff] at hi
        have := hi (s.getD i 0, s.eraseIdx i) (by
          unfold whichL
          exact List.mem_map.2 ⟨i, List.mem_filter.2 ⟨List.mem_range.2 hi2, hn⟩, rfl⟩)
        rw [hv] at this
        simp at this
      refine ⟨[], ?_⟩
      simp only
      rw [decide_eq_false hno, hs0]; rfl
    | some k =>
      have hk := idxE_lt hi
      unfold idxE at hi
      rw [List.findIdx?_eq_some_iff_getElem] at hi
      obtain ⟨_, h2, _⟩ := hi
      have hd : (whichL s s.length).getD k (0, []) = (whichL s s.length)[k] := by rw [List.getD_eq_getElem?_getD, List.getElem?_eq_getElem hk]; rfl
      have hm : (whichL s s.length)[k] ∈ whichL s s.length := List.getElem_mem hk
      have ho : ((whichL s s.length)[k]).1 = o := by simpa using h2
      generalize (whichL s s.length)[k] = e at hd hm ho
      unfold whichL at hm
      obtain ⟨i, hi3, rfl⟩ := List.mem_map.1 hm
      have hi4 := List.mem_range.1 (List.mem_filter.1 hi3).1
      have hmem : o ∈ s := by
        rw [← ho]
        show s.getD i 0 ∈ s
        rw [List.getD_eq_getElem?_getD, List.getElem?_eq_getElem hi4]
        exact List.getElem_mem hi4
      simp only
      rw [hd]
      have hsub := List.eraseIdx_sublist s i
      refine ⟨s.eraseIdx i, ?_⟩
      show (if (s.eraseIdx i).length ≤ 17592186044416 then (if validS 6 1 (s.eraseIdx i) = true then _ else _) else _) = _
      rw [if_pos (by have := hsub.length_le; omega), if_pos (hs8 _ hsub), decide_eq_true hmem, hs0]; rfl
theorem leasts_run (ws : List Int) (hl : ws.length ≤ 11) (hw : ∀ x ∈ ws, 0 ≤ x ∧ x ≤ 900) (o : Int) : ∃ S : List Int, S.length = ws.length ∧ S.Pairwise (· ≤ ·) ∧ sumI S = sumI ws ∧ (∀ x ∈ S, 0 ≤ x ∧ x ≤ 900) ∧
    runS 6 1 (ws.map putX) = some (ws.map fun _ => 0, S, 0) ∧
    (∃ n', nextS 6 1 S getB 0 0 3 o = some (n', (ws.any (fun x => x == o) || (decide (ws.length = 0) && decide (o = -1))), 0)) ∧
    ∃ s', runS 5 1 (ws.map putX ++ List.replicate (ws.length + 1) takeX) = some ((ws.map fun _ => 0) ++ (S ++ [-1]), s', 0) := by
  have h0 : LeI [] := ⟨List.Pairwise.nil, fun x hx => by cases hx⟩
  have hI := insAll_I h0 hw
  have hlen : (insAll ws []).length = ws.length := by rw [insAll_len]; simp
  refine ⟨insAll ws [], hlen, hI.asc, by rw [insAll_sum h0 hw]; show 0 + _ = _; omega, hI.wd, ?_, ?_, ?_⟩
  · exact goes_run at6 (by simp [rule6]) (by simp; omega) (puts_go6 ws [] h0 hw (by simp; omega))
  · obtain ⟨n', h⟩ := get_next6 hI (by omega) o
    refine ⟨n', ?_⟩
    rw [h, hlen]
    have : decide (o ∈ insAll ws []) = ws.any (fun x => x == o) := by
      rw [Bool.eq_iff_iff, decide_eq_true_iff, insAll_mem, List.any_eq_true]
      constructor
      · rintro (h | h)
        · cases h
        · exact ⟨o, h, by simp⟩
      · rintro ⟨x, hx, e⟩
        have : x = o := by simpa using e
        exact .inr (this ▸ hx)
    rw [this]
  · refine ⟨[], goes_run at5 (by simp [rule5]) (by simp; omega) (Goes.append (puts_go5 ws [] h0 hw (by simp; omega)) ?_)⟩
    have := takes_go5 (insAll ws []) hI (by omega)
    rw [hlen] at this
    exact this
end Go.Proofs.Ytiialjmpfeopjaa.Sp
