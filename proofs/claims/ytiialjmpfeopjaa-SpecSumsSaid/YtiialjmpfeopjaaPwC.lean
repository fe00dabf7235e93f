/- Counters and tallies go: what adds and gets tell, by the rules' deeds alone: plain lemmas; no condition. -/
import Derived.Test.YtiialjmpfeopjaaPwB
namespace Go.Proofs.Ytiialjmpfeopjaa.Sp
open Go.RowKit Go.Sort Go.Proofs.YtiialjmpfeopjaaW.PrintWords Go.Proofs.YtiialjmpfeopjaaW.PrintLast Go.Proofs.YtiialjmpfeopjaaW.PrintMore
set_option linter.unusedVariables false
set_option linter.unusedSimpArgs false
set_option maxRecDepth 100000
def addC (x : Int) : CallT := (⟨#[97, 100, 100]⟩, x, 0)
def getC : CallT := (⟨#[103, 101, 116]⟩, 0, 0)
theorem at14 : ruleS 14 1 = some rule14 := by
  unfold ruleS
  rw [if_neg (by omega)]
  repeat' (first | rw [if_neg (by omega)] | rw [if_pos rfl])
theorem at16 : ruleS 16 1 = some rule16 := by
  unfold ruleS
  rw [if_neg (by omega)]
  repeat' (first | rw [if_neg (by omega)] | rw [if_pos rfl])
theorem nm_add_get : decide ((⟨#[97, 100, 100]⟩ : ByteArray).toList = (⟨#[103, 101, 116]⟩ : ByteArray).toList) = false := by decide +kernel
theorem good14 {c : Int} (h0 : 0 ≤ c) (h1 : c ≤ 1000000) : rule14.good [c] = true := by
  show exactlyB 1 0 1000000 [c] = true
  simp [exactlyB, inB, h0, h1]
theorem good16 {c : Int} (h0 : -1000000 ≤ c) (h1 : c ≤ 1000000) : rule16.good [c] = true := by
  show exactlyB 1 (-1000000) 1000000 [c] = true
  simp [exactlyB, inB, h0, h1]
theorem add14 (c x : Int) (h0 : 0 ≤ c) (hx0 : 1 ≤ x) (hx1 : x ≤ 99) (h1 : c + x ≤ 1000000) : doS 14 1 [c] (addC x).1 (addC x).2.1 (addC x).2.2 0 = some ([c + x], 0, 0) :=
  do_step (rest := []) at14 (good14 h0 (by omega)) (act_first (does_true (by simp [growS, addC]) (takes_one hx0 hx1) (by decide) (by decide))) rfl (good14 (by omega) h1)
theorem add16 (c x : Int) (h0 : -900000 ≤ c) (hx0 : -900 ≤ x) (hx1 : x ≤ 900) (h1 : c ≤ 900000) : doS 16 1 [c] (addC x).1 (addC x).2.1 (addC x).2.2 0 = some ([c + x], c, 0) :=
  do_step (rest := []) at16 (good16 (by omega) (by omega)) (act_first (does_true (by simp [growS, addC]) (takes_one hx0 hx1) (by decide) (by decide))) rfl (good16 (by omega) (by omega))
theorem get14 (c : Int) (h0 : 0 ≤ c) (h1 : c ≤ 1000000) : doS 14 1 [c] getC.1 getC.2.1 getC.2.2 0 = some ([c], c, 0) :=
  do_step (rest := []) at14 (good14 h0 h1) ((act_next (does_false nm_add_get)).trans (act_first (does_true (by simp [tellS, getC]) takes_none (by decide) (by decide)))) rfl (good14 h0 h1)
theorem get16 (c : Int) (h0 : -1000000 ≤ c) (h1 : c ≤ 1000000) : doS 16 1 [c] getC.1 getC.2.1 getC.2.2 0 = some ([c], c, 0) :=
  do_step (rest := []) at16 (good16 h0 h1) ((act_next (does_false nm_add_get)).trans (act_first (does_true (by simp [tellS, getC]) takes_none (by decide) (by decide)))) rfl (good16 h0 h1)
theorem adds14 : ∀ (l : List Int) (c : Int), 0 ≤ c → c + 99 * l.length ≤ 1000000 → (∀ x ∈ l, 1 ≤ x ∧ x ≤ 99) → Goes 14 1 (l.map addC) [c] (List.replicate l.length 0) [c + l.sum]
  | [], c, _, _, _ => ⟨rfl, by simp⟩
  | x :: l, c, h0, h1, hw => by
    have hx := hw x (List.mem_cons_self ..)
    rw [List.length_cons] at h1
    have ih := adds14 l (c + x) (by omega) (by push_cast at h1; omega) (fun z hz => hw z (List.mem_cons_of_mem _ hz))
    rw [List.sum_cons, ← Int.add_assoc]
    exact Goes.cons (add14 c x h0 hx.1 hx.2 (by push_cast at h1; omega)) (by simp) ih
def psums : Int → List Int → List Int
  | _, [] => []
  | c, b :: l => c :: psums (c + b) l
theorem psums_len : ∀ (l : List Int) (c : Int), (psums c l).length = l.length
  | [], _ => rfl
  | b :: l, c => by simp [psums, psums_len l]
theorem psums_snoc : ∀ (l : List Int) (c x : Int), psums c (l ++ [x]) = psums c l ++ [c + l.sum]
  | [], c, x => by simp [psums]
  | b :: l, c, x => by simp [psums, psums_snoc l, Int.add_assoc]
theorem adds16 : ∀ (l : List Int) (c : Int), -900000 ≤ c - 900 * l.length → c + 900 * l.length ≤ 900000 → (∀ x ∈ l, -900 ≤ x ∧ x ≤ 900) → Goes 16 1 (l.map addC) [c] (psums c l) [c + l.sum]
  | [], c, _, _, _ => ⟨rfl, by simp⟩
  | x :: l, c, h0, h1, hw => by
    have hx := hw x (List.mem_cons_self ..)
    rw [List.length_cons] at h0 h1
    push_cast at h0 h1
    have ih := adds16 l (c + x) (by omega) (by omega) (fun z hz => hw z (List.mem_cons_of_mem _ hz))
    rw [List.sum_cons, ← Int.add_assoc]
    exact Goes.cons (add16 c x (by omega) hx.1 hx.2 (by omega)) (by simp) ih
theorem sum14 : ∀ (l : List Int), (∀ x ∈ l, 1 ≤ x ∧ x ≤ 99) → 0 ≤ l.sum ∧ l.sum ≤ 99 * l.length
  | [], _ => by simp
  | x :: l, hw => by
    have hx := hw x (List.mem_cons_self ..)
    have ih := sum14 l (fun z hz => hw z (List.mem_cons_of_mem _ hz))
    rw [List.sum_cons, List.length_cons]; push_cast; omega
theorem sum16 : ∀ (l : List Int), (∀ x ∈ l, -900 ≤ x ∧ x ≤ 900) → -(900 * (l.length : Int)) ≤ l.sum ∧ l.sum ≤ 900 * l.length
  | [], _ => by simp
  | x :: l, hw => by
    have hx := hw x (List.mem_cons_self ..)
    have ih := sum16 l (fun z hz => hw z (List.mem_cons_of_mem _ hz))
    rw [List.sum_cons, List.length_cons]; push_cast; omega
theorem counter_run (l : List Int) (h : l.length ≤ 20) (hw : ∀ x ∈ l, 1 ≤ x ∧ x ≤ 99) : runS 14 1 (l.map addC ++ [getC]) = some (List.replicate l.length 0 ++ [l.sum], [l.sum], 0) := by
  have hs := sum14 l hw
  refine goes_run at14 (by decide) (by simp; omega) (Goes.append (adds14 l 0 (by omega) (by omega) hw) ?_)
  rw [Int.zero_add]
  exact Goes.one (get14 _ hs.1 (by omega)) (by simp)
theorem tally_run (l : List Int) (h : l.length ≤ 20) (hw : ∀ x ∈ l, -900 ≤ x ∧ x ≤ 900) : runS 16 1 (l.map addC ++ [getC]) = some (psums 0 l ++ [l.sum], [l.sum], 0) := by
  have hs := sum16 l hw
  refine goes_run at16 (by decide) (by simp; omega) (Goes.append (adds16 l 0 (by omega) (by omega) hw) ?_)
  rw [Int.zero_add]
  exact Goes.one (get16 _ (by omega) (by omega)) (by simp)
end Go.Proofs.Ytiialjmpfeopjaa.Sp
