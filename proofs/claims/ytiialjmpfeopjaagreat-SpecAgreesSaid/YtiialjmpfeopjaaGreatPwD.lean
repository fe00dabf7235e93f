/- Rings go: what enqs and deqs tell, by the rules' deeds alone: plain lemmas; no condition. -/
import Derived.Test.YtiialjmpfeopjaaGreatPwB
import Derived.Laws.BitsLemmas
namespace Go.Proofs.YtiialjmpfeopjaaGreat.Sp
open Go.RowKit Go.Sort Go.Proofs.YtiialjmpfeopjaaGreatW.PrintWords Go.Proofs.YtiialjmpfeopjaaGreatW.PrintLast Go.Proofs.YtiialjmpfeopjaaGreatW.PrintMore
set_option linter.unusedVariables false
set_option linter.unusedSimpArgs false
set_option maxRecDepth 100000
theorem i64_low (n : Int) (j : Nat) (hj : j ≤ 8) : bits .and .i64 n (2 ^ j - 1) = n % 2 ^ j := by
  have hp : (2 : Int) ^ j ≤ 256 ∧ 0 < (2 : Int) ^ j := by
    have : j = 0 ∨ j = 1 ∨ j = 2 ∨ j = 3 ∨ j = 4 ∨ j = 5 ∨ j = 6 ∨ j = 7 ∨ j = 8 := by omega
    rcases this with h | h | h | h | h | h | h | h | h <;> subst h <;> decide
  have hm : (BitVec.ofInt 64 ((2 : Int) ^ j - 1)).toNat = 2 ^ j - 1 := by
    have : j = 0 ∨ j = 1 ∨ j = 2 ∨ j = 3 ∨ j = 4 ∨ j = 5 ∨ j = 6 ∨ j = 7 ∨ j = 8 := by omega
    rcases this with h | h | h | h | h | h | h | h | h <;> subst h <;> decide
  have ht : (BitVec.ofInt 64 n &&& BitVec.ofInt 64 ((2 : Int) ^ j - 1)).toNat = (n % 18446744073709551616).toNat % 2 ^ j := by
    rw [BitVec.toNat_and, hm, Nat.and_two_pow_sub_one_eq_mod, BitVec.toNat_ofInt]; rfl
  show IntKind.i64.wrap (((BitVec.ofInt 64 n &&& BitVec.ofInt 64 ((2 : Int) ^ j - 1)).toNat : Nat) : Int) = n % 2 ^ j
  rw [ht]
  have : j = 0 ∨ j = 1 ∨ j = 2 ∨ j = 3 ∨ j = 4 ∨ j = 5 ∨ j = 6 ∨ j = 7 ∨ j = 8 := by omega
  rcases this with h | h | h | h | h | h | h | h | h <;> subst h <;> (rw [IntKind.wrap_i64]; omega)
theorem i64_and7 (n : Int) : bits .and .i64 n 7 = n % 8 := i64_low n 3 (by decide)
theorem i64_and1 (n : Int) : bits .and .i64 n 1 = n % 2 := i64_low n 1 (by decide)
theorem at3 {n : Int} (h1 : 1 ≤ n) (h2 : n ≤ 8) : ruleS 3 n = some (rule3 n) := by
  unfold ruleS
  rw [if_neg (by omega), if_neg (by omega), if_neg (by omega), if_pos rfl]
theorem good3 {n : Int} {s : List Int} : (rule3 n).good s = true ↔ (s.length : Int) ≤ n ∧ ∀ x ∈ s, 0 ≤ x ∧ x ≤ 900 := words_iff
theorem enq3 {n : Int} (h1 : 1 ≤ n) (h2 : n ≤ 8) (s : List Int) (x : Int) (hs : (s.length : Int) + 1 ≤ n) (hg : ∀ x ∈ s, 0 ≤ x ∧ x ≤ 900) (hx : 0 ≤ x ∧ x ≤ 900) : doS 3 n s (enqC x).1 (enqC x).2.1 (enqC x).2.2 0 = some (s ++ [x], 0, 0) := by
  refine do_step (rest := []) (at3 h1 h2) (good3.2 ⟨by omega, hg⟩) (act_first (does_true (by simp [limS, enqC]) (takes_one hx.1 hx.2) (by decide) (show (0 : Int) < 4 by decide))) ?_ (good3.2 ⟨by simp; omega, fun z hz => by
    rcases List.mem_append.1 hz with h | h
    · exact hg z h
    · rw [List.mem_singleton.1 h]; exact hx⟩)
  show limD n (putD fun s x => s ++ [x]) s x 0 0 = _
  unfold limD
  rw [if_neg (by omega)]
  rfl
theorem full3 {n : Int} (h1 : 1 ≤ n) (h2 : n ≤ 8) (s : List Int) (x : Int) (hs : (s.length : Int) = n) (hg : ∀ x ∈ s, 0 ≤ x ∧ x ≤ 900) (hx : 0 ≤ x ∧ x ≤ 900) : doS 3 n s (enqC x).1 (enqC x).2.1 (enqC x).2.2 0 = some (s, -2, 0) := by
  refine do_step (rest := []) (at3 h1 h2) (good3.2 ⟨by omega, hg⟩) (act_first (does_true (by simp [limS, enqC]) (takes_one hx.1 hx.2) (by decide) (show (0 : Int) < 4 by decide))) ?_ (good3.2 ⟨by omega, hg⟩)
  show limD n (putD fun s x => s ++ [x]) s x 0 0 = _
  unfold limD
  rw [if_pos hs]
theorem nm_enq_deq3 : decide ((⟨#[101, 110, 113]⟩ : ByteArray).toList = (⟨#[100, 101, 113]⟩ : ByteArray).toList) = false := nm_enq_deq
theorem deq3 {n : Int} (h1 : 1 ≤ n) (h2 : n ≤ 8) (s : List Int) (x : Int) (hs : (s.length : Int) + 1 ≤ n) (hg : ∀ x ∈ s, 0 ≤ x ∧ x ≤ 900) (hx : 0 ≤ x ∧ x ≤ 900) : doS 3 n (x :: s) deqC.1 deqC.2.1 deqC.2.2 0 = some (s, x, 0) := by
  refine do_step (rest := []) (at3 h1 h2) (good3.2 ⟨by simp; omega, fun z hz => by
    rcases List.mem_cons.1 hz with h | h
    · rw [h]; exact hx
    · exact hg z h⟩) ((act_next (does_false nm_enq_deq3)).trans (act_first (does_true (by simp [takeS, deqC]) takes_none (by decide) (by decide)))) ?_ (good3.2 ⟨by omega, hg⟩)
  show takeD (fun _ => 0) (x :: s) 0 0 0 = _
  unfold takeD
  rw [if_neg (by simp)]
  simp
theorem fill3 {n : Int} (h1 : 1 ≤ n) (h2 : n ≤ 8) : ∀ (ws s : List Int), (s.length : Int) + ws.length ≤ n → (∀ x ∈ s, 0 ≤ x ∧ x ≤ 900) → (∀ x ∈ ws, 0 ≤ x ∧ x ≤ 900) → Goes 3 n (ws.map enqC) s (List.replicate ws.length 0) (s ++ ws)
  | [], s, _, _, _ => ⟨rfl, by simp⟩
  | x :: ws, s, h, hs, hw => by
    have hx := hw x (List.mem_cons_self ..)
    have ih := fill3 h1 h2 ws (s ++ [x]) (by simp at h ⊢; omega) (fun z hz => by
      rcases List.mem_append.1 hz with h | h
      · exact hs z h
      · rw [List.mem_singleton.1 h]; exact hx) (fun z hz => hw z (List.mem_cons_of_mem _ hz))
    rw [List.append_assoc, List.singleton_append] at ih
    exact Goes.cons (enq3 h1 h2 s x (by simp at h; omega) hs hx) (by simp at h ⊢; omega) ih
theorem over3 {n : Int} (h1 : 1 ≤ n) (h2 : n ≤ 8) (s : List Int) (hn : (s.length : Int) = n) (hs : ∀ x ∈ s, 0 ≤ x ∧ x ≤ 900) : ∀ (ws : List Int), (∀ x ∈ ws, 0 ≤ x ∧ x ≤ 900) → Goes 3 n (ws.map enqC) s (List.replicate ws.length (-2)) s
  | [], _ => ⟨rfl, rfl⟩
  | x :: ws, hw => Goes.cons (full3 h1 h2 s x hn hs (hw x (List.mem_cons_self ..))) (by omega) (over3 h1 h2 s hn hs ws (fun z hz => hw z (List.mem_cons_of_mem _ hz)))
theorem ring_run {n : Int} (h1 : 1 ≤ n) (h2 : n ≤ 8) (w : Int) (ws vs : List Int) (hn : (ws.length : Int) + 1 = n) (hv : vs.length ≤ 7) (hx : 0 ≤ w ∧ w ≤ 900) (hw : ∀ x ∈ ws, 0 ≤ x ∧ x ≤ 900) (hvv : ∀ x ∈ vs, 0 ≤ x ∧ x ≤ 900) :
    runS 3 n ((w :: ws).map enqC ++ vs.map enqC ++ [deqC, enqC w, enqC w]) = some (List.replicate (ws.length + 1) 0 ++ List.replicate vs.length (-2) ++ [w, 0, -2], ws ++ [w], 0) := by
  have hall : ∀ x ∈ w :: ws, 0 ≤ x ∧ x ≤ 900 := fun x h => by
    rcases List.mem_cons.1 h with h | h
    · rw [h]; exact hx
    · exact hw x h
  have hall2 : ∀ x ∈ ws ++ [w], 0 ≤ x ∧ x ≤ 900 := fun x h => by
    rcases List.mem_append.1 h with h | h
    · exact hw x h
    · rw [List.mem_singleton.1 h]; exact hx
  refine goes_run (at3 h1 h2) (by simp [rule3]) (by simp; omega) (Goes.append (Goes.append (fill3 h1 h2 (w :: ws) [] (by simp; omega) (by simp) hall) (over3 h1 h2 _ (by simp; omega) hall vs hvv)) ?_)
  exact Goes.cons (deq3 h1 h2 ws w (by omega) hw hx) (by omega) (Goes.cons (enq3 h1 h2 ws w (by omega) hw hx) (by simp; omega) (Goes.one (full3 h1 h2 (ws ++ [w]) w (by simp; omega) hall2 hx) (by simp; omega)))
end Go.Proofs.YtiialjmpfeopjaaGreat.Sp
