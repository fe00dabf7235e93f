/- Sets go: what add, rem, has and all tell, by the rules' deeds alone: plain lemmas; no condition. -/
import Derived.Test.YtiialjmpfeopjaaPwG
namespace Go.Proofs.Ytiialjmpfeopjaa.Sp
open Go.RowKit Go.Sort Go.Proofs.YtiialjmpfeopjaaW.PrintWords Go.Proofs.YtiialjmpfeopjaaW.PrintLast Go.Proofs.YtiialjmpfeopjaaW.PrintMore
set_option linter.unusedVariables false
set_option linter.unusedSimpArgs false
set_option maxRecDepth 100000
theorem at7 : ruleS 7 1 = some rule7 := by
  unfold ruleS
  rw [if_neg (by omega)]
  repeat' (first | rw [if_neg (by omega)] | rw [if_pos rfl])
theorem at8 : ruleS 8 1 = some rule8 := by
  unfold ruleS
  rw [if_neg (by omega)]
  repeat' (first | rw [if_neg (by omega)] | rw [if_pos rfl])
/-- A list is a set: of which numbers. -/
structure SetI (s : List Int) (here : Nat → Bool) : Prop where
  srt : SortedLt s
  mem : ∀ x : Int, x ∈ s ↔ ∃ k : Nat, k < 16 ∧ x = k ∧ here k = true
theorem SetI.rng {s : List Int} {here : Nat → Bool} (h : SetI s here) : ∀ x ∈ s, 0 ≤ x ∧ x ≤ 15 := fun x hx => by
  obtain ⟨k, hk, rfl, _⟩ := (h.mem x).1 hx
  omega
theorem sorted_len : ∀ {s : List Int} {lo hi : Int}, SortedLt s → (∀ x ∈ s, lo ≤ x ∧ x ≤ hi) → lo ≤ hi + 1 → (s.length : Int) ≤ hi - lo + 1
  | [], lo, hi, _, _, h => by simp; omega
  | a :: r, lo, hi, hs, hb, h => by
    have h2 := List.pairwise_cons.1 hs
    have ha := hb a (List.mem_cons_self ..)
    have := sorted_len (lo := a + 1) (hi := hi) h2.2 (fun x hx => ⟨by have := h2.1 x hx; omega, (hb x (List.mem_cons_of_mem _ hx)).2⟩) (by omega)
    simp only [List.length_cons]
    omega
theorem SetI.len {s : List Int} {here : Nat → Bool} (h : SetI s here) : s.length ≤ 16 := by
  have := sorted_len h.srt h.rng (by omega)
  omega
theorem set_good {s : List Int} {here : Nat → Bool} (h : SetI s here) : rule7.good s = true ∧ rule8.good s = true := by
  have ha := asc_of h.srt
  have hl := h.len
  have hw : ∀ hi : Int, 15 ≤ hi → wordsB 24 hi s = true := fun hi hh => by
    rw [words_iff]
    exact ⟨by omega, fun x hx => ⟨(h.rng x hx).1, by have := (h.rng x hx).2; omega⟩⟩
  constructor
  · show ((!true || diffB s) && (wordsB 24 900 s && ascB s)) = true
    rw [ha.1, ha.2, hw 900 (by omega)]; rfl
  · show ((!true || diffB s) && (wordsB 24 15 s && ascB s)) = true
    rw [ha.1, ha.2, hw 15 (by omega)]; rfl
theorem erase_filter : ∀ {s : List Int} {x : Int}, SortedLt s → x ∈ s → s.eraseIdx (s.countP (· < x)) = s.filter (· != x)
  | [], x, _, h => by cases h
  | a :: r, x, hs, hx => by
    have h2 := List.pairwise_cons.1 hs
    by_cases ha : a < x
    · rw [List.countP_cons_of_pos (by simpa using ha), List.eraseIdx_cons_succ, List.filter_cons_of_pos (by simp; omega)]
      rcases List.mem_cons.1 hx with e | e
      · omega
      · rw [erase_filter h2.2 e]
    · have e : a = x := by
        rcases List.mem_cons.1 hx with e | e
        · exact e.symm
        · have := h2.1 x e; omega
      subst e
      have hc : (a :: r).countP (· < a) = 0 := by
        rw [List.countP_eq_zero]
        intro y hy
        rcases List.mem_cons.1 hy with e | hy
        · subst e; simp
        · have := h2.1 y hy; simp; omega
      rw [hc, List.eraseIdx_cons_zero, List.filter_cons_of_neg (by simp)]
      exact (List.filter_eq_self.2 (fun y hy => by have := h2.1 y hy; simp; omega)).symm
def upd (here : Nat → Bool) (k : Nat) (b : Bool) : Nat → Bool := fun j => if j = k then b else here j
theorem has_here {s : List Int} {here : Nat → Bool} (h : SetI s here) (k : Nat) (hk : k < 16) : s.contains (k : Int) = here k := by
  cases hq : here k with
  | true => exact List.contains_iff_mem.2 ((h.mem _).2 ⟨k, hk, rfl, hq⟩)
  | false =>
    rw [Bool.eq_false_iff]
    intro hc
    obtain ⟨j, hj, e, hh⟩ := (h.mem _).1 (List.contains_iff_mem.1 hc)
    have : j = k := by omega
    subst this
    rw [hq] at hh; cases hh
theorem set_add {s : List Int} {here : Nat → Bool} (h : SetI s here) (k : Nat) (hk : k < 16) (hn : here k = false) : SetI (insL s k) (upd here k true) := by
  have hc := has_here h k hk
  rw [hn] at hc
  have hnm : (k : Int) ∉ s := fun e => by rw [List.contains_iff_mem.2 e] at hc; cases hc
  refine ⟨insL_sorted h.srt hnm, fun x => ?_⟩
  rw [insL_mem, h.mem]
  unfold upd
  constructor
  · rintro (rfl | ⟨j, hj, rfl, hh⟩)
    · exact ⟨k, hk, rfl, by simp⟩
    · exact ⟨j, hj, rfl, by split <;> simp_all⟩
  · rintro ⟨j, hj, rfl, hh⟩
    by_cases e : j = k
    · subst e; exact .inl rfl
    · rw [if_neg e] at hh; exact .inr ⟨j, hj, rfl, hh⟩
theorem set_same {s : List Int} {here : Nat → Bool} (h : SetI s here) (k : Nat) (b : Bool) (hn : here k = b) : SetI s (upd here k b) := by
  refine ⟨h.srt, fun x => ?_⟩
  rw [h.mem]
  unfold upd
  constructor
  · rintro ⟨j, hj, rfl, hh⟩
    refine ⟨j, hj, rfl, ?_⟩
    split
    · rename_i e; subst e; rw [← hn, hh]
    · exact hh
  · rintro ⟨j, hj, rfl, hh⟩
    refine ⟨j, hj, rfl, ?_⟩
    split at hh
    · rename_i e; subst e; rw [hn, hh]
    · exact hh
theorem set_rem {s : List Int} {here : Nat → Bool} (h : SetI s here) (k : Nat) (hk : k < 16) (hn : here k = true) : SetI (s.eraseIdx (s.countP (· < (k : Int)))) (upd here k false) := by
  have hm : (k : Int) ∈ s := (h.mem _).2 ⟨k, hk, rfl, hn⟩
  rw [erase_filter h.srt hm]
  refine ⟨List.Pairwise.filter _ h.srt, fun x => ?_⟩
  rw [List.mem_filter, h.mem]
  unfold upd
  constructor
  · rintro ⟨⟨j, hj, rfl, hh⟩, hne⟩
    refine ⟨j, hj, rfl, ?_⟩
    rw [if_neg (fun e => by subst e; simp at hne)]
    exact hh
  · rintro ⟨j, hj, rfl, hh⟩
    by_cases e : j = k
    · rw [if_pos e] at hh; cases hh
    · rw [if_neg e] at hh
      exact ⟨⟨j, hj, rfl, hh⟩, by simp; omega⟩
def addB : ByteArray := ⟨#[97, 100, 100]⟩
def remB : ByteArray := ⟨#[114, 101, 109]⟩
def hasB : ByteArray := ⟨#[104, 97, 115]⟩
/-- What an act (0: add, 1: rem, others: has) tells, and leaves. -/
def setRes (p : Int) (here : Nat → Bool) (k : Nat) : Int := if p = 0 then (if here k = true then 0 else 1) else if here k = true then 1 else 0
def setNext (p : Int) (here : Nat → Bool) (k : Nat) : Nat → Bool := if p = 0 then upd here k true else if p = 1 then upd here k false else here
def setOp (p : Int) : ByteArray := if p = 0 then addB else if p = 1 then remB else hasB
theorem nm_sets : decide (addB.toList = remB.toList) = false ∧ decide (addB.toList = hasB.toList) = false ∧ decide (remB.toList = hasB.toList) = false := by decide +kernel
theorem set_act (hi : Int) (hh : 15 ≤ hi) (rest : List ActS) (p : Int) (k : Nat) (hk : k < 16) : ∃ a, actS (setActs hi ++ rest) (setOp p) k 0 0 = some a ∧ a.D = setD (if p = 0 then addF else if p = 1 then remF else hasF) := by
  unfold setOp
  by_cases h0 : p = 0
  · rw [if_pos h0, if_pos h0]
    exact ⟨_, act_first (does_true (by simp [addB]) (takes_one (by omega) (by omega)) (by decide) (show (0 : Int) < 4 by decide)), rfl⟩
  · rw [if_neg h0, if_neg h0]
    by_cases h1 : p = 1
    · rw [if_pos h1, if_pos h1]
      exact ⟨_, (act_next (does_false nm_sets.1)).trans (act_first (does_true (by simp [remB]) (takes_one (by omega) (by omega)) (by decide) (show (0 : Int) < 4 by decide))), rfl⟩
    · rw [if_neg h1, if_neg h1]
      exact ⟨_, (act_next (does_false nm_sets.2.1)).trans ((act_next (does_false nm_sets.2.2)).trans (act_first (does_true (by simp [hasB]) (takes_one (by omega) (by omega)) (by decide) (show (0 : Int) < 4 by decide)))), rfl⟩
theorem set_D {s : List Int} {here : Nat → Bool} (h : SetI s here) (p : Int) (k : Nat) (hk : k < 16) : ∃ s', setD (if p = 0 then addF else if p = 1 then remF else hasF) s k 0 0 = [(setRes p here k, s')] ∧ SetI s' (setNext p here k) := by
  unfold setD setRes setNext
  rw [has_here h k hk]
  by_cases h0 : p = 0
  · rw [if_pos h0, if_pos h0, if_pos h0]
    unfold addF
    cases hq : here k with
    | true => exact ⟨s, rfl, set_same h k true hq⟩
    | false => exact ⟨insL s k, rfl, set_add h k hk hq⟩
  · rw [if_neg h0, if_neg h0, if_neg h0]
    by_cases h1 : p = 1
    · rw [if_pos h1, if_pos h1]
      unfold remF
      cases hq : here k with
      | true => exact ⟨_, rfl, set_rem h k hk hq⟩
      | false => exact ⟨s, rfl, set_same h k false hq⟩
    · rw [if_neg h1, if_neg h1]
      unfold hasF
      cases hq : here k with
      | true => exact ⟨s, rfl, h⟩
      | false => exact ⟨s, rfl, h⟩
theorem set_step {s : List Int} {here : Nat → Bool} (h : SetI s here) (p : Int) (k : Nat) (hk : k < 16) : ∃ s', SetI s' (setNext p here k) ∧ doS 7 1 s (setOp p) k 0 0 = some (s', setRes p here k, 0) ∧ doS 8 1 s (setOp p) k 0 0 = some (s', setRes p here k, 0) := by
  obtain ⟨s', hD, hI⟩ := set_D h p k hk
  obtain ⟨a7, ha7, e7⟩ := set_act 900 (by omega) [] p k hk
  obtain ⟨a8, ha8, e8⟩ := set_act 15 (by omega) [allA] p k hk
  rw [List.append_nil] at ha7
  exact ⟨s', hI, do_step (rest := []) at7 (set_good h).1 ha7 (by rw [e7]; exact hD) (set_good hI).1, do_step (rest := []) at8 (set_good h).2 ha8 (by rw [e8]; exact hD) (set_good hI).2⟩
/-- What a list of acts tells, and which numbers are there then. -/
def setRun : List (Int × Nat) → (Nat → Bool) → List Int × (Nat → Bool)
  | [], here => ([], here)
  | q :: l, here => (setRes q.1 here q.2 :: (setRun l (setNext q.1 here q.2)).1, (setRun l (setNext q.1 here q.2)).2)
def setC (q : Int × Nat) : CallT := (setOp q.1, (q.2 : Int), 0)
theorem sets_go : ∀ (l : List (Int × Nat)) (s : List Int) (here : Nat → Bool), (∀ q ∈ l, q.2 < 16) → SetI s here → ∃ s', SetI s' (setRun l here).2 ∧ Goes 7 1 (l.map setC) s (setRun l here).1 s' ∧ Goes 8 1 (l.map setC) s (setRun l here).1 s'
  | [], s, here, _, h => ⟨s, h, ⟨rfl, rfl⟩, ⟨rfl, rfl⟩⟩
  | q :: l, s, here, hq, h => by
    obtain ⟨s1, h1, d7, d8⟩ := set_step h q.1 q.2 (hq q (List.mem_cons_self ..))
    obtain ⟨s', h', g7, g8⟩ := sets_go l s1 _ (fun z hz => hq z (List.mem_cons_of_mem _ hz)) h1
    have := h1.len
    exact ⟨s', h', Goes.cons d7 (by omega) g7, Goes.cons d8 (by omega) g8⟩
theorem set_nil : SetI [] (fun _ => false) := ⟨List.Pairwise.nil, fun x => by simp⟩
theorem sorted_ext : ∀ {s t : List Int}, SortedLt s → SortedLt t → (∀ x, x ∈ s ↔ x ∈ t) → s = t
  | [], [], _, _, _ => rfl
  | [], b :: t, _, _, h => absurd ((h b).2 (List.mem_cons_self ..)) (by simp)
  | a :: s, [], _, _, h => absurd ((h a).1 (List.mem_cons_self ..)) (by simp)
  | a :: s, b :: t, hs, ht, h => by
    have s2 := List.pairwise_cons.1 hs
    have t2 := List.pairwise_cons.1 ht
    have e : a = b := by
      have h1 := (h a).1 (List.mem_cons_self ..)
      have h2 := (h b).2 (List.mem_cons_self ..)
      rcases List.mem_cons.1 h1 with e | e
      · exact e
      · rcases List.mem_cons.1 h2 with e2 | e2
        · exact e2.symm
        · have := s2.1 b e2
          have := t2.1 a e
          omega
    subst e
    rw [sorted_ext s2.2 t2.2 (fun x => ?_)]
    constructor
    · intro hx
      have := s2.1 x hx
      rcases List.mem_cons.1 ((h x).1 (List.mem_cons_of_mem _ hx)) with e | e
      · omega
      · exact e
    · intro hx
      have := t2.1 x hx
      rcases List.mem_cons.1 ((h x).2 (List.mem_cons_of_mem _ hx)) with e | e
      · omega
      · exact e
def hereL (here : Nat → Bool) (n : Nat) : List Int := ((List.range n).filter here).map fun (k : Nat) => (k : Int)
theorem hereL_succ (here : Nat → Bool) (n : Nat) : hereL here (n + 1) = hereL here n ++ (if here n = true then [(n : Int)] else []) := by
  unfold hereL
  rw [List.range_succ, List.filter_append, List.map_append]
  congr 1
  cases h : here n <;> simp [h]
theorem hereL_mem (here : Nat → Bool) (n : Nat) (x : Int) : x ∈ hereL here n ↔ ∃ k : Nat, k < n ∧ x = k ∧ here k = true := by
  unfold hereL
  rw [List.mem_map]
  constructor
  · rintro ⟨k, hk, rfl⟩
    rw [List.mem_filter, List.mem_range] at hk
    exact ⟨k, hk.1, rfl, hk.2⟩
  · rintro ⟨k, hk, rfl, hh⟩
    exact ⟨k, List.mem_filter.2 ⟨List.mem_range.2 hk, hh⟩, rfl⟩
theorem hereL_sorted (here : Nat → Bool) : ∀ n, SortedLt (hereL here n)
  | 0 => List.Pairwise.nil
  | n + 1 => by
    rw [hereL_succ]
    refine List.pairwise_append.2 ⟨hereL_sorted here n, by split <;> simp, fun x hx y hy => ?_⟩
    obtain ⟨k, hk, rfl, _⟩ := (hereL_mem here n x).1 hx
    split at hy
    · rw [List.mem_singleton.1 hy]; omega
    · cases hy
def bitI (here : Nat → Bool) (k : Nat) : Int := if here k = true then 1 else 0
theorem pow_hereL (here : Nat → Bool) (n : Nat) : powS (hereL here (n + 1)) = powS (hereL here n) + bitI here n * 2 ^ n := by
  rw [hereL_succ]
  unfold bitI
  split
  · rw [powS_snoc, Int.toNat_natCast, Int.one_mul]
  · rw [List.append_nil, Int.zero_mul, Int.add_zero]
/-- The law's sum, from the greatest number down. -/
def hor (here : Nat → Bool) : Nat → Int
  | 0 => 0
  | m + 1 => 2 * hor here m + bitI here (15 - m)
theorem hor_pow (here : Nat → Bool) : powS (hereL here 16) = hor here 16 := by
  have h0 : powS (hereL here 0) = 0 := rfl
  simp only [pow_hereL, h0, hor]
  simp only [Nat.reducePow, Int.reducePow, Nat.reduceSub]
  omega
theorem set_pow {s : List Int} {here : Nat → Bool} (h : SetI s here) : powS s = hor here 16 := by
  rw [← hor_pow, sorted_ext h.srt (hereL_sorted here 16) (fun x => by rw [h.mem, hereL_mem])]
def allB : ByteArray := ⟨#[97, 108, 108]⟩
theorem nm_all : decide (addB.toList = allB.toList) = false ∧ decide (remB.toList = allB.toList) = false ∧ decide (hasB.toList = allB.toList) = false := by decide +kernel
theorem all_step {s : List Int} {here : Nat → Bool} (h : SetI s here) : doS 8 1 s allB 0 0 0 = some (s, hor here 16, 0) := by
  rw [← set_pow h]
  exact do_step (rest := []) at8 (set_good h).2 ((act_next (does_false nm_all.1)).trans ((act_next (does_false nm_all.2.1)).trans ((act_next (does_false nm_all.2.2)).trans (act_first (does_true (by simp [allA, tellS, allB]) takes_none (by decide) (show (0 : Int) < 4 by decide)))))) rfl (set_good h).2
theorem sets_run (l : List (Int × Nat)) (hl : l.length ≤ 20) (hq : ∀ q ∈ l, q.2 < 16) :
    (∃ s', runS 7 1 (l.map setC) = some ((setRun l fun _ => false).1, s', 0)) ∧ ∃ s', runS 8 1 (l.map setC ++ [(allB, 0, 0)]) = some ((setRun l fun _ => false).1 ++ [hor (setRun l fun _ => false).2 16], s', 0) := by
  obtain ⟨s', h', g7, g8⟩ := sets_go l [] _ hq set_nil
  have := h'.len
  refine ⟨⟨s', goes_run at7 (by simp [rule7]) (by simp; omega) g7⟩, s', goes_run at8 (by simp [rule8]) (by simp; omega) (g8.append (Goes.one (all_step h') (by omega)))⟩
theorem setRun_len : ∀ (l : List (Int × Nat)) (here : Nat → Bool), (setRun l here).1.length = l.length
  | [], _ => rfl
  | q :: l, here => by unfold setRun; rw [List.length_cons, List.length_cons, setRun_len l]
theorem setRun_snoc : ∀ (l : List (Int × Nat)) (q : Int × Nat) (here : Nat → Bool), setRun (l ++ [q]) here = ((setRun l here).1 ++ [setRes q.1 (setRun l here).2 q.2], setNext q.1 (setRun l here).2 q.2)
  | [], q, here => rfl
  | a :: l, q, here => by
    rw [List.cons_append]
    unfold setRun
    rw [setRun_snoc l q]
    rfl
end Go.Proofs.Ytiialjmpfeopjaa.Sp
