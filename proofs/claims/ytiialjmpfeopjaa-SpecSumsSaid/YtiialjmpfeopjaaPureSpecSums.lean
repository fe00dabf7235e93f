/- That counters tell the sum of what was added, and a tally's add the sum ahead of it: the plain law; no condition. -/
import Derived.Test.YtiialjmpfeopjaaXSu1
import Derived.Test.YtiialjmpfeopjaaPwC
namespace Go.Proofs.Ytiialjmpfeopjaa.Pure
open Go.RowKit Go.Proofs.Ytiialjmpfeopjaa.XSu Go.Proofs.YtiialjmpfeopjaaW.PrintWords Go.Proofs.YtiialjmpfeopjaaW.PrintLast
set_option linter.unusedVariables false
set_option linter.unusedSimpArgs false
set_option linter.unusedSectionVars false
def addQ (x : Int) : S27 := ⟨⟨#[97, 100, 100]⟩, x, 0⟩
def getQ : S27 := ⟨⟨#[103, 101, 116]⟩, 0, 0⟩
theorem awake_true : locklesslaw18_awake.f = some true := by
  unfold locklesslaw18_awake.f spec_Run.f
  have h : Sp.runS 2 1 (List.map callT [(⟨⟨#[101, 110, 113]⟩, 5, 0⟩ : S27), ⟨⟨#[101, 110, 113]⟩, 6, 0⟩, ⟨⟨#[100, 101, 113]⟩, 0, 0⟩]) = some ([0, 0, 5], [6], 0) := Sp.awake_run
  rw [if_pos ⟨by decide, by decide⟩, h]
  rfl
theorem run_of {r n : Int} {l : List S27} {o s : List Int} (h10 : r ≠ 10) (hl : l.length ≤ 1000000) (h : Sp.runS r n (l.map callT) = some (o, s, 0)) (ho : o.length = l.length) : locklesslaw18_run.f r n l = some (o, true) := by
  unfold locklesslaw18_run.f spec_Run.f
  rw [if_pos ⟨h10, hl⟩, h]
  simp [ho]
theorem rd_last (l : List Int) (x : Int) : rd (l ++ [x]) (l.length : Int) = x := by unfold rd; simp
theorem same_l0 (a : List Int) (ha : a.length ≤ 1000000) : ∀ (d k i : Nat), a.length - i ≤ d → d < k → i ≤ a.length → locklesslaw18_same.l0 k a a (i : Int) = some true := by
  intro d
  induction d with
  | zero =>
    intro k i h1 h2 h3
    obtain ⟨k, rfl⟩ : ∃ m, k = m + 1 := ⟨k - 1, by omega⟩
    simp only [locklesslaw18_same.l0]
    rw [if_neg (by omega)]
  | succ d ih =>
    intro k i h1 h2 h3
    obtain ⟨k, rfl⟩ : ∃ m, k = m + 1 := ⟨k - 1, by omega⟩
    simp only [locklesslaw18_same.l0]
    by_cases hi : i < a.length
    · have e3 : wrap64 ((i : Int) + 1) = ((i + 1 : Nat) : Int) := by unfold wrap64; omega
      rw [if_pos (by omega), if_pos (by omega), if_pos (by omega), if_pos trivial, e3]
      exact ih k (i + 1) (by omega) (by omega) (by omega)
    · rw [if_neg (by omega)]
theorem same_true (a : List Int) (ha : a.length ≤ 1000000) (k : Nat) (hk : a.length < k) : locklesslaw18_same.f k a a = some true := by
  unfold locklesslaw18_same.f
  rw [if_pos rfl]
  exact same_l0 a ha a.length k 0 (by omega) hk (by omega)
section
variable (xs bs : List Int) (hl : xs.length ≤ 20) (hb : bs.length = xs.length) (hw : ∀ x ∈ xs, 1 ≤ x ∧ x ≤ 99) (hv : ∀ x ∈ bs, -900 ≤ x ∧ x ≤ 900)
include hl hb hw hv
theorem su_run1 : locklesslaw18_run.f 14 1 (xs.map addQ ++ [getQ]) = some (List.replicate xs.length 0 ++ [xs.sum], true) := by
  have m1 : (xs.map addQ ++ [getQ]).map callT = xs.map Sp.addC ++ [Sp.getC] := by rw [List.map_append, List.map_map]; rfl
  refine run_of (by omega) ?_ (by rw [m1]; exact Sp.counter_run xs hl hw) ?_
  · rw [List.length_append, List.length_map, List.length_singleton]; omega
  · simp
theorem su_run2 : locklesslaw18_run.f 16 1 (bs.map addQ ++ [getQ]) = some (Sp.psums 0 bs ++ [bs.sum], true) := by
  have m1 : (bs.map addQ ++ [getQ]).map callT = bs.map Sp.addC ++ [Sp.getC] := by rw [List.map_append, List.map_map]; rfl
  refine run_of (by omega) ?_ (by rw [m1]; exact Sp.tally_run bs (by omega) hv) ?_
  · rw [List.length_append, List.length_map, List.length_singleton]; omega
  · simp [Sp.psums_len]
theorem su_end (k : Nat) (hk : 30 < k) : (if (xs.map addQ).length < 4398046511104 then ((locklesslaw18_run.f 14 1 (xs.map addQ ++ [(⟨(⟨#[103, 101, 116]⟩ : ByteArray), 0, 0⟩ : S27)])).bind fun bt139 => (if (bs.map addQ).length < 4398046511104 then ((locklesslaw18_run.f 16 1 (bs.map addQ ++ [(⟨(⟨#[103, 101, 116]⟩ : ByteArray), 0, 0⟩ : S27)])).bind fun bt146 => (if bt139.2 = true then (if bt146.2 = true then (if 0 ≤ ((xs.map addQ).length : Int) then (if ((xs.map addQ).length : Int) < (bt139.1.length : Int) then (if (rd bt139.1 ((xs.map addQ).length : Int)) = xs.sum then (if (Sp.psums 0 bs).length < 17592186044416 then ((locklesslaw18_same.f k bt146.1 (Sp.psums 0 bs ++ [bs.sum])).bind fun t154 => (some t154)) else (none)) else (some false)) else (none)) else (none)) else (some false)) else (some false))) else (none))) else (none)) = some true := by
  have h1 : (xs.map addQ).length = xs.length := List.length_map _
  have h2 : (bs.map addQ).length = bs.length := List.length_map _
  have h3 : rd (List.replicate xs.length 0 ++ [xs.sum]) (xs.length : Int) = xs.sum := by
    have := rd_last (List.replicate xs.length 0) xs.sum
    rwa [List.length_replicate] at this
  have h4 : (xs.length : Int) < ((List.replicate xs.length (0 : Int) ++ [xs.sum]).length : Int) := by rw [List.length_append, List.length_replicate, List.length_singleton]; omega
  have h5 : (Sp.psums 0 bs).length < 17592186044416 := by rw [Sp.psums_len]; omega
  have h6 := same_true (Sp.psums 0 bs ++ [bs.sum]) (by rw [List.length_append, Sp.psums_len, List.length_singleton]; omega) k (by rw [List.length_append, Sp.psums_len, List.length_singleton]; omega)
  have e1 := su_run1 xs bs hl hb hw hv
  have e2 := su_run2 xs bs hl hb hw hv
  unfold getQ at e1 e2
  rw [h1, h2, if_pos (by omega), e1, Option.bind_some, if_pos (by omega), e2, Option.bind_some, if_pos rfl, if_pos rfl, if_pos (by omega), if_pos h4, if_pos h3, if_pos h5, h6, Option.bind_some]
end
theorem su_l0 (x0 : List Int) : ∀ (d k : Nat) (xs bs : List Int), 20 - xs.length ≤ d → d + 40 < k → xs.length ≤ 20 → bs.length = xs.length → (∀ x ∈ xs, 1 ≤ x ∧ x ≤ 99) → (∀ x ∈ bs, -900 ≤ x ∧ x ≤ 900) →
    locklesslaw18_SpecSums.l0 k x0 (xs.map addQ) (bs.map addQ) (Sp.psums 0 bs) xs.sum bs.sum (xs.length : Int) = some true := by
  intro d
  induction d with
  | zero =>
    intro k xs bs h1 h2 h3 hb hw hv
    obtain ⟨k, rfl⟩ : ∃ m, k = m + 1 := ⟨k - 1, by omega⟩
    simp only [locklesslaw18_SpecSums.l0]
    have h9 := su_end xs bs h3 hb hw hv k (by omega)
    rw [if_neg (show ¬ ((xs.length : Int) < 20) by omega)]
    by_cases ha : (xs.length : Int) < (x0.length : Int)
    · rw [if_pos ha]; exact h9
    · rw [if_neg ha]; exact h9
  | succ d ih =>
    intro k xs bs h1 h2 h3 hb hw hv
    obtain ⟨k, rfl⟩ : ∃ m, k = m + 1 := ⟨k - 1, by omega⟩
    simp only [locklesslaw18_SpecSums.l0]
    have h9 := su_end xs bs h3 hb hw hv k (by omega)
    by_cases ha : (xs.length : Int) < (x0.length : Int)
    · by_cases hc : (xs.length : Int) < 20
      · clear h9
        have h5 : (Sp.psums 0 bs).length < 17592186044416 := by rw [Sp.psums_len]; omega
        rw [if_pos ha, if_pos hc, if_pos (by omega), if_pos (by rw [List.length_map]; omega), if_pos (by rw [List.length_map]; omega), if_pos h5]
        have hm := Sp.word_mod (rd x0 (xs.length : Int)) 99 (by decide) (by decide)
        generalize wrap64 (Int.tmod (IntKind.u64.wrap (rd x0 (xs.length : Int))) 99) = m at hm
        have hb0 := Int.tmod_lt_of_pos (rd x0 (xs.length : Int)) (show (0 : Int) < 901 by decide)
        have hb1 := Int.lt_tmod_of_pos (rd x0 (xs.length : Int)) (show (0 : Int) < 901 by decide)
        generalize Int.tmod (rd x0 (xs.length : Int)) 901 = b at hb0 hb1
        have hs1 := Sp.sum14 xs hw
        have hs2 := Sp.sum16 bs hv
        have e1 : wrap64 (1 + m) = 1 + m := by unfold wrap64; omega
        have e2 : wrap64 (xs.sum + (1 + m)) = (xs ++ [1 + m]).sum := by rw [List.sum_append, List.sum_singleton]; unfold wrap64; omega
        have e3 : wrap64 (bs.sum + b) = (bs ++ [b]).sum := by rw [List.sum_append, List.sum_singleton]; unfold wrap64; omega
        have e4 : wrap64 ((xs.length : Int) + 1) = ((xs ++ [1 + m]).length : Int) := by rw [List.length_append, List.length_singleton]; unfold wrap64; omega
        have e5 : Sp.psums 0 bs ++ [bs.sum] = Sp.psums 0 (bs ++ [b]) := by rw [Sp.psums_snoc, Int.zero_add]
        have := ih k (xs ++ [1 + m]) (bs ++ [b]) (by simp; omega) (by omega) (by simp; omega) (by simp; omega) (fun z hz => by
          rcases List.mem_append.1 hz with h | h
          · exact hw z h
          · rw [List.mem_singleton.1 h]; omega) (fun z hz => by
          rcases List.mem_append.1 hz with h | h
          · exact hv z h
          · rw [List.mem_singleton.1 h]; omega)
        rw [List.map_append, List.map_append] at this
        rw [e1, e2, e3, e4, e5]
        exact this
      · rw [if_pos ha, if_neg hc]; exact h9
    · rw [if_neg ha]; exact h9
theorem SpecSums : locklesslaw18_SpecSums.Pure := by
  intro l0 _ _ _
  refine ⟨100, ?_⟩
  unfold locklesslaw18_SpecSums.f
  rw [awake_true, Option.bind_some, if_pos rfl]
  exact su_l0 l0 20 100 [] [] (by simp) (by decide) (by simp) rfl (by simp) (by simp)
end Go.Proofs.Ytiialjmpfeopjaa.Pure
