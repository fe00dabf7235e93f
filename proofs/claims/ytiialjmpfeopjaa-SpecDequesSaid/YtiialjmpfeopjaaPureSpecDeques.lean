/- That what one end of a deque puts the same end takes last first, and the other end first first, each word once: the plain law; no condition. -/
import Derived.Test.YtiialjmpfeopjaaXDe1
import Derived.Test.YtiialjmpfeopjaaPwE
namespace Go.Proofs.Ytiialjmpfeopjaa.Pure
open Go.RowKit Go.Proofs.Ytiialjmpfeopjaa.XDe Go.Proofs.YtiialjmpfeopjaaW.PrintWords Go.Proofs.YtiialjmpfeopjaaW.PrintLast
set_option linter.unusedVariables false
set_option linter.unusedSimpArgs false
set_option linter.unusedSectionVars false
def pushQ (x : Int) : S27 := ⟨⟨#[112, 117, 115, 104]⟩, x, 0⟩
def popQ : S27 := ⟨⟨#[112, 111, 112]⟩, 0, 0⟩
def stealQ : S27 := ⟨⟨#[115, 116, 101, 97, 108]⟩, 0, 0⟩
theorem awake_true : locklesslaw18_awake.f = some true := by
  unfold locklesslaw18_awake.f spec_Run.f
  have h : Sp.runS 2 1 (List.map callT [(⟨⟨#[101, 110, 113]⟩, 5, 0⟩ : S27), ⟨⟨#[101, 110, 113]⟩, 6, 0⟩, ⟨⟨#[100, 101, 113]⟩, 0, 0⟩]) = some ([0, 0, 5], [6], 0) := Sp.awake_run
  rw [if_pos ⟨by decide, by decide⟩, h]
  rfl
theorem run_of {r n : Int} {l : List S27} {o s : List Int} (h10 : r ≠ 10) (hl : l.length ≤ 1000000) (h : Sp.runS r n (l.map callT) = some (o, s, 0)) (ho : o.length = l.length) : locklesslaw18_run.f r n l = some (o, true) := by
  unfold locklesslaw18_run.f spec_Run.f
  rw [if_pos ⟨h10, hl⟩, h]
  simp [ho]
theorem rd_zeros (n : Nat) (l : List Int) (i : Nat) : rd (List.replicate n 0 ++ l) ((n + i : Nat) : Int) = l.getD i 0 := by
  unfold rd; rw [Int.toNat_natCast, List.getD_eq_getElem?_getD, List.getD_eq_getElem?_getD, List.getElem?_append_right (by simp)]; simp
theorem rd_nat (l : List Int) (i : Nat) : rd l (i : Int) = l.getD i 0 := by unfold rd; rw [Int.toNat_natCast]
/-- The i-th bit of the ends. -/
def bt (x1 : Int) (i : Nat) : Bool := decide ((Go.bits .and .i64 (shr .i64 x1 (IntKind.u64.wrap (i : Int))) 1) = 1)
def endQ (x1 : Int) (i : Nat) : S27 := if bt x1 i = true then stealQ else popQ
section
variable (x1 : Int) (ws : List Int) (hl : ws.length ≤ 11) (hw : ∀ x ∈ ws, 0 ≤ x ∧ x ≤ 900)
include hl hw
theorem de_run : locklesslaw18_run.f 4 1 (ws.map pushQ ++ (List.range' 0 (ws.length + 1)).map (endQ x1)) = some (List.replicate ws.length 0 ++ Sp.outD (bt x1) ws ws.length 0 0, true) := by
  have m1 : (ws.map pushQ ++ (List.range' 0 (ws.length + 1)).map (endQ x1)).map callT = ws.map Sp.pushC ++ (List.range' 0 (ws.length + 1)).map (Sp.endC (bt x1)) := by
    rw [List.map_append, List.map_map, List.map_map]
    congr 1
    refine List.map_congr_left (fun i _ => ?_)
    show callT (endQ x1 i) = Sp.endC (bt x1) i
    unfold endQ Sp.endC
    split <;> rfl
  refine run_of (by omega) ?_ (by rw [m1]; exact Sp.deque_run (bt x1) ws hl hw) ?_
  · simp; omega
  · simp [Sp.outD_len]
theorem wrap_nat (i : Nat) (h : i ≤ 100) : 0 ≤ IntKind.u64.wrap (i : Int) := by unfold IntKind.wrap; simp [IntKind.signed, IntKind.bits]; omega
theorem de_l2 : ∀ (m k i lo : Nat), i + m = ws.length → lo + m ≤ ws.length → m < k → (Sp.outD (bt x1) ws ws.length 0 0).drop i = Sp.outD (bt x1) ws m i lo →
    locklesslaw18_SpecDeques.l2 k x1 ws (ws.length : Int) (List.replicate ws.length 0 ++ Sp.outD (bt x1) ws ws.length 0 0) (lo : Int) ((lo + m : Nat) : Int) (i : Int) = some true := by
  have hlen : (List.replicate ws.length (0 : Int) ++ Sp.outD (bt x1) ws ws.length 0 0).length = ws.length + ws.length + 1 := by rw [List.length_append, List.length_replicate, Sp.outD_len]; omega
  have e9 : wrap64 (2 * (ws.length : Int)) = ((ws.length + ws.length : Nat) : Int) := by unfold wrap64; omega
  have hd : ∀ (l r : List Int) (i : Nat), l.drop i = r → l.getD i 0 = r.getD 0 0 := fun l r i h => by
    rw [← h, List.getD_eq_getElem?_getD, List.getD_eq_getElem?_getD, List.getElem?_drop, Nat.add_zero]
  have ht : ∀ (l r : List Int) (i : Nat) (x : Int), l.drop i = x :: r → l.drop (i + 1) = r := fun l r i x h => by
    rw [← List.drop_drop, h]; rfl
  intro m
  induction m with
  | zero =>
    intro k i lo h1 h2 h3 h4
    obtain ⟨k, rfl⟩ : ∃ m, k = m + 1 := ⟨k - 1, by omega⟩
    obtain rfl : i = ws.length := by omega
    have r1 : rd (List.replicate ws.length 0 ++ Sp.outD (bt x1) ws ws.length 0 0) ((ws.length + ws.length : Nat) : Int) = -1 := by
      rw [rd_zeros, hd _ _ _ h4]; rfl
    simp only [locklesslaw18_SpecDeques.l2]
    rw [if_neg (by omega), e9, hlen, r1, if_pos (by omega), if_pos (by omega)]
    simp
  | succ m ih =>
    intro k i lo h1 h2 h3 h4
    obtain ⟨k, rfl⟩ : ∃ m, k = m + 1 := ⟨k - 1, by omega⟩
    have e1 : wrap64 ((ws.length : Int) + (i : Int)) = ((ws.length + i : Nat) : Int) := by unfold wrap64; omega
    have e2 : wrap64 ((i : Int) + 1) = ((i + 1 : Nat) : Int) := by unfold wrap64; omega
    have e3 : wrap64 ((lo : Int) + 1) = ((lo + 1 : Nat) : Int) := by unfold wrap64; omega
    have e4 : wrap64 (((lo + (m + 1) : Nat) : Int) - 1) = ((lo + m : Nat) : Int) := by unfold wrap64; omega
    have e5 := wrap_nat ws hl hw i (by omega)
    have r1 : rd (List.replicate ws.length 0 ++ Sp.outD (bt x1) ws ws.length 0 0) ((ws.length + i : Nat) : Int) = (Sp.outD (bt x1) ws (m + 1) i lo).getD 0 0 := by
      rw [rd_zeros, hd _ _ _ h4]
    by_cases hb : bt x1 i = true
    · have hb2 : (Go.bits .and .i64 (shr .i64 x1 (IntKind.u64.wrap (i : Int))) 1) = 1 := of_decide_eq_true hb
      have e6 : Sp.outD (bt x1) ws (m + 1) i lo = ws.getD lo 0 :: Sp.outD (bt x1) ws m (i + 1) (lo + 1) := by rw [Sp.outD, if_pos hb]
      have r2 : rd (List.replicate ws.length 0 ++ Sp.outD (bt x1) ws ws.length 0 0) ((ws.length + i : Nat) : Int) = rd ws (lo : Int) := by rw [r1, e6, rd_nat]; rfl
      have := ih k (i + 1) (lo + 1) (by omega) (by omega) (by omega) (ht _ _ _ _ (h4.trans e6))
      simp only [locklesslaw18_SpecDeques.l2]
      rw [if_pos (by omega), if_pos e5, if_pos hb2, e1, e2, e3, hlen, if_pos (by omega), if_pos (by omega), if_pos (by omega), if_pos (by omega), if_pos r2]
      rw [show lo + 1 + m = lo + (m + 1) by omega] at this
      exact this
    · have hb2 : ¬ (Go.bits .and .i64 (shr .i64 x1 (IntKind.u64.wrap (i : Int))) 1) = 1 := fun e => hb (decide_eq_true e)
      have e6 : Sp.outD (bt x1) ws (m + 1) i lo = ws.getD (lo + m) 0 :: Sp.outD (bt x1) ws m (i + 1) lo := by rw [Sp.outD, if_neg hb]
      have r2 : rd (List.replicate ws.length 0 ++ Sp.outD (bt x1) ws ws.length 0 0) ((ws.length + i : Nat) : Int) = rd ws ((lo + m : Nat) : Int) := by rw [r1, e6, rd_nat]; rfl
      have := ih k (i + 1) lo (by omega) (by omega) (by omega) (ht _ _ _ _ (h4.trans e6))
      simp only [locklesslaw18_SpecDeques.l2]
      rw [if_pos (by omega), if_pos e5, if_neg hb2, e1, e2, e4, hlen, if_pos (by omega), if_pos (by omega), if_pos (by omega), if_pos (by omega), if_pos r2]
      exact this
theorem de_end (k : Nat) (hk : 20 < k) : locklesslaw18_SpecDeques.l1 k x1 (ws.map pushQ ++ (List.range' 0 (ws.length + 1)).map (endQ x1)) ws (ws.length : Int) ((ws.length + 1 : Nat) : Int) = some true := by
  obtain ⟨k, rfl⟩ : ∃ m, k = m + 1 := ⟨k - 1, by omega⟩
  have h1 := de_l2 x1 ws hl hw ws.length k 0 0 (by omega) (by omega) (by omega) rfl
  rw [Nat.zero_add] at h1
  simp only [locklesslaw18_SpecDeques.l1]
  rw [if_neg (by omega), de_run x1 ws hl hw, Option.bind_some, if_pos rfl]
  exact h1
theorem de_l1 : ∀ (d k i : Nat), ws.length + 1 - i ≤ d → d + 20 < k → i ≤ ws.length + 1 → locklesslaw18_SpecDeques.l1 k x1 (ws.map pushQ ++ (List.range' 0 i).map (endQ x1)) ws (ws.length : Int) (i : Int) = some true := by
  intro d
  induction d with
  | zero =>
    intro k i h1 h2 h3
    obtain rfl : i = ws.length + 1 := by omega
    exact de_end x1 ws hl hw k (by omega)
  | succ d ih =>
    intro k i h1 h2 h3
    by_cases hi : i ≤ ws.length
    · obtain ⟨k, rfl⟩ : ∃ m, k = m + 1 := ⟨k - 1, by omega⟩
      have e3 : wrap64 ((i : Int) + 1) = ((i + 1 : Nat) : Int) := by unfold wrap64; omega
      have e5 := wrap_nat ws hl hw i (by omega)
      have := ih k (i + 1) (by omega) (by omega) (by omega)
      rw [List.range'_concat, List.map_append, ← List.append_assoc, Nat.zero_add, Nat.one_mul] at this
      simp only [locklesslaw18_SpecDeques.l1]
      rw [if_pos (by omega), if_pos e5, e3]
      have hlt : (ws.map pushQ ++ (List.range' 0 i).map (endQ x1)).length < 4398046511104 := by simp; omega
      by_cases hb : bt x1 i = true
      · have e7 : (List.map (endQ x1) [i]) = [stealQ] := by show [endQ x1 i] = _; unfold endQ; rw [if_pos hb]
        rw [e7] at this
        rw [if_pos (of_decide_eq_true hb), if_pos hlt]
        exact this
      · have e7 : (List.map (endQ x1) [i]) = [popQ] := by show [endQ x1 i] = _; unfold endQ; rw [if_neg hb]
        rw [e7] at this
        rw [if_neg (fun e => hb (decide_eq_true e)), if_pos hlt]
        exact this
    · obtain rfl : i = ws.length + 1 := by omega
      exact de_end x1 ws hl hw k (by omega)
theorem de_j1 (k : Nat) (hk : 40 < k) : locklesslaw18_SpecDeques.j1 k x1 (ws.map pushQ) ws = some true := by
  obtain ⟨k, rfl⟩ : ∃ m, k = m + 1 := ⟨k - 1, by omega⟩
  have := de_l1 x1 ws hl hw (ws.length + 1) k 0 (by omega) (by omega) (by omega)
  simp only [locklesslaw18_SpecDeques.j1]
  rw [List.range'_zero, List.map_nil, List.append_nil] at this
  exact this
end
theorem de_l0 (x0 : List Int) (x1 : Int) : ∀ (d k : Nat) (ws : List Int), 11 - ws.length ≤ d → d + 50 < k → ws.length ≤ 11 → (∀ x ∈ ws, 0 ≤ x ∧ x ≤ 900) → locklesslaw18_SpecDeques.l0 k x0 x1 (ws.map pushQ) ws (ws.length : Int) = some true := by
  intro d
  induction d with
  | zero =>
    intro k ws h1 h2 h3 hw
    obtain ⟨k, rfl⟩ : ∃ m, k = m + 1 := ⟨k - 1, by omega⟩
    simp only [locklesslaw18_SpecDeques.l0]
    rw [if_neg (show ¬ ((ws.length : Int) < 11) by omega), ite_self]
    exact de_j1 x1 ws h3 hw k (by omega)
  | succ d ih =>
    intro k ws h1 h2 h3 hw
    obtain ⟨k, rfl⟩ : ∃ m, k = m + 1 := ⟨k - 1, by omega⟩
    simp only [locklesslaw18_SpecDeques.l0]
    by_cases ha : (ws.length : Int) < (x0.length : Int)
    · by_cases hb : (ws.length : Int) < 11
      · rw [if_pos ha, if_pos hb, if_pos (by omega), if_pos (by omega), if_pos (by simp; omega)]
        have hm := Sp.word_mod (rd x0 (ws.length : Int)) 901 (by decide) (by decide)
        generalize wrap64 (Int.tmod (IntKind.u64.wrap (rd x0 (ws.length : Int))) 901) = x at hm
        have e3 : wrap64 ((ws.length : Int) + 1) = (((ws ++ [x]).length : Nat) : Int) := by rw [List.length_append, List.length_singleton]; unfold wrap64; omega
        have := ih k (ws ++ [x]) (by simp; omega) (by omega) (by simp; omega) (fun z hz => by
          rcases List.mem_append.1 hz with h | h
          · exact hw z h
          · rw [List.mem_singleton.1 h]; omega)
        rw [List.map_append] at this
        rw [e3]
        exact this
      · rw [if_pos ha, if_neg hb]
        exact de_j1 x1 ws h3 hw k (by omega)
    · rw [if_neg ha]
      exact de_j1 x1 ws h3 hw k (by omega)
theorem SpecDeques : locklesslaw18_SpecDeques.Pure := by
  intro l0 a1 _ _ _ _
  refine ⟨100, ?_⟩
  unfold locklesslaw18_SpecDeques.f
  rw [awake_true, Option.bind_some, if_pos rfl]
  exact de_l0 l0 a1 11 100 [] (by simp) (by decide) (by simp) (by simp)
end Go.Proofs.Ytiialjmpfeopjaa.Pure
