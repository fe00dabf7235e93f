/- What the printed functions of SchedJoins tell: the reference's Valid, equal lists: plain lemmas over the printed functions; no condition. -/
import Derived.Test.YtefhhaccoeljmaaXJ0
import Derived.Test.YtefhhaccoeljmaaXJ1
import Derived.Test.YtefhhaccoeljmaaXJ2
import Derived.KernelRfl
namespace Go.Proofs.Ytefhhaccoeljmaa.XJ
open Go.RowKit Go.Proofs.YtefhhaccoeljmaaW.PrintWords Go.Proofs.YtefhhaccoeljmaaW.PrintLast

theorem wrap_id (x : Int) (h0 : -1000000000 ≤ x) (h1 : x ≤ 1000000000) : wrap64 x = x := by unfold wrap64; omega
theorem wrap_succ (i : Nat) (h : i < 1000000000) : wrap64 ((i : Int) + 1) = ((i + 1 : Nat) : Int) := by rw [wrap_id _ (by omega) (by omega)]; push_cast; rfl
theorem rd_get (l : List Int) (i : Nat) (h : i < l.length) : rd l (i : Int) = l[i] := by simp [rd, h]

/-- A loop by index over a list is a fold. -/
theorem idx_loop {σ ρ : Type} (l : List Int) (L : Nat → σ → Int → Option ρ) (step : σ → Int → σ) (fin : σ → Option ρ) (c : Nat) (Inv : σ → Nat → Prop)
    (hstep : ∀ k s (i : Nat), c ≤ k → i < l.length → Inv s i → L (k + 1) s i = L k (step s (rd l i)) ((i + 1 : Nat) : Int))
    (hinv : ∀ s (i : Nat), i < l.length → Inv s i → Inv (step s (rd l i)) (i + 1))
    (hend : ∀ k s, c ≤ k → Inv s l.length → L (k + 1) s (l.length : Int) = fin s) :
    ∀ d k s (i : Nat), l.length - i = d → i ≤ l.length → d + c < k → Inv s i → L k s i = fin ((l.drop i).foldl step s) := by
  intro d
  induction d with
  | zero =>
    intro k s i hd hi hk hI
    obtain ⟨k, rfl⟩ : ∃ m, k = m + 1 := ⟨k - 1, by omega⟩
    have : i = l.length := by omega
    subst this
    rw [hend k s (by omega) hI]
    simp
  | succ d ih =>
    intro k s i hd hi hk hI
    obtain ⟨k, rfl⟩ : ∃ m, k = m + 1 := ⟨k - 1, by omega⟩
    have hlt : i < l.length := by omega
    rw [hstep k s i (by omega) hlt hI, ih k _ (i + 1) (by omega) (by omega) (by omega) (hinv s i hlt hI)]
    rw [List.drop_eq_getElem_cons hlt, List.foldl_cons, rd_get l i hlt]
theorem idx_loop0 {σ ρ : Type} (l : List Int) (L : Nat → σ → Int → Option ρ) (step : σ → Int → σ) (fin : σ → Option ρ) (c : Nat) (Inv : σ → Nat → Prop)
    (hstep : ∀ k s (i : Nat), c ≤ k → i < l.length → Inv s i → L (k + 1) s i = L k (step s (rd l i)) ((i + 1 : Nat) : Int))
    (hinv : ∀ s (i : Nat), i < l.length → Inv s i → Inv (step s (rd l i)) (i + 1))
    (hend : ∀ k s, c ≤ k → Inv s l.length → L (k + 1) s (l.length : Int) = fin s) (k : Nat) (s : σ) (hk : l.length + c < k) (hI : Inv s 0) : L k s 0 = fin (l.foldl step s) :=
  idx_loop l L step fin c Inv hstep hinv hend l.length k s 0 (by omega) (by omega) (by omega) hI

theorem sane_some (k : Nat) (hk : 20 ≤ k) : locklesslaw23_sane.f k = some true :=
  at_rounds (fun k => locklesslaw23_sane.mono k) hk (by kernel_rfl)

theorem ints_self (l : List Int) (k : Nat) (hl : l.length < 100000) (hk : l.length < k) : locklessref01_Ints.f k l l = some true := by
  unfold locklessref01_Ints.f
  rw [if_pos rfl]
  have := idx_loop0 (σ := Unit) l (fun k _ i => locklessref01_Ints.l0 k l l i) (fun _ _ => ()) (fun _ => some true) 0 (fun _ _ => True)
    (fun k s i _ hi _ => by
      show locklessref01_Ints.l0 (k + 1) l l i = _
      rw [locklessref01_Ints.l0, if_pos (by omega), if_pos (by omega), if_pos (by omega), if_pos rfl, wrap_succ i (by omega)])
    (fun _ _ _ _ => trivial)
    (fun k s _ _ => by show locklessref01_Ints.l0 (k + 1) l l _ = _; rw [locklessref01_Ints.l0, if_neg (by omega)]) k () hk trivial
  exact this

/-- The thread of a step, as the reference has it. -/
def thr (x : Int) : Int := if 0 ≤ x ∧ x < 4 then x else if 10 ≤ x ∧ x < 14 then x - 10 else -1
theorem thread_some (k : Nat) (x : Int) : locklessref23_Thread.f (k + 1) x = some (thr x) := by
  unfold locklessref23_Thread.f thr
  by_cases h0 : 0 ≤ x
  · rw [if_pos h0, locklessref23_Thread.j0]
    by_cases h4 : x < 4
    · simp [h4, h0]
    · simp only [decide_eq_true_eq, h4, and_false, if_false]
      by_cases h10 : 10 ≤ x
      · rw [if_pos h10]
        by_cases h14 : x < 14
        · rw [if_pos h14, if_pos ⟨h10, h14⟩, wrap_id _ (by omega) (by omega)]
        · rw [if_neg h14, if_neg (fun h => h14 h.2)]
      · rw [if_neg h10, if_neg (fun h => h10 h.1)]
  · rw [if_neg h0, locklessref23_Thread.j0, if_neg (by decide), if_neg (show ¬ (x ≥ 10) by omega), if_neg (fun h => h0 h.1), if_neg (fun h => by omega)]
theorem bad_thr (x : Int) : badStep x = decide (thr x < 0) := by
  unfold badStep thr
  by_cases h0 : x < 0
  · simp [h0, show ¬ (0 ≤ x) by omega, show ¬ (10 ≤ x) by omega]
  · by_cases h20 : 20 ≤ x
    · simp [h20, show ¬ (x < 4) by omega, show ¬ (x < 14) by omega]
    · obtain ⟨n, rfl⟩ : ∃ n : Nat, x = n := ⟨x.toNat, by omega⟩
      have hn : n < 20 := by omega
      clear h0 h20
      revert n
      decide
theorem who_thr (x : Int) (h : 0 ≤ thr x) : Int.tmod x 10 = thr x := by
  have h20 : 0 ≤ x ∧ x < 20 := by
    unfold thr at h
    split at h
    · omega
    · split at h <;> omega
  obtain ⟨n, rfl⟩ : ∃ n : Nat, x = n := ⟨x.toNat, by omega⟩
  have hn : n < 20 := by omega
  clear h20
  have all : ∀ n : Nat, n < 20 → 0 ≤ thr n → Int.tmod n 10 = thr n := by decide
  exact all n hn h
theorem thr_lt (x : Int) : thr x < 4 := by
  unfold thr
  split
  · omega
  · split <;> omega
theorem valid_loop (l : List Int) (hl : l.length < 100000) : ∀ d k (i : Nat), l.length - i = d → i ≤ l.length → d + 1 < k → locklessref23_Valid.l0 k l i = some (((l.drop i).all fun x => decide (0 ≤ thr x)) && decide (l.length ≤ 600)) := by
  intro d
  induction d with
  | zero =>
    intro k i hd hi hk
    obtain ⟨k, rfl⟩ : ∃ m, k = m + 1 := ⟨k - 1, by omega⟩
    have : i = l.length := by omega
    subst this
    rw [locklessref23_Valid.l0, if_neg (by omega)]
    simp
    omega
  | succ d ih =>
    intro k i hd hi hk
    obtain ⟨k, rfl⟩ : ∃ m, k = m + 2 := ⟨k - 2, by omega⟩
    have hlt : i < l.length := by omega
    rw [locklessref23_Valid.l0, if_pos (by omega), if_pos (by omega), thread_some]
    simp only [Option.bind_some]
    rw [List.drop_eq_getElem_cons hlt, List.all_cons, rd_get l i hlt, wrap_succ i (by omega)]
    by_cases h : thr l[i] < 0
    · rw [if_pos h]
      simp [show ¬ (0 ≤ thr l[i]) by omega]
    · rw [if_neg h, ih (k + 1) (i + 1) (by omega) (by omega) (by omega)]
      simp [show 0 ≤ thr l[i] by omega]
theorem refValid (l : List Int) (k : Nat) (hl : l.length < 100000) (hk : l.length + 1 < k) : locklessref23_Valid.f k l = some (validL l) := by
  unfold locklessref23_Valid.f
  have := valid_loop l hl l.length k 0 (by omega) (by omega) (by omega)
  rw [show ((0 : Nat) : Int) = 0 from rfl] at this
  rw [this, List.drop_zero, validL, Bool.and_comm]
  congr 2
  clear this hl hk
  induction l with
  | nil => rfl
  | cons x r ih =>
    rw [List.all_cons, List.any_cons, bad_thr, Bool.not_or, ih]
    congr 1
    by_cases h : thr x < 0
    · simp [h, show ¬ (0 ≤ thr x) by omega]
    · simp [h, show 0 ≤ thr x by omega]
/-- What is known of a valid list. -/
theorem valid_all (l : List Int) (h : validL l = true) : l.length ≤ 600 ∧ ∀ x ∈ l, 0 ≤ thr x := by
  simp only [validL, Bool.and_eq_true, decide_eq_true_eq, Bool.not_eq_true', List.any_eq_false] at h
  refine ⟨h.1, fun x hx => ?_⟩
  have := h.2 x hx
  rw [bad_thr] at this
  simpa using this
theorem valid_of (l : List Int) (h1 : l.length ≤ 600) (h2 : ∀ x ∈ l, 0 ≤ thr x) : validL l = true := by
  simp only [validL, Bool.and_eq_true, decide_eq_true_eq, Bool.not_eq_true', List.any_eq_false]
  refine ⟨h1, fun x hx => ?_⟩
  rw [bad_thr]
  have := h2 x hx
  simp; omega
theorem copy_some (l : List Int) (hl : l.length < 100000) : locklessref01_Copy.f l = some l := by
  unfold locklessref01_Copy.f
  simp only [Option.bind_some, List.length_nil, List.nil_append]
  rw [if_pos (by omega)]
theorem refJoin (l k : List Int) (n : Nat) (hl : l.length < 2000) (hk : k.length < 2000) (hn : 4000 < n) : locklessref23_Join.f n l k = some (if joinOk l k then (l ++ k, 0) else ([], 1)) := by
  unfold locklessref23_Join.f joinOk
  rw [refValid l n (by omega) (by omega), refValid k n (by omega) (by omega)]
  simp only [Option.bind_some]
  cases validL l
  · simp
  · cases validL k
    · simp
    · rw [copy_some l (by omega), wrap_id _ (by omega) (by omega)]
      simp only [Option.bind_some, if_true]
      by_cases h : l.length + k.length ≤ 600
      · rw [if_neg (by omega), if_pos (by omega)]; simp [h]
      · rw [if_pos (by omega)]; simp [h]
end Go.Proofs.Ytefhhaccoeljmaa.XJ
