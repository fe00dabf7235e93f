/- Alone is the reference's, of every list and number, valid, and has no more switches than threads in its list: what the printed law computes; no condition. -/
import Derived.Test.YtefhhaccoeljmaaXA3
import Derived.KernelRfl
namespace Go.Proofs.Ytefhhaccoeljmaa.XA
open Go.RowKit Go.Proofs.YtefhhaccoeljmaaW.PrintWords Go.Proofs.YtefhhaccoeljmaaW.PrintLast

theorem wrap_id (x : Int) (h0 : -1000000000 ≤ x) (h1 : x ≤ 1000000000) : wrap64 x = x := by unfold wrap64; omega
theorem wrap_succ (i : Nat) (h : i < 1000000000) : wrap64 ((i : Int) + 1) = ((i + 1 : Nat) : Int) := by rw [wrap_id _ (by omega) (by omega)]; push_cast; rfl
theorem rd_get (l : List Int) (i : Nat) (h : i < l.length) : rd l (i : Int) = l[i] := by simp [rd, h]

/-- A loop by index over a list is a fold. -/
theorem idx_loop {σ ρ : Type} (l : List Int) (L : Nat → σ → Int → Option ρ) (step : σ → Int → σ) (fin : σ → Option ρ) (c : Nat) (Inv : σ → Nat → Prop)
    (hstep : ∀ k s (i : Nat), c ≤ k → i < l.length → Inv s i → L (k + 1) s i = L k (step s (rd l i)) ((i + 1 : Nat) : Int))
    (hinv : ∀ s (i : Nat), i < l.length → Inv s i → Inv (step s (rd l i)) (i + 1))
    (hend : ∀ k s, c ≤ k → Inv s l.length → L (k + 1) s (l.length : Int) = fin s) :
    ∀ d k s (i : Nat), l.length - i = d → i ≤ l.length → d + c < k → Inv s i → L k s i = fin ((l.drop i).foldl step s) := by
  intro d
  induction d with
  | zero =>
    intro k s i hd hi hk hI
    obtain ⟨k, rfl⟩ : ∃ m, k = m + 1 := ⟨k - 1, by omega⟩
    have : i = l.length := by omega
    subst this
    rw [hend k s (by omega) hI]
    simp
  | succ d ih =>
    intro k s i hd hi hk hI
    obtain ⟨k, rfl⟩ : ∃ m, k = m + 1 := ⟨k - 1, by omega⟩
    have hlt : i < l.length := by omega
    rw [hstep k s i (by omega) hlt hI, ih k _ (i + 1) (by omega) (by omega) (by omega) (hinv s i hlt hI)]
    rw [List.drop_eq_getElem_cons hlt, List.foldl_cons, rd_get l i hlt]
theorem idx_loop0 {σ ρ : Type} (l : List Int) (L : Nat → σ → Int → Option ρ) (step : σ → Int → σ) (fin : σ → Option ρ) (c : Nat) (Inv : σ → Nat → Prop)
    (hstep : ∀ k s (i : Nat), c ≤ k → i < l.length → Inv s i → L (k + 1) s i = L k (step s (rd l i)) ((i + 1 : Nat) : Int))
    (hinv : ∀ s (i : Nat), i < l.length → Inv s i → Inv (step s (rd l i)) (i + 1))
    (hend : ∀ k s, c ≤ k → Inv s l.length → L (k + 1) s (l.length : Int) = fin s) (k : Nat) (s : σ) (hk : l.length + c < k) (hI : Inv s 0) : L k s 0 = fin (l.foldl step s) :=
  idx_loop l L step fin c Inv hstep hinv hend l.length k s 0 (by omega) (by omega) (by omega) hI

theorem sane_some (k : Nat) (hk : 20 ≤ k) : locklesslaw23_sane.f k = some true :=
  at_rounds (fun k => locklesslaw23_sane.mono k) hk (by kernel_rfl)

theorem ints_self (l : List Int) (k : Nat) (hl : l.length < 100000) (hk : l.length < k) : locklessref01_Ints.f k l l = some true := by
  unfold locklessref01_Ints.f
  rw [if_pos rfl]
  have := idx_loop0 (σ := Unit) l (fun k _ i => locklessref01_Ints.l0 k l l i) (fun _ _ => ()) (fun _ => some true) 0 (fun _ _ => True)
    (fun k s i _ hi _ => by
      show locklessref01_Ints.l0 (k + 1) l l i = _
      rw [locklessref01_Ints.l0, if_pos (by omega), if_pos (by omega), if_pos (by omega), if_pos rfl, wrap_succ i (by omega)])
    (fun _ _ _ _ => trivial)
    (fun k s _ _ => by show locklessref01_Ints.l0 (k + 1) l l _ = _; rw [locklessref01_Ints.l0, if_neg (by omega)]) k () hk trivial
  exact this

/-- The thread of a step, as the reference has it. -/
def thr (x : Int) : Int := if 0 ≤ x ∧ x < 4 then x else if 10 ≤ x ∧ x < 14 then x - 10 else -1
theorem bad_thr (x : Int) : badStep x = decide (thr x < 0) := by
  unfold badStep thr
  by_cases h0 : x < 0
  · simp [h0, show ¬ (0 ≤ x) by omega, show ¬ (10 ≤ x) by omega]
  · by_cases h20 : 20 ≤ x
    · simp [h20, show ¬ (x < 4) by omega, show ¬ (x < 14) by omega]
    · obtain ⟨n, rfl⟩ : ∃ n : Nat, x = n := ⟨x.toNat, by omega⟩
      have hn : n < 20 := by omega
      clear h0 h20
      revert n
      decide
theorem who_thr (x : Int) (h : 0 ≤ thr x) : Int.tmod x 10 = thr x := by
  have h20 : 0 ≤ x ∧ x < 20 := by
    unfold thr at h
    split at h
    · omega
    · split at h <;> omega
  obtain ⟨n, rfl⟩ : ∃ n : Nat, x = n := ⟨x.toNat, by omega⟩
  have hn : n < 20 := by omega
  clear h20
  have all : ∀ n : Nat, n < 20 → 0 ≤ thr n → Int.tmod n 10 = thr n := by decide
  exact all n hn h
theorem thr_lt (x : Int) : thr x < 4 := by
  unfold thr
  split
  · omega
  · split <;> omega
theorem valid_all (l : List Int) (h : validL l = true) : l.length ≤ 600 ∧ ∀ x ∈ l, 0 ≤ thr x := by
  simp only [validL, Bool.and_eq_true, decide_eq_true_eq, Bool.not_eq_true', List.any_eq_false] at h
  refine ⟨h.1, fun x hx => ?_⟩
  have := h.2 x hx
  rw [bad_thr] at this
  simpa using this
theorem valid_of (l : List Int) (h1 : l.length ≤ 600) (h2 : ∀ x ∈ l, 0 ≤ thr x) : validL l = true := by
  simp only [validL, Bool.and_eq_true, decide_eq_true_eq, Bool.not_eq_true', List.any_eq_false]
  refine ⟨h1, fun x hx => ?_⟩
  rw [bad_thr]
  have := h2 x hx
  simp; omega
def thOk (t : Int) : Bool := decide (0 ≤ t ∧ t < 4)
theorem isThread_some (t : Int) : sched_isThread.f t = some (thOk t) := by
  unfold sched_isThread.f thOk
  by_cases h : 0 ≤ t
  · rw [if_pos h]; simp [h]
  · rw [if_neg h]; simp [h]
theorem isThread_ref (t : Int) : locklessref23_isThread.f t = some (thOk t) := by
  unfold locklessref23_isThread.f thOk
  by_cases h : 0 ≤ t
  · rw [if_pos h]; simp [h]
  · rw [if_neg h]; simp [h]
theorem upTo_some (n lo hi : Int) : locklessref23_upTo.f n lo hi = some (decide (lo ≤ n ∧ n ≤ hi)) := by
  unfold locklessref23_upTo.f
  by_cases h : lo ≤ n
  · rw [if_pos h]; simp [h]
  · rw [if_neg h]; simp [h]

/-- Each thread's steps in one piece. -/
def al (e : Nat) (l : List Int) : List Int := (l.map (List.replicate e)).flatten
theorem al_len (e : Nat) (l : List Int) : (al e l).length = l.length * e := by
  induction l with
  | nil => simp [al]
  | cons x r ih =>
    have : al e (x :: r) = List.replicate e x ++ al e r := by simp [al]
    rw [this, List.length_append, ih, List.length_replicate, List.length_cons, Nat.add_mul]
    omega
theorem al_mem (e : Nat) (l : List Int) (x : Int) (h : x ∈ al e l) : x ∈ l := by
  unfold al at h
  obtain ⟨y, hy, hx⟩ := List.mem_flatten.1 h
  obtain ⟨z, hz, rfl⟩ := List.mem_map.1 hy
  rw [List.eq_of_mem_replicate hx]
  exact hz
/-- The number of the switches. -/
def swL : List Int → Nat
  | x :: y :: r => (if thr x = thr y then 0 else 1) + swL (y :: r)
  | _ => 0
theorem swL_cons (x : Int) (r : List Int) : swL (x :: r) ≤ 1 + swL r := by
  cases r with
  | nil => simp [swL]
  | cons y r => rw [swL]; split <;> omega
theorem swL_rep (x : Int) (r : List Int) : ∀ e, swL (List.replicate e x ++ r) ≤ 1 + swL r := by
  intro e
  induction e with
  | zero => simp
  | succ e ih =>
    cases e with
    | zero => exact swL_cons x r
    | succ e =>
      have h1 : List.replicate (e + 1 + 1) x ++ r = x :: x :: (List.replicate e x ++ r) := by simp [List.replicate_succ]
      have h2 : List.replicate (e + 1) x ++ r = x :: (List.replicate e x ++ r) := by simp [List.replicate_succ]
      rw [h2] at ih
      rw [h1, swL, if_pos rfl]
      omega
theorem swL_al (e : Nat) (l : List Int) : swL (al e l) ≤ l.length := by
  induction l with
  | nil => simp [al, swL]
  | cons x r ih =>
    have h : al e (x :: r) = List.replicate e x ++ al e r := by simp [al]
    have := swL_rep x (al e r) e
    rw [h, List.length_cons]
    omega
theorem progSw_loop (l : List Int) (hl : l.length ≤ 600) (ht : ∀ x ∈ l, 0 ≤ thr x) : ∀ d k (i : Nat) (acc : Int), l.length - 1 - i = d → i + 1 ≤ l.length → d < k → 0 ≤ acc → acc + d ≤ 1000 → sched_Switches.l0 k l acc ((l.length - 1 : Nat) : Int) i = some (acc + swL (l.drop i), 0) := by
  intro d
  induction d with
  | zero =>
    intro k i acc hd hi hk h0 h1
    obtain ⟨k, rfl⟩ : ∃ m, k = m + 1 := ⟨k - 1, by omega⟩
    rw [sched_Switches.l0, if_neg (by omega)]
    rw [List.drop_eq_getElem_cons (by omega), List.drop_eq_nil_of_le (by omega)]
    simp [swL]
  | succ d ih =>
    intro k i acc hd hi hk h0 h1
    obtain ⟨k, rfl⟩ : ∃ m, k = m + 1 := ⟨k - 1, by omega⟩
    have hm : ∀ j (h : j < l.length), 0 ≤ thr (rd l (j : Int)) := fun j h => by rw [rd_get l j h]; exact ht _ (List.getElem_mem h)
    rw [sched_Switches.l0, if_pos (by omega), if_pos (by omega), if_pos (by omega), wrap_succ i (by omega), sched_who.f]
    simp only [Option.bind_some]
    rw [if_pos (by omega), if_pos (by omega), sched_who.f]
    simp only [Option.bind_some]
    rw [who_thr _ (hm i (by omega)), who_thr _ (hm (i + 1) (by omega)), wrap_id (acc + 1) (by omega) (by omega)]
    rw [List.drop_eq_getElem_cons (show i < l.length by omega), List.drop_eq_getElem_cons (show i + 1 < l.length by omega), swL, rd_get l i (by omega), rd_get l (i + 1) (by omega)]
    rw [← List.drop_eq_getElem_cons (show i + 1 < l.length by omega)]
    by_cases h : thr l[i] = thr l[i + 1]
    · rw [if_pos h, if_pos h, ih k (i + 1) acc (by omega) (by omega) (by omega) h0 (by omega), Nat.zero_add]
    · rw [if_neg h, if_neg h, ih k (i + 1) (acc + 1) (by omega) (by omega) (by omega) (by omega) (by omega)]
      push_cast
      rw [Int.add_assoc]
theorem progSw (l : List Int) (k : Nat) (hl : l.length ≤ 600) (ht : ∀ x ∈ l, 0 ≤ thr x) (hk : 700 < k) : sched_Switches.f k l = some (((swL l : Nat) : Int), 0) := by
  unfold sched_Switches.f sched_Valid.f
  simp only [Option.bind_some]
  rw [valid_of l hl ht, if_pos rfl]
  by_cases h0 : l.length = 0
  · obtain ⟨k, rfl⟩ : ∃ m, k = m + 1 := ⟨k - 1, by omega⟩
    have hm : mx 0 (wrap64 ((l.length : Int) - 1)) = 0 := by rw [h0, wrap_id _ (by omega) (by omega)]; unfold mx; decide
    rw [hm, sched_Switches.l0, if_neg (by decide), List.eq_nil_of_length_eq_zero h0]
    rfl
  · have hm : mx 0 (wrap64 ((l.length : Int) - 1)) = ((l.length - 1 : Nat) : Int) := by rw [wrap_id _ (by omega) (by omega)]; unfold mx; split <;> omega
    rw [hm]
    have := progSw_loop l hl ht (l.length - 1) k 0 0 (by omega) (by omega) (by omega) (by omega) (by omega)
    rw [Int.zero_add] at this
    exact this
/-- What Alone tells of a list whose length and number are in range. -/
def res (e : Nat) (acc r : List Int) : List Int × Int := if r.all thOk then (acc ++ al e r, 0) else ([], 1)
theorem res_bad (e : Nat) (acc : List Int) (x : Int) (r : List Int) (h : thOk x = false) : res e acc (x :: r) = ([], 1) := by simp [res, h]
theorem res_good (e : Nat) (acc : List Int) (x : Int) (r : List Int) (h : thOk x = true) : res e acc (x :: r) = res e (acc ++ List.replicate e x) r := by
  simp [res, h, al]
theorem prog_loop (l : List Int) (e : Nat) (hl : l.length ≤ 12) (he : e ≤ 100) : ∀ d k (i : Nat) (acc : List Int), l.length - i = d → i ≤ l.length → d < k → acc.length ≤ i * 100 → sched_Alone.l0 k e acc l (l.length : Int) i = some (res e acc (l.drop i)) := by
  intro d
  induction d with
  | zero =>
    intro k i acc hd hi hk ha
    obtain ⟨k, rfl⟩ : ∃ m, k = m + 1 := ⟨k - 1, by omega⟩
    rw [sched_Alone.l0, if_neg (by omega), List.drop_eq_nil_of_le (by omega)]
    simp [res, al]
  | succ d ih =>
    intro k i acc hd hi hk ha
    obtain ⟨k, rfl⟩ : ∃ m, k = m + 1 := ⟨k - 1, by omega⟩
    have hlt : i < l.length := by omega
    rw [sched_Alone.l0, if_pos (by omega), if_pos (by omega), if_pos (by omega), isThread_some]
    simp only [Option.bind_some]
    rw [List.drop_eq_getElem_cons hlt, rd_get l i hlt]
    cases ht : thOk l[i]
    · rw [if_neg (by decide), res_bad _ _ _ _ ht]
    · rw [if_pos rfl, slices_Repeat_int_int.f, if_pos ⟨rfl, by omega, by omega⟩]
      simp only [Option.bind_some, Int.toNat_natCast]
      rw [if_pos (by simp; omega), wrap_succ i (by omega), ih k (i + 1) _ (by omega) (by omega) (by omega) (by simp; omega), res_good _ _ _ _ ht]
      rfl
theorem ref_inner (l : List Int) (e : Nat) (i : Nat) (hi : i < l.length) (hl : l.length ≤ 12) (he : e ≤ 100) : ∀ d k (j : Nat) (acc : List Int), e - j = d → j ≤ e → d < k → acc.length ≤ i * 100 + j → locklessref23_Alone.l1 k l e acc i j = locklessref23_Alone.l0 (k - d - 1) l e (acc ++ List.replicate d l[i]) ((i + 1 : Nat) : Int) := by
  intro d
  induction d with
  | zero =>
    intro k j acc hd hj hk ha
    obtain ⟨k, rfl⟩ : ∃ m, k = m + 1 := ⟨k - 1, by omega⟩
    rw [locklessref23_Alone.l1, if_neg (by omega), wrap_succ i (by omega)]
    simp
  | succ d ih =>
    intro k j acc hd hj hk ha
    obtain ⟨k, rfl⟩ : ∃ m, k = m + 1 := ⟨k - 1, by omega⟩
    rw [locklessref23_Alone.l1, if_pos (by omega), if_pos (by omega), if_pos (by omega), if_pos (by omega), wrap_succ j (by omega), rd_get l i hi, ih k (j + 1) _ (by omega) (by omega) (by omega) (by simp; omega)]
    rw [show k + 1 - (d + 1) - 1 = k - d - 1 by omega, List.append_assoc, List.replicate_succ]
    rfl
theorem ref_loop (l : List Int) (e : Nat) (hl : l.length ≤ 12) (he : e ≤ 100) : ∀ d k (i : Nat) (acc : List Int), l.length - i = d → i ≤ l.length → d * 200 < k → acc.length ≤ i * 100 → locklessref23_Alone.l0 k l e acc i = some (res e acc (l.drop i)) := by
  intro d
  induction d with
  | zero =>
    intro k i acc hd hi hk ha
    obtain ⟨k, rfl⟩ : ∃ m, k = m + 1 := ⟨k - 1, by omega⟩
    rw [locklessref23_Alone.l0, if_neg (by omega), List.drop_eq_nil_of_le (by omega)]
    simp [res, al]
  | succ d ih =>
    intro k i acc hd hi hk ha
    obtain ⟨k, rfl⟩ : ∃ m, k = m + 1 := ⟨k - 1, by omega⟩
    have hlt : i < l.length := by omega
    rw [locklessref23_Alone.l0, if_pos (by omega), if_pos (by omega), isThread_ref]
    simp only [Option.bind_some]
    rw [List.drop_eq_getElem_cons hlt, rd_get l i hlt]
    cases ht : thOk l[i]
    · rw [if_neg (by decide), res_bad _ _ _ _ ht]
    · rw [if_pos rfl]
      have := ref_inner l e i hlt hl he e k 0 acc (by omega) (by omega) (by omega) (by omega)
      rw [show ((0 : Nat) : Int) = 0 from rfl] at this
      rw [this, ih _ (i + 1) _ (by omega) (by omega) (by omega) (by simp; omega), res_good _ _ _ _ ht]
theorem res_facts (e : Nat) (l : List Int) (hp : l.length * e ≤ 600) : (res e [] l).1.length ≤ 600 ∧ ((res e [] l).2 = 0 → (∀ x ∈ (res e [] l).1, 0 ≤ thr x) ∧ swL (res e [] l).1 ≤ l.length) := by
  unfold res
  split
  · rename_i h
    rw [List.nil_append]
    refine ⟨by rw [al_len]; exact hp, fun _ => ⟨fun x hx => ?_, swL_al e l⟩⟩
    have := List.all_eq_true.1 h x (al_mem e l x hx)
    simp only [thOk, decide_eq_true_eq] at this
    unfold thr
    rw [if_pos this]
    exact this.1
  · exact ⟨by simp, fun h => absurd h (by simp)⟩
theorem alone (l : List Int) (e : Int) (h0 : -9223372036854775808 ≤ e) (h1 : e ≤ 9223372036854775807) : ∃ k, locklesslaw23_SchedAlone.f k l e = some true := by
  refine ⟨5001, ?_⟩
  unfold locklesslaw23_SchedAlone.f
  by_cases hl : (l.length : Int) > 1500
  · rw [if_pos hl, sane_some _ (by omega)]; rfl
  · rw [if_neg hl]
    have key : ∃ r : List Int × Int, sched_Alone.f 5001 l e = some r ∧ locklessref23_Alone.f 5001 l e = some r ∧ r.1.length ≤ 600 ∧ (r.2 = 0 → (∀ x ∈ r.1, 0 ≤ thr x) ∧ swL r.1 ≤ l.length) := by
      have hbad : ∀ b : Bool, b = true → sched_Alone.j0 5001 l e b = some ([], 1) := fun b hb => by rw [sched_Alone.j0, if_pos hb]
      have hbad2 : ∀ b : Bool, b = true → locklessref23_Alone.j0 5001 l e b = some ([], 1) := fun b hb => by rw [locklessref23_Alone.j0, if_pos hb]
      unfold sched_Alone.f locklessref23_Alone.f
      rw [upTo_some]
      simp only [Option.bind_some]
      by_cases a1 : (l.length : Int) > 12
      · rw [if_pos a1, if_pos a1, hbad _ rfl, hbad2 _ rfl]
        exact ⟨_, rfl, rfl, by simp, fun h => absurd h (by simp)⟩
      · rw [if_neg a1, if_neg a1]
        by_cases a2 : e < 0
        · rw [if_pos a2, hbad _ rfl, if_neg (by simp; omega), hbad2 _ rfl]
          exact ⟨_, rfl, rfl, by simp, fun h => absurd h (by simp)⟩
        · rw [if_neg a2]
          by_cases a3 : e > 100
          · rw [if_pos a3, hbad _ rfl, if_neg (by simp; omega), hbad2 _ rfl]
            exact ⟨_, rfl, rfl, by simp, fun h => absurd h (by simp)⟩
          · rw [if_neg a3, if_pos (by simp; omega)]
            obtain ⟨e, rfl⟩ := Int.eq_ofNat_of_zero_le (by omega : 0 ≤ e)
            have hm : ((l.length : Int) * (e : Int)) = ((l.length * e : Nat) : Int) := by push_cast; rfl
            have hb : l.length * e ≤ 12 * 100 := Nat.mul_le_mul (by omega) (by omega)
            rw [hm, wrap_id _ (by omega) (by omega)]
            by_cases a4 : ((l.length * e : Nat) : Int) > 600
            · rw [hbad _ (decide_eq_true a4), hbad2 _ (decide_eq_true a4)]
              exact ⟨_, rfl, rfl, by simp, fun h => absurd h (by simp)⟩
            · rw [decide_eq_false a4, sched_Alone.j0, if_neg (by decide), locklessref23_Alone.j0, if_neg (by decide)]
              have p := prog_loop l e (by omega) (by omega) l.length 5000 0 [] (by omega) (by omega) (by omega) (by simp)
              have q := ref_loop l e (by omega) (by omega) l.length 5000 0 [] (by omega) (by omega) (by omega) (by simp)
              rw [List.drop_zero] at p q
              exact ⟨_, p, q, res_facts e l (by omega)⟩
    obtain ⟨r, e1, e2, f1, f2⟩ := key
    rw [e1, e2]
    simp only [Option.bind_some, if_true]
    rw [ints_self _ _ (by omega) (by omega)]
    simp only [Option.bind_some]
    rw [locklesslaw23_SchedAlone.j0, if_neg (by decide)]
    by_cases hr : r.2 = 0
    · obtain ⟨g1, g2⟩ := f2 hr
      rw [if_pos hr, progSw _ _ f1 g1 (by omega)]
      simp only [Option.bind_some, if_true]
      rw [sched_Valid.f, valid_of _ f1 g1]
      simp only [Option.bind_some, if_true]
      rw [if_neg (by omega), sane_some _ (by omega)]
      rfl
    · rw [if_neg hr, sane_some _ (by omega)]
      rfl
end Go.Proofs.Ytefhhaccoeljmaa.XA
namespace Go.Proofs.Ytefhhaccoeljmaa.Pure
theorem SchedAlone : XA.locklesslaw23_SchedAlone.Pure := fun l e _ _ _ he => by
  have h : -9223372036854775808 ≤ e ∧ e ≤ 9223372036854775807 := by
    simp only [Lit.wf, Bool.and_eq_true, decide_eq_true_eq, IntKind.min, IntKind.max, IntKind.signed, IntKind.bits] at he
    exact he
  exact XA.alone l e h.1 h.2
end Go.Proofs.Ytefhhaccoeljmaa.Pure
