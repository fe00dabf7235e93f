/- Unions go: what unite and same tell, and the closure of what was united: plain lemmas; no condition. -/
import Derived.Test.YtiialjmpfeopjaaPwS
namespace Go.Proofs.Ytiialjmpfeopjaa.Sp
open Go.RowKit Go.Sort Go.Proofs.YtiialjmpfeopjaaW.PrintWords Go.Proofs.YtiialjmpfeopjaaW.PrintLast Go.Proofs.YtiialjmpfeopjaaW.PrintMore
set_option linter.unusedVariables false
set_option linter.unusedSimpArgs false
set_option maxRecDepth 100000
theorem at12 : ruleS 12 1 = some rule12 := by
  unfold ruleS
  rw [if_neg (by omega)]
  repeat' (first | rw [if_neg (by omega)] | rw [if_pos rfl])
/-- The closure's step k, as far as t cells. -/
def ph (k t : Nat) (f : Nat → Bool) : Nat → Bool := fun c => if c < t then f c || (f (8 * (c / 8) + k) && f (8 * k + c % 8)) else f c
def wk : Nat → (Nat → Bool) → Nat → Bool
  | 0, f => f
  | k + 1, f => ph k 64 (wk k f)
theorem ph_zero (k : Nat) (f : Nat → Bool) : ph k 0 f = f := by
  funext c; unfold ph; rw [if_neg (by omega)]
theorem ph_row (k t i : Nat) (f : Nat → Bool) (hk : k < 8) : ph k t f (8 * i + k) = f (8 * i + k) := by
  unfold ph
  have h1 : (8 * i + k) / 8 = i := by omega
  have h2 : (8 * i + k) % 8 = k := by omega
  rw [h1, h2]
  split
  · cases f (8 * i + k) <;> simp
  · rfl
theorem ph_col (k t j : Nat) (f : Nat → Bool) (hj : j < 8) : ph k t f (8 * k + j) = f (8 * k + j) := by
  unfold ph
  have h1 : (8 * k + j) / 8 = k := by omega
  have h2 : (8 * k + j) % 8 = j := by omega
  rw [h1, h2]
  split
  · cases f (8 * k + j) <;> simp
  · rfl
theorem ph_step (k i j : Nat) (f : Nat → Bool) (hk : k < 8) (hj : j < 8) :
    upd (ph k (8 * i + j) f) (8 * i + j) (ph k (8 * i + j) f (8 * i + j) || (ph k (8 * i + j) f (8 * i + k) && ph k (8 * i + j) f (8 * k + j))) = ph k (8 * i + j + 1) f := by
  rw [ph_row _ _ _ _ hk, ph_col _ _ _ _ hj]
  funext c
  unfold upd
  by_cases h : c = 8 * i + j
  · rw [if_pos h]
    subst h
    unfold ph
    have h1 : (8 * i + j) / 8 = i := by omega
    have h2 : (8 * i + j) % 8 = j := by omega
    rw [if_neg (by omega), if_pos (by omega), h1, h2]
  · rw [if_neg h]
    unfold ph
    by_cases h2 : c < 8 * i + j
    · rw [if_pos h2, if_pos (by omega)]
    · rw [if_neg h2, if_neg (by omega)]
/-- Goes on by way of all numbers below m. -/
def Tr (m : Nat) (f : Nat → Bool) : Prop := ∀ k, k < m → ∀ i j, i < 8 → j < 8 → f (8 * i + k) = true → f (8 * k + j) = true → f (8 * i + j) = true
theorem ph_at (k i j : Nat) (f : Nat → Bool) (hi : i < 8) (hj : j < 8) : ph k 64 f (8 * i + j) = (f (8 * i + j) || (f (8 * i + k) && f (8 * k + j))) := by
  unfold ph
  have h1 : (8 * i + j) / 8 = i := by omega
  have h2 : (8 * i + j) % 8 = j := by omega
  rw [if_pos (by omega), h1, h2]
theorem tr_step (k : Nat) (f : Nat → Bool) (hk : k < 8) (h : Tr k f) : Tr (k + 1) (ph k 64 f) := by
  intro m hm i j hi hj h1 h2
  have hm8 : m < 8 := by omega
  rw [ph_at _ _ _ _ hi hm8, Bool.or_eq_true, Bool.and_eq_true] at h1
  rw [ph_at _ _ _ _ hm8 hj, Bool.or_eq_true, Bool.and_eq_true] at h2
  rw [ph_at _ _ _ _ hi hj, Bool.or_eq_true, Bool.and_eq_true]
  by_cases e : m = k
  · subst e
    right
    exact ⟨h1.elim id (·.1), h2.elim id (·.2)⟩
  · have hmk : m < k := by omega
    rcases h1 with h1 | ⟨h1, h3⟩
    · rcases h2 with h2 | ⟨h2, h4⟩
      · exact .inl (h m hmk i j hi hj h1 h2)
      · exact .inr ⟨h m hmk i k hi hk h1 h2, h4⟩
    · rcases h2 with h2 | ⟨h2, h4⟩
      · exact .inr ⟨h1, h m hmk k j hk hj h3 h2⟩
      · exact .inr ⟨h1, h4⟩
theorem wk_tr : ∀ (k : Nat) (f : Nat → Bool), k ≤ 8 → Tr k (wk k f)
  | 0, f, _ => fun k hk => by omega
  | k + 1, f, h => tr_step k _ (by omega) (wk_tr k f (by omega))
theorem wk_sub : ∀ (k : Nat) (f : Nat → Bool) (c : Nat), f c = true → wk k f c = true
  | 0, f, c, h => h
  | k + 1, f, c, h => by
    have := wk_sub k f c h
    show ph k 64 (wk k f) c = true
    unfold ph
    rw [this]
    split <;> rfl
theorem wk_in (r : Nat → Nat) (f : Nat → Bool) (hf : ∀ i j, i < 8 → j < 8 → f (8 * i + j) = true → r i = r j) : ∀ k, k ≤ 8 → ∀ i j, i < 8 → j < 8 → wk k f (8 * i + j) = true → r i = r j
  | 0, _, i, j, hi, hj, h => hf i j hi hj h
  | k + 1, hk, i, j, hi, hj, h => by
    have h : ph k 64 (wk k f) (8 * i + j) = true := h
    rw [ph_at _ _ _ _ hi hj, Bool.or_eq_true, Bool.and_eq_true] at h
    rcases h with h | ⟨h1, h2⟩
    · exact wk_in r f hf k (by omega) i j hi hj h
    · exact (wk_in r f hf k (by omega) i k hi (by omega) h1).trans (wk_in r f hf k (by omega) k j (by omega) hj h2)
/-- Every relation that holds what is near, and goes on, holds these two. -/
def Con (f : Nat → Bool) (a b : Nat) : Prop := ∀ T : Nat → Nat → Prop, (∀ i j, i < 8 → j < 8 → f (8 * i + j) = true → T i j) → (∀ i j k, i < 8 → j < 8 → k < 8 → T i j → T j k → T i k) → T a b
theorem Con.of {f : Nat → Bool} {a b : Nat} (ha : a < 8) (hb : b < 8) (h : f (8 * a + b) = true) : Con f a b := fun T h1 _ => h1 a b ha hb h
theorem Con.trans {f : Nat → Bool} {a b c : Nat} (ha : a < 8) (hb : b < 8) (hc : c < 8) (h1 : Con f a b) (h2 : Con f b c) : Con f a c := fun T t1 t2 => t2 a b c ha hb hc (h1 T t1 t2) (h2 T t1 t2)
theorem Con.symm {f : Nat → Bool} {a b : Nat} (hs : ∀ i j, i < 8 → j < 8 → f (8 * i + j) = f (8 * j + i)) (h : Con f a b) : Con f b a := fun T t1 t2 =>
  h (fun i j => T j i) (fun i j hi hj e => t1 j i hj hi (by rw [hs j i hj hi]; exact e)) (fun i j k hi hj hk e1 e2 => t2 k j i hk hj hi e2 e1)
theorem Con.mono {f g : Nat → Bool} {a b : Nat} (hfg : ∀ c, f c = true → g c = true) (h : Con f a b) : Con g a b := fun T t1 t2 => h T (fun i j hi hj e => t1 i j hi hj (hfg _ e)) t2
theorem Con.wk {f : Nat → Bool} {a b : Nat} (h : Con f a b) : wk 8 f (8 * a + b) = true :=
  h (fun i j => Sp.wk 8 f (8 * i + j) = true) (fun i j _ _ e => wk_sub 8 f _ e) (fun i j k hi hj hk e1 e2 => wk_tr 8 f (Nat.le_refl _) j hj i k hi hk e1 e2)
/-- How many of the first n a test has. -/
def cntP (p : Nat → Bool) : Nat → Nat
  | 0 => 0
  | n + 1 => cntP p n + (if p n = true then 1 else 0)
theorem cntP_congr {p q : Nat → Bool} : ∀ n, (∀ i, i < n → p i = q i) → cntP p n = cntP q n
  | 0, _ => rfl
  | n + 1, h => by
    unfold cntP
    rw [cntP_congr n (fun i hi => h i (by omega)), h n (by omega)]
theorem cntP_off {p q : Nat → Bool} (m : Nat) (hp : p m = false) (hq : q m = true) : ∀ n, (∀ i, i < n → i ≠ m → p i = q i) → cntP p n + (if m < n then 1 else 0) = cntP q n
  | 0, _ => rfl
  | n + 1, h => by
    have ih := cntP_off m hp hq n (fun i hi => h i (by omega))
    unfold cntP
    by_cases e : n = m
    · subst e
      rw [hp, hq, if_pos (Nat.lt_succ_self n), if_pos rfl, if_neg (by simp)]
      rw [if_neg (by omega)] at ih
      omega
    · rw [h n (by omega) e]
      by_cases e2 : m < n
      · rw [if_pos (show m < n + 1 by omega)]
        rw [if_pos e2] at ih
        omega
      · rw [if_neg (show ¬ m < n + 1 by omega)]
        rw [if_neg e2] at ih
        omega
theorem cntP_le (p : Nat → Bool) : ∀ n, cntP p n ≤ n
  | 0 => Nat.le_refl _
  | n + 1 => by
    have := cntP_le p n
    unfold cntP
    split <;> omega
/-- The least number of each one's set. -/
def lst (r : Nat → Nat) : List Int := (List.range 8).map fun i => (r i : Int)
theorem lst_at (r : Nat → Nat) (i : Nat) (h : i < 8) : (lst r).getD i 0 = (r i : Int) := by
  unfold lst
  rw [List.getD_eq_getElem?_getD, List.getElem?_map, List.getElem?_range h]
  rfl
theorem lst_len (r : Nat → Nat) : (lst r).length = 8 := by unfold lst; rw [List.length_map, List.length_range]
structure UniI (r : Nat → Nat) (f : Nat → Bool) (n : Nat) : Prop where
  le : ∀ i, i < 8 → r i ≤ i
  idem : ∀ i, i < 8 → r (r i) = r i
  refl : ∀ i, i < 8 → f (8 * i + i) = true
  symm : ∀ i j, i < 8 → j < 8 → f (8 * i + j) = f (8 * j + i)
  sound : ∀ i j, i < 8 → j < 8 → f (8 * i + j) = true → r i = r j
  full : ∀ i j, i < 8 → j < 8 → r i = r j → Con f i j
  cnt : n + cntP (fun i => decide (r i = i)) 8 = 8
theorem uni_good {r : Nat → Nat} {f : Nat → Bool} {n : Nat} (h : UniI r f n) : rule12.good (lst r) = true := by
  show (exactlyB 8 0 7 (lst r) && (List.range (lst r).length).all (leastB (lst r))) = true
  have h1 : exactlyB 8 0 7 (lst r) = true := by
    unfold exactlyB
    rw [lst_len, Bool.and_eq_true]
    refine ⟨by decide, ?_⟩
    rw [inB_iff]
    intro x hx
    obtain ⟨i, hi, rfl⟩ := List.mem_map.1 hx
    have h8 := List.mem_range.1 hi
    have := h.le i h8
    omega
  rw [h1, Bool.true_and, List.all_eq_true]
  intro i hi
  rw [lst_len] at hi
  have h8 := List.mem_range.1 hi
  have hl := h.le i h8
  unfold leastB
  rw [lst_at r i h8, Int.toNat_natCast, lst_at r (r i) (by omega), h.idem i h8, Bool.and_eq_true]
  exact ⟨decide_eq_true (by omega), by simp⟩
def diag (m : Nat) : Nat → Bool := fun c => decide (c / 8 = c % 8) && decide (c / 8 < m)
def link (f : Nat → Bool) (a b : Nat) : Nat → Bool := upd (upd f (8 * a + b) true) (8 * b + a) true
theorem link_sub (f : Nat → Bool) (a b c : Nat) (h : f c = true) : link f a b c = true := by
  unfold link upd
  split
  · rfl
  · split
    · rfl
    · exact h
theorem link_iff (f : Nat → Bool) (a b i j : Nat) (ha : a < 8) (hb : b < 8) (hi : i < 8) (hj : j < 8) : link f a b (8 * i + j) = true ↔ f (8 * i + j) = true ∨ (i = a ∧ j = b) ∨ (i = b ∧ j = a) := by
  unfold link upd
  split
  · rename_i e
    constructor
    · intro _; exact .inr (.inr (by omega))
    · intro _; rfl
  · split
    · rename_i e
      constructor
      · intro _; exact .inr (.inl (by omega))
      · intro _; rfl
    · rename_i e1 e2
      constructor
      · intro h; exact .inl h
      · rintro (h | ⟨rfl, rfl⟩ | ⟨rfl, rfl⟩)
        · exact h
        · exact absurd rfl e2
        · exact absurd rfl e1
theorem uni_start : UniI id (diag 8) 0 where
  le i _ := Nat.le_refl _
  idem i _ := rfl
  refl i hi := by
    unfold diag
    have h1 : (8 * i + i) / 8 = i := by omega
    have h2 : (8 * i + i) % 8 = i := by omega
    rw [h1, h2]
    simp [hi]
  symm i j hi hj := by
    unfold diag
    have h1 : (8 * i + j) / 8 = i := by omega
    have h2 : (8 * i + j) % 8 = j := by omega
    have h3 : (8 * j + i) / 8 = j := by omega
    have h4 : (8 * j + i) % 8 = i := by omega
    rw [h1, h2, h3, h4]
    by_cases e : i = j
    · subst e; rfl
    · simp [e, Ne.symm e]
  sound i j hi hj h := by
    unfold diag at h
    have h1 : (8 * i + j) / 8 = i := by omega
    have h2 : (8 * i + j) % 8 = j := by omega
    rw [h1, h2, Bool.and_eq_true] at h
    exact of_decide_eq_true h.1
  full i j hi hj h := by
    have e : i = j := h
    subst e
    refine Con.of hi hi ?_
    unfold diag
    have h1 : (8 * i + i) / 8 = i := by omega
    have h2 : (8 * i + i) % 8 = i := by omega
    rw [h1, h2]
    simp [hi]
  cnt := rfl
theorem link_symm {f : Nat → Bool} {a b : Nat} (ha : a < 8) (hb : b < 8) (h : ∀ i j, i < 8 → j < 8 → f (8 * i + j) = f (8 * j + i)) : ∀ i j, i < 8 → j < 8 → link f a b (8 * i + j) = link f a b (8 * j + i) := by
  intro i j hi hj
  rw [Bool.eq_iff_iff, link_iff f a b i j ha hb hi hj, link_iff f a b j i ha hb hj hi, h i j hi hj]
  constructor
  · rintro (h | ⟨h1, h2⟩ | ⟨h1, h2⟩)
    · exact .inl h
    · exact .inr (.inr ⟨h2, h1⟩)
    · exact .inr (.inl ⟨h2, h1⟩)
  · rintro (h | ⟨h1, h2⟩ | ⟨h1, h2⟩)
    · exact .inl h
    · exact .inr (.inr ⟨h2, h1⟩)
    · exact .inr (.inl ⟨h2, h1⟩)
def joinN (a b x : Nat) : Nat := if x = max a b then min a b else x
theorem uni_same {r : Nat → Nat} {f : Nat → Bool} {n : Nat} (h : UniI r f n) {a b : Nat} (ha : a < 8) (hb : b < 8) (e : r a = r b) : UniI r (link f a b) n where
  le := h.le
  idem := h.idem
  refl i hi := link_sub _ _ _ _ (h.refl i hi)
  symm := link_symm ha hb h.symm
  sound i j hi hj q := by
    rcases (link_iff f a b i j ha hb hi hj).1 q with q | ⟨rfl, rfl⟩ | ⟨rfl, rfl⟩
    · exact h.sound i j hi hj q
    · exact e
    · exact e.symm
  full i j hi hj q := (h.full i j hi hj q).mono (link_sub f a b)
  cnt := h.cnt
theorem uni_join {r : Nat → Nat} {f : Nat → Bool} {n : Nat} (h : UniI r f n) {a b : Nat} (ha : a < 8) (hb : b < 8) (e : r a ≠ r b) : UniI (fun i => joinN (r a) (r b) (r i)) (link f a b) (n + 1) := by
  have hla := h.le a ha
  have hlb := h.le b hb
  have hia := h.idem a ha
  have hib := h.idem b hb
  have hmax : r (max (r a) (r b)) = max (r a) (r b) := by
    rcases Nat.le_total (r a) (r b) with q | q
    · rw [Nat.max_eq_right q]; exact hib
    · rw [Nat.max_eq_left q]; exact hia
  have hmin : r (min (r a) (r b)) = min (r a) (r b) := by
    rcases Nat.le_total (r a) (r b) with q | q
    · rw [Nat.min_eq_left q]; exact hia
    · rw [Nat.min_eq_right q]; exact hib
  have hlt : min (r a) (r b) < max (r a) (r b) := by omega
  have hsy := link_symm ha hb h.symm (f := f)
  have ca : Con (link f a b) a b := Con.of ha hb ((link_iff f a b a b ha hb ha hb).2 (.inr (.inl ⟨rfl, rfl⟩)))
  have cb : Con (link f a b) b a := ca.symm hsy
  have hfull : ∀ i j, i < 8 → j < 8 → r i = r j → Con (link f a b) i j := fun i j hi hj q => (h.full i j hi hj q).mono (link_sub f a b)
  have hcross : ∀ i j, i < 8 → j < 8 → r i = r a → r j = r b → Con (link f a b) i j := fun i j hi hj q1 q2 =>
    ((hfull i a hi ha q1).trans hi ha hb ca).trans hi hb hj (hfull b j hb hj q2.symm)
  have hcross2 : ∀ i j, i < 8 → j < 8 → r i = r b → r j = r a → Con (link f a b) i j := fun i j hi hj q1 q2 =>
    ((hfull i b hi hb q1).trans hi hb ha cb).trans hi ha hj (hfull a j ha hj q2.symm)
  refine ⟨fun i hi => ?_, fun i hi => ?_, fun i hi => link_sub _ _ _ _ (h.refl i hi), hsy, fun i j hi hj q => ?_, fun i j hi hj q => ?_, ?_⟩
  · have := h.le i hi
    show joinN (r a) (r b) (r i) ≤ i
    unfold joinN
    split <;> omega
  · show joinN (r a) (r b) (r (joinN (r a) (r b) (r i))) = joinN (r a) (r b) (r i)
    unfold joinN
    by_cases q : r i = max (r a) (r b)
    · rw [if_pos q, hmin, if_neg (by omega)]
    · rw [if_neg q, h.idem i hi, if_neg q]
  · show joinN (r a) (r b) (r i) = joinN (r a) (r b) (r j)
    rcases (link_iff f a b i j ha hb hi hj).1 q with q | ⟨rfl, rfl⟩ | ⟨rfl, rfl⟩
    · rw [h.sound i j hi hj q]
    · unfold joinN
      split <;> split <;> omega
    · unfold joinN
      split <;> split <;> omega
  · have q : joinN (r a) (r b) (r i) = joinN (r a) (r b) (r j) := q
    unfold joinN at q
    by_cases h1 : r i = max (r a) (r b)
    · rw [if_pos h1] at q
      by_cases h2 : r j = max (r a) (r b)
      · exact hfull i j hi hj (h1.trans h2.symm)
      · rw [if_neg h2] at q
        rcases Nat.le_total (r a) (r b) with z | z
        · exact hcross2 i j hi hj (by omega) (by omega)
        · exact hcross i j hi hj (by omega) (by omega)
    · rw [if_neg h1] at q
      by_cases h2 : r j = max (r a) (r b)
      · rw [if_pos h2] at q
        rcases Nat.le_total (r a) (r b) with z | z
        · exact hcross i j hi hj (by omega) (by omega)
        · exact hcross2 i j hi hj (by omega) (by omega)
      · rw [if_neg h2] at q
        exact hfull i j hi hj q
  · have hm8 : max (r a) (r b) < 8 := by omega
    have := cntP_off (p := fun i => decide (joinN (r a) (r b) (r i) = i)) (q := fun i => decide (r i = i)) (max (r a) (r b)) (by
      show decide (joinN (r a) (r b) (r (max (r a) (r b))) = max (r a) (r b)) = false
      rw [hmax]
      unfold joinN
      rw [if_pos rfl]
      exact decide_eq_false (by omega)) (decide_eq_true hmax) 8 (fun i hi q => by
      show decide (joinN (r a) (r b) (r i) = i) = decide (r i = i)
      have := h.le i hi
      unfold joinN
      by_cases h1 : r i = max (r a) (r b)
      · rw [if_pos h1, decide_eq_false (by omega), decide_eq_false (by omega)]
      · rw [if_neg h1])
    rw [if_pos hm8] at this
    have hc := h.cnt
    omega
def uniteB : ByteArray := ⟨#[117, 110, 105, 116, 101]⟩
def sameB : ByteArray := ⟨#[115, 97, 109, 101]⟩
theorem nm_uni : decide (uniteB.toList = sameB.toList) = false := by decide +kernel
theorem takes_two {nm : ByteArray} {lo hi thr : Int} {rd : Bool} {pre : List Int → Int → Int → Int → Prop} {D : Deed} {x y : Int} (h0 : lo ≤ x) (h1 : x ≤ hi) (h2 : lo ≤ y) (h3 : y ≤ hi) : takesB ⟨nm, 2, lo, hi, thr, rd, pre, D⟩ x y = true := by
  simp [takesB, argB, h0, h1, h2, h3]
theorem lst_join (r : Nat → Nat) (a b : Nat) : (lst r).map (joinI (a : Int) (b : Int)) = lst (fun i => joinN a b (r i)) := by
  unfold lst
  rw [List.map_map]
  refine List.map_congr_left fun i _ => ?_
  show joinI (a : Int) (b : Int) (r i : Int) = ((joinN a b (r i) : Nat) : Int)
  unfold joinI joinN
  split <;> split <;> omega
theorem unite_do {r : Nat → Nat} {f : Nat → Bool} {n : Nat} (h : UniI r f n) {a b : Nat} (ha : a < 8) (hb : b < 8) :
    ∃ r' k, UniI r' (link f a b) (n + k) ∧ k ≤ 1 ∧ doS 12 1 (lst r) uniteB a b 0 = some (lst r', (k : Int), 0) := by
  have hact : actS rule12.acts uniteB (a : Int) (b : Int) 0 = some ⟨uniteB, 2, 0, 7, 4, false, uniPre, unionD uniteF⟩ :=
    act_first (does_true (by simp [uniteB]) (takes_two (by omega) (by omega) (by omega) (by omega)) (by decide) (show (0 : Int) < 4 by decide))
  have hD : unionD uniteF (lst r) (a : Int) (b : Int) 0 = uniteF (lst r) (r a) (r b) := by
    unfold unionD
    rw [Int.toNat_natCast, Int.toNat_natCast, lst_at r a ha, lst_at r b hb]
  by_cases e : r a = r b
  · refine ⟨r, 0, uni_same h ha hb e, by omega, do_step (rest := []) at12 (uni_good h) hact ?_ (uni_good h)⟩
    show unionD uniteF (lst r) (a : Int) (b : Int) 0 = _
    rw [hD]
    unfold uniteF
    rw [if_pos (by omega)]
    rfl
  · refine ⟨_, 1, uni_join h ha hb e, by omega, do_step (rest := []) at12 (uni_good h) hact ?_ (uni_good (uni_join h ha hb e))⟩
    show unionD uniteF (lst r) (a : Int) (b : Int) 0 = _
    rw [hD]
    unfold uniteF
    rw [if_neg (by omega), lst_join]
    rfl
theorem same_do {r : Nat → Nat} {f : Nat → Bool} {n : Nat} (h : UniI r f n) {a b : Nat} (ha : a < 8) (hb : b < 8) :
    doS 12 1 (lst r) sameB a b 0 = some (lst r, if r a = r b then 1 else 0, 0) := by
  have hact : actS rule12.acts sameB (a : Int) (b : Int) 0 = some ⟨sameB, 2, 0, 7, 4, true, uniPre, unionD sameF⟩ :=
    (act_next (does_false nm_uni)).trans (act_first (does_true (by simp [sameB]) (takes_two (by omega) (by omega) (by omega) (by omega)) (by decide) (show (0 : Int) < 4 by decide)))
  refine do_step (rest := []) at12 (uni_good h) hact ?_ (uni_good h)
  show unionD sameF (lst r) (a : Int) (b : Int) 0 = _
  unfold unionD
  rw [Int.toNat_natCast, Int.toNat_natCast, lst_at r a ha, lst_at r b hb]
  unfold sameF
  by_cases e : r a = r b
  · rw [if_pos (by omega), if_pos e]
  · rw [if_neg (by omega), if_neg e]
def uniC (q : Nat × Nat) : CallT := (uniteB, (q.1 : Int), (q.2 : Int))
def nearS (qs : List (Nat × Nat)) (f : Nat → Bool) : Nat → Bool := qs.foldl (fun g q => link g q.1 q.2) f
theorem nearS_snoc (qs : List (Nat × Nat)) (q : Nat × Nat) (f : Nat → Bool) : nearS (qs ++ [q]) f = link (nearS qs f) q.1 q.2 := by
  unfold nearS; rw [List.foldl_append]; rfl
def sumI : List Int → Int
  | [] => 0
  | a :: l => a + sumI l
theorem unis_go : ∀ (qs : List (Nat × Nat)) (r : Nat → Nat) (f : Nat → Bool) (n : Nat), (∀ q ∈ qs, q.1 < 8 ∧ q.2 < 8) → UniI r f n →
    ∃ r' n' out, UniI r' (nearS qs f) n' ∧ Goes 12 1 (qs.map uniC) (lst r) out (lst r') ∧ (∀ o ∈ out, 0 ≤ o ∧ o ≤ 1) ∧ (n' : Int) = n + sumI out
  | [], r, f, n, _, h => ⟨r, n, [], h, ⟨rfl, rfl⟩, (fun o ho => by cases ho), by unfold sumI; omega⟩
  | q :: qs, r, f, n, hq, h => by
    obtain ⟨h1, h2⟩ := hq q (List.mem_cons_self ..)
    obtain ⟨r1, k, hI, hk, hd⟩ := unite_do h h1 h2
    obtain ⟨r', n', out, hI', hg, ho, hs⟩ := unis_go qs r1 _ _ (fun z hz => hq z (List.mem_cons_of_mem _ hz)) hI
    refine ⟨r', n', (k : Int) :: out, hI', Goes.cons hd (by rw [lst_len]; omega) hg, fun o h => ?_, ?_⟩
    · rcases List.mem_cons.1 h with e | e
      · subst e; omega
      · exact ho o e
    · unfold sumI
      omega
def firstP (f : Nat → Bool) (i : Nat) : Nat → Bool
  | 0 => true
  | j + 1 => firstP f i j && !f (8 * i + j)
theorem firstP_iff (f : Nat → Bool) (i : Nat) : ∀ m, firstP f i m = true ↔ ∀ j, j < m → f (8 * i + j) = false
  | 0 => by simp [firstP]
  | m + 1 => by
    unfold firstP
    rw [Bool.and_eq_true, firstP_iff f i m, Bool.not_eq_true']
    constructor
    · rintro ⟨h1, h2⟩ j hj
      by_cases e : j = m
      · subst e; exact h2
      · exact h1 j (by omega)
    · intro h
      exact ⟨fun j hj => h j (by omega), h m (by omega)⟩
theorem wk_uni {r : Nat → Nat} {f : Nat → Bool} {n : Nat} (h : UniI r f n) (i j : Nat) (hi : i < 8) (hj : j < 8) : wk 8 f (8 * i + j) = decide (r i = r j) := by
  by_cases e : r i = r j
  · rw [decide_eq_true e]; exact (h.full i j hi hj e).wk
  · rw [decide_eq_false e, Bool.eq_false_iff]
    exact fun q => e (wk_in r f h.sound 8 (Nat.le_refl _) i j hi hj q)
theorem first_uni {r : Nat → Nat} {f : Nat → Bool} {n : Nat} (h : UniI r f n) (i : Nat) (hi : i < 8) : firstP (wk 8 f) i i = decide (r i = i) := by
  have hl := h.le i hi
  rw [Bool.eq_iff_iff, firstP_iff, decide_eq_true_iff]
  constructor
  · intro q
    by_cases e : r i = i
    · exact e
    · have := q (r i) (by omega)
      rw [wk_uni h i (r i) hi (by omega), h.idem i hi, decide_eq_true rfl] at this
      cases this
  · intro e j hj
    rw [wk_uni h i j hi (by omega)]
    have := h.le j (by omega)
    exact decide_eq_false (by omega)
theorem unions_run (qs : List (Nat × Nat)) (hl : qs.length ≤ 20) (hq : ∀ q ∈ qs, q.1 < 8 ∧ q.2 < 8) (x y : Nat) (hx : x < 8) (hy : y < 8) :
    ∃ (out : List Int) (v : Int) (s' : List Int), runS 12 1 (qs.map uniC ++ [(sameB, (x : Int), (y : Int))]) = some (out ++ [v], s', 0) ∧ out.length = qs.length ∧ (∀ o ∈ out, 0 ≤ o ∧ o ≤ 1) ∧
      sumI out = 8 - (cntP (fun i => firstP (wk 8 (nearS qs (diag 8))) i i) 8 : Nat) ∧ decide (v = 1) = wk 8 (nearS qs (diag 8)) (8 * x + y) := by
  obtain ⟨r', n', out, hI, hg, ho, hs⟩ := unis_go qs id (diag 8) 0 hq uni_start
  refine ⟨out, if r' x = r' y then 1 else 0, lst r', goes_run at12 (by simp [rule12]) (by simp; omega) (Goes.append (show Goes 12 1 (qs.map uniC) [0, 1, 2, 3, 4, 5, 6, 7] out (lst r') from hg) (Goes.one (same_do hI hx hy) (by rw [lst_len]; omega))), ?_, ho, ?_, ?_⟩
  · have := hg.len
    rw [this, List.length_map]
  · have h1 := cntP_congr (p := fun i => firstP (wk 8 (nearS qs (diag 8))) i i) (q := fun i => decide (r' i = i)) 8 (fun i hi => first_uni hI i hi)
    have h2 := hI.cnt
    rw [h1]
    omega
  · rw [wk_uni hI x y hx hy]
    by_cases e : r' x = r' y
    · rw [if_pos e]; simp [e]
    · rw [if_neg e]; simp [e]
end Go.Proofs.Ytiialjmpfeopjaa.Sp
