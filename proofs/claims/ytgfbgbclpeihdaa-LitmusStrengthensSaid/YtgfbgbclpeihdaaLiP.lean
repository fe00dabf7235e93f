/- Litmus programs in plain words: what is valid, all outcomes; plain lemmas; no condition. -/
import Derived.RowKit
namespace Go.Proofs.Ytgfbgbclpeihdaa.Li
set_option linter.unusedVariables false
set_option linter.unusedSimpArgs false
/-- An operation: kind, place, two numbers, order. -/
structure LOp where
  k : Int
  l : Int
  v : Int
  w : Int
  o : Int
instance : Inhabited LOp := ⟨⟨0, 0, 0, 0, 0⟩⟩
theorem LOp.ext' {a b : LOp} (h1 : a.k = b.k) (h2 : a.l = b.l) (h3 : a.v = b.v) (h4 : a.w = b.w) (h5 : a.o = b.o) : a = b := by
  cases a; cases b; simp_all
instance : DecidableEq LOp := fun a b =>
  if h : a.k = b.k ∧ a.l = b.l ∧ a.v = b.v ∧ a.w = b.w ∧ a.o = b.o then .isTrue (LOp.ext' h.1 h.2.1 h.2.2.1 h.2.2.2.1 h.2.2.2.2)
  else .isFalse (fun e => h (by rw [e]; exact ⟨rfl, rfl, rfl, rfl, rfl⟩))
def accL (x : LOp) : Bool := decide (0 ≤ x.k) && decide (x.k ≤ 4)
def rdL (x : LOp) : Bool := accL x && decide (x.k ≠ 1)
def mayL (k o : Int) : Bool := decide (0 ≤ k) && decide (k ≤ 5) && (decide (0 ≤ o) && decide (o ≤ 4)) &&
  (decide (k = 0 → o ≠ 2 ∧ o ≠ 3) && decide (k = 1 → o ≠ 1 ∧ o ≠ 3) && decide (k = 5 → o ≠ 0))
def fitL (x : LOp) : Bool := decide (0 ≤ x.l) && decide (x.l ≤ 2) &&
  (if x.k = 0 then decide (x.v = 0 ∧ x.w = 0) else if x.k = 1 then decide (0 ≤ x.v ∧ x.v ≤ 9 ∧ x.w = 0) else if x.k = 2 then decide (-9 ≤ x.v ∧ x.v ≤ 9 ∧ x.w = 0)
   else if x.k = 3 ∨ x.k = 4 then decide (0 ≤ x.v ∧ x.v ≤ 9 ∧ 0 ≤ x.w ∧ x.w ≤ 9) else if x.k = 5 then decide (x.l = 0 ∧ x.v = 0 ∧ x.w = 0) else false)
def okL (x : LOp) : Bool := mayL x.k x.o && fitL x
def b1 (b : Bool) : Nat := if b then 1 else 0
/-- Accesses, fences, writes to a place. -/
def nAcc (L : List LOp) : Nat := (L.map fun x => b1 (accL x)).sum
def fenW (x : LOp) : Nat := b1 (decide (x.k = 5)) + (b1 (accL x && decide (x.o = 4)) + b1 (accL x && decide (x.o = 4)))
def nFen (L : List LOp) : Nat := (L.map fenW).sum
def wrL (j : Int) (x : LOp) : Bool := accL x && decide (x.k ≠ 0) && decide (x.l = j)
def nWr (j : Int) (L : List LOp) : Nat := (L.map fun x => b1 (wrL j x)).sum
theorem nAcc_snoc (L : List LOp) (x : LOp) : nAcc (L ++ [x]) = nAcc L + b1 (accL x) := by simp [nAcc]
theorem nFen_snoc (L : List LOp) (x : LOp) : nFen (L ++ [x]) = nFen L + fenW x := by simp [nFen]
theorem nWr_snoc (j : Int) (L : List LOp) (x : LOp) : nWr j (L ++ [x]) = nWr j L + b1 (wrL j x) := by simp [nWr]
theorem nAcc_app (L M : List LOp) : nAcc (L ++ M) = nAcc L + nAcc M := by simp [nAcc]
theorem nFen_app (L M : List LOp) : nFen (L ++ M) = nFen L + nFen M := by simp [nFen]
theorem nWr_app (j : Int) (L M : List LOp) : nWr j (L ++ M) = nWr j L + nWr j M := by simp [nWr]
theorem b1_le (b : Bool) : b1 b ≤ 1 := by cases b <;> simp [b1]
theorem fenW_le (x : LOp) : fenW x ≤ 3 := by unfold fenW; have := b1_le (decide (x.k = 5)); have := b1_le (accL x && decide (x.o = 4)); omega
theorem nAcc_le (L : List LOp) : nAcc L ≤ L.length := by
  induction L with
  | nil => simp [nAcc]
  | cons x L ih => have := b1_le (accL x); simp only [nAcc, List.map_cons, List.sum_cons, List.length_cons] at *; omega
theorem nWr_le (j : Int) (L : List LOp) : nWr j L ≤ L.length := by
  induction L with
  | nil => simp [nWr]
  | cons x L ih => have := b1_le (wrL j x); simp only [nWr, List.map_cons, List.sum_cons, List.length_cons] at *; omega
theorem nFen_le (L : List LOp) : nFen L ≤ 3 * L.length := by
  induction L with
  | nil => simp [nFen]
  | cons x L ih => have := fenW_le x; simp only [nFen, List.map_cons, List.sum_cons, List.length_cons] at *; omega
def limL (P : List (List LOp)) : Bool := decide (P.length ≤ 3) && (decide (nAcc P.flatten ≤ 6) && decide (nFen P.flatten ≤ 8) && (decide (nWr 0 P.flatten ≤ 4) && decide (nWr 1 P.flatten ≤ 4) && decide (nWr 2 P.flatten ≤ 4)))
/-- The error of a program. -/
def checkL (P : List (List LOp)) : Int := if limL P = false then 2 else if P = [] then 1 else if P.flatten.all okL then 0 else 1
def readsL (P : List (List LOp)) : Nat := (P.flatten.map fun x => b1 (rdL x)).sum
/-- A point of an interleaving. -/
structure Mem where
  ws : List Int
  nx : List Nat
  rs : List (List Int)
def goesL (m : Mem) (t : Nat) (x : LOp) : List Mem :=
  if accL x = false then [⟨m.ws, m.nx.set t (m.nx.getD t 0 + 1), m.rs⟩]
  else if x.k = 1 then [⟨m.ws.set x.l.toNat x.v, m.nx.set t (m.nx.getD t 0 + 1), m.rs⟩]
  else if x.k = 2 then [⟨m.ws.set x.l.toNat (IntKind.i64.wrap (m.ws.getD x.l.toNat 0 + x.v)), m.nx.set t (m.nx.getD t 0 + 1), m.rs.set t (m.rs.getD t [] ++ [m.ws.getD x.l.toNat 0])⟩]
  else if (x.k = 3 ∨ x.k = 4) ∧ m.ws.getD x.l.toNat 0 = x.v then
    if x.k = 4 then [⟨m.ws, m.nx.set t (m.nx.getD t 0 + 1), m.rs.set t (m.rs.getD t [] ++ [m.ws.getD x.l.toNat 0])⟩, ⟨m.ws.set x.l.toNat x.w, m.nx.set t (m.nx.getD t 0 + 1), m.rs.set t (m.rs.getD t [] ++ [m.ws.getD x.l.toNat 0])⟩]
    else [⟨m.ws.set x.l.toNat x.w, m.nx.set t (m.nx.getD t 0 + 1), m.rs.set t (m.rs.getD t [] ++ [m.ws.getD x.l.toNat 0])⟩]
  else [⟨m.ws, m.nx.set t (m.nx.getD t 0 + 1), m.rs.set t (m.rs.getD t [] ++ [m.ws.getD x.l.toNat 0])⟩]
def outc (m : Mem) : List Int := m.rs.flatten ++ m.ws
/-- What comes of the threads from t on. -/
def fromT (P : List (List LOp)) (rec : Mem → List (List Int)) (m : Mem) : Nat → Nat → Bool → List (List Int)
  | 0, _, over => if over then [outc m] else []
  | k + 1, t, over =>
    if m.nx.getD t 0 = (P.getD t []).length then fromT P rec m k (t + 1) over
    else (goesL m t ((P.getD t []).getD (m.nx.getD t 0) default)).flatMap rec ++ (if accL ((P.getD t []).getD (m.nx.getD t 0) default) then fromT P rec m k (t + 1) false else [])
def outsL (P : List (List LOp)) : Nat → Mem → List (List Int)
  | 0, _ => []
  | f + 1, m => fromT P (outsL P f) m P.length 0 true
def mem0 : Mem := ⟨[0, 0, 0], [0, 0, 0], [[], [], []]⟩
def outAll (P : List (List LOp)) : List (List Int) := outsL P (P.flatten.length + 1) mem0
/-- Lists, one before the other. -/
def cmpL : List Int → List Int → Int
  | [], [] => 0
  | [], _ :: _ => -1
  | _ :: _, [] => 1
  | x :: a, y :: b => if x < y then -1 else if y < x then 1 else cmpL a b
theorem cmpL_self (a : List Int) : cmpL a a = 0 := by
  induction a with
  | nil => rfl
  | cons x a ih => simp [cmpL, ih]
theorem cmpL_zero : ∀ {a b : List Int}, cmpL a b = 0 → a = b
  | [], [], _ => rfl
  | [], _ :: _, h => by simp [cmpL] at h
  | _ :: _, [], h => by simp [cmpL] at h
  | x :: a, y :: b, h => by
    unfold cmpL at h
    split at h
    · simp at h
    split at h
    · simp at h
    · rw [cmpL_zero h, show x = y by omega]
theorem cmpL_neg : ∀ (a b : List Int), cmpL b a = - cmpL a b
  | [], [] => rfl
  | [], _ :: _ => rfl
  | _ :: _, [] => rfl
  | x :: a, y :: b => by
    unfold cmpL
    by_cases h1 : x < y
    · rw [if_pos h1, if_neg (by omega), if_pos h1]; rfl
    · by_cases h2 : y < x
      · rw [if_pos h2, if_neg h1, if_pos h2]
      · rw [if_neg h1, if_neg h2, if_neg h2, if_neg h1]; exact cmpL_neg a b
theorem cmpL_trans : ∀ {a b c : List Int}, cmpL a b < 0 → cmpL b c < 0 → cmpL a c < 0
  | [], [], _, h, _ => by simp [cmpL] at h
  | [], _ :: _, [], _, h => by simp [cmpL] at h
  | [], _ :: _, _ :: _, _, _ => by simp [cmpL]
  | _ :: _, [], _, h, _ => by simp [cmpL] at h
  | _ :: _, _ :: _, [], _, h => by simp [cmpL] at h
  | x :: a, y :: b, z :: c, h1, h2 => by
    unfold cmpL at h1 h2 ⊢
    split at h1
    · split at h2
      · rw [if_pos (by omega)]; decide
      · split at h2
        · simp at h2
        · rw [if_pos (by omega)]; decide
    · split at h1
      · simp at h1
      · split at h2
        · rw [if_pos (by omega)]; decide
        · split at h2
          · simp at h2
          · rw [if_neg (by omega), if_neg (by omega)]; exact cmpL_trans h1 h2
def AscL (R : List (List Int)) : Prop := R.Pairwise (fun a b => cmpL a b < 0)
theorem asc_unique : ∀ {R S : List (List Int)}, AscL R → AscL S → (∀ x, x ∈ R ↔ x ∈ S) → R = S
  | [], [], _, _, _ => rfl
  | [], s :: S, _, _, h => absurd ((h s).2 List.mem_cons_self) (by simp)
  | r :: R, [], _, _, h => absurd ((h r).1 List.mem_cons_self) (by simp)
  | r :: R, s :: S, hR, hS, h => by
    unfold AscL at hR hS
    rw [List.pairwise_cons] at hR hS
    have e : r = s := by
      rcases List.mem_cons.1 ((h r).1 List.mem_cons_self) with e | e
      · exact e
      rcases List.mem_cons.1 ((h s).2 List.mem_cons_self) with e2 | e2
      · exact e2.symm
      have h1 := hR.1 s e2
      have h2 := hS.1 r e
      have := cmpL_neg r s
      omega
    subst e
    have hne : ∀ x ∈ R, x ≠ r := fun x hx e => by have := hR.1 x hx; rw [e, cmpL_self] at this; omega
    have hne2 : ∀ x ∈ S, x ≠ r := fun x hx e => by have := hS.1 x hx; rw [e, cmpL_self] at this; omega
    rw [asc_unique (R := R) (S := S) hR.2 hS.2 (fun x => ⟨fun hx => by
      rcases List.mem_cons.1 ((h x).1 (List.mem_cons_of_mem _ hx)) with e | e
      · exact absurd e (hne x hx)
      · exact e, fun hx => by
      rcases List.mem_cons.1 ((h x).2 (List.mem_cons_of_mem _ hx)) with e | e
      · exact absurd e (hne2 x hx)
      · exact e⟩)]
end Go.Proofs.Ytgfbgbclpeihdaa.Li
