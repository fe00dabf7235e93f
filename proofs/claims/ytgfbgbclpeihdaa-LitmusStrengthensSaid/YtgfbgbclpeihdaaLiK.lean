/- One step of an interleaving: what it computes is the plain step: plain lemmas; no condition. -/
import Derived.Test.YtgfbgbclpeihdaaLiJ
namespace Go.Proofs.Ytgfbgbclpeihdaa.Li
open Go.RowKit Go.Proofs.YtgfbgbclpeihdaaW.PrintWords Go.Proofs.YtgfbgbclpeihdaaW.PrintLast Go.Proofs.YtgfbgbclpeihdaaW.PrintMore
set_option linter.unusedVariables false
set_option linter.unusedSimpArgs false
set_option maxHeartbeats 8000000
set_option maxRecDepth 100000
def memP (ws : List Int) (nx : List Nat) (X : Nat → List Int) : Mem := ⟨ws, nx, [X 0, X 1, X 2]⟩
theorem rs_upd (X : Nat → List Int) {t : Nat} (ht : t < 3) (y : List Int) : [X 0, X 1, X 2].set t y = [upd X t y 0, upd X t y 1, upd X t y 2] := by
  rcases lt3 ht with rfl | rfl | rfl <;> rfl
theorem rs_get (X : Nat → List Int) {t : Nat} (ht : t < 3) : [X 0, X 1, X 2].getD t [] = X t := by
  rcases lt3 ht with rfl | rfl | rfl <;> rfl
theorem goes_calls (ws : List Int) (nx : List Nat) (A : Nat → Option Addr) (C : Nat → Nat) (X : Nat → List Int) (t : Nat) (x : LOp) (w : World) (base : Nat) (hok : okL x = true) (ht : t < 3) (hn : nx.length = 3) (hw : ws.length = 3) (hb : nAt nx t ≤ 1000000) (hR : RMs w base A C X) (hbase : base ≤ w.heap.size) (hx : ∀ k, k < 3 → (X k).length ≤ nAt nx k ∧ nAt nx k ≤ 100000) :
    Calls Try.prog 37 #[.agg (memA ws nx A C X), .int .i64 t, .agg #[.int .i64 x.k, .int .i64 x.l, .int .i64 x.v, .int .i64 x.w, .int .i64 x.o]] w fun e w' => ∃ v' R A1 C1 X1, e = .returned v' ∧ Nexts w' v' w.heap.size R (nx.set t (nAt nx t + 1)) A1 C1 X1 ∧ RMs w' base A1 C1 X1 ∧ Below w.heap.size w w' ∧ goesL (memP ws nx X) t x = R.map (fun z => memP z (nx.set t (nAt nx t + 1)) X1) ∧ (∀ z ∈ R, z.length = 3) ∧ (R.length = 1 ∨ R.length = 2) ∧ (∀ k, k < 3 → (X1 k).length ≤ nAt (nx.set t (nAt nx t + 1)) k) := by
  obtain ⟨k, l, v, u, o⟩ := x
  have hX1 : ∀ j, j < 3 → (X j).length ≤ nAt (nx.set t (nAt nx t + 1)) j := fun j hj => by
    have := (hx j hj).1
    by_cases e : t = j
    · subst e
      have e2 : nAt (nx.set t (nAt nx t + 1)) t = nAt nx t + 1 := by unfold nAt; simp [hn, ht]
      omega
    · have e2 : nAt (nx.set t (nAt nx t + 1)) j = nAt nx j := by unfold nAt; simp [List.getElem?_set_ne e]
      omega
  have hX2 : ∀ a, ∀ j, j < 3 → (upd X t (X t ++ [a]) j).length ≤ nAt (nx.set t (nAt nx t + 1)) j := fun a j hj => by
    unfold upd
    by_cases e : j = t
    · subst e
      rw [if_pos rfl]
      have := (hx j hj).1
      have e2 : nAt (nx.set j (nAt nx j + 1)) j = nAt nx j + 1 := by unfold nAt; simp [hn, hj]
      rw [e2, List.length_append, List.length_singleton]
      omega
    · rw [if_neg e]; exact hX1 j hj
  have hxl : ∀ k, k < 3 → (X k).length ≤ 100000 := fun k hk => by have := hx k hk; omega
  by_cases hacc : accL ⟨k, l, v, u, o⟩ = true
  · have hfit : 0 ≤ l ∧ l ≤ 2 := by
      unfold okL fitL at hok
      simp only [Bool.and_eq_true, decide_eq_true_eq] at hok
      exact hok.2.1
    obtain ⟨n, rfl⟩ : ∃ n : Nat, l = (n : Int) := ⟨l.toNat, by omega⟩
    have hn3 : n < 3 := by omega
    by_cases h1 : k = 1
    · subst h1
      refine (goes_store ws nx A C X t n v u o w base ht hn3 hn hw hb hR hbase hxl).mono ?_
      rintro e w' ⟨v', rfl, h1, h2, h3⟩
      refine ⟨v', _, A, C, X, rfl, h1, h2, h3, ?_, by simp [hw], .inl rfl, hX1⟩
      unfold goesL
      rw [if_neg (by rw [hacc]; decide), if_pos rfl]
      rfl
    · have hrd : rdL ⟨k, (n : Int), v, u, o⟩ = true := by unfold rdL; rw [hacc]; simpa using h1
      refine (goes_read ws nx A C X t n k v u o (wAt ws n) w base hacc hrd ht hn3 hn hw hb rfl hR hbase hxl).mono ?_
      rintro e w' ⟨v', A1, C1, rfl, h2, h3, h4⟩
      have hg : goesL (memP ws nx X) t ⟨k, (n : Int), v, u, o⟩ = (goesW ws n k v u (wAt ws n)).map (fun z => memP z (nx.set t (nAt nx t + 1)) (upd X t (X t ++ [wAt ws n]))) := by
        unfold goesL
        rw [if_neg (by rw [hacc]; decide), if_neg h1]
        unfold goesW
        simp only [memP, Int.toNat_natCast]
        rw [rs_get X ht, rs_upd X ht]
        unfold wAt nAt
        by_cases c2 : k = 2
        · subst c2; simp
        · by_cases c3 : k = 3
          · subst c3
            by_cases e : ws.getD n 0 = v
            · simp at e; simp [e]
            · simp at e; simp [e]
          · by_cases c4 : k = 4
            · subst c4
              by_cases e : ws.getD n 0 = v
              · simp at e; simp [e]
              · simp at e; simp [e]
            · simp [c2, c3, c4]
      refine ⟨v', _, upd A t A1, upd C t C1, _, rfl, h2, h3, h4, hg, ?_, ?_, hX2 _⟩
      · intro z hz
        unfold goesW at hz
        split at hz
        · simp at hz; simp [hz, hw]
        split at hz
        · simp at hz; simp [hz, hw]
        split at hz
        · simp at hz; rcases hz with rfl | rfl <;> simp [hw]
        · simp at hz; simp [hz, hw]
      · unfold goesW
        split
        · exact .inl rfl
        split
        · exact .inl rfl
        split
        · exact .inr rfl
        · exact .inl rfl
  · rw [Bool.not_eq_true] at hacc
    refine (goes_fence ws nx A C X t k l v u o w hacc ht hn hb).mono ?_
    rintro e w' ⟨g, rfl, h1, h2, h3⟩
    refine ⟨_, [ws], A, C, X, rfl, ⟨g, rfl, h2, h1⟩, hR.below h3, h3, ?_, by simp [hw], .inl rfl, hX1⟩
    unfold goesL
    rw [if_pos hacc]
    rfl
end Go.Proofs.Ytgfbgbclpeihdaa.Li
