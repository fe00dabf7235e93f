/- The effects are few and short; what the law asks, and the program's answers then: plain lemmas; no condition. -/
import Derived.Test.YtiialjmpfeopjaaGreatPwY
namespace Go.Proofs.YtiialjmpfeopjaaGreat.Sp
open Go.RowKit Go.Sort Go.Proofs.YtiialjmpfeopjaaGreatW.PrintWords Go.Proofs.YtiialjmpfeopjaaGreatW.PrintLast Go.Proofs.YtiialjmpfeopjaaGreatW.PrintMore
set_option linter.unusedVariables false
set_option linter.unusedSimpArgs false
set_option maxRecDepth 100000
def Small (E : List Eff) : Prop := E.length ≤ 100000 ∧ ∀ e ∈ E, e.2.length ≤ 100000
theorem sm1 {o : Int} {l : List Int} (h : l.length ≤ 3000) : Small [(o, l)] := ⟨by simp, fun e he => by rw [List.mem_singleton.1 he]; show l.length ≤ 100000; omega⟩
theorem er_le (s : List Int) (i : Nat) : (s.eraseIdx i).length ≤ s.length := (List.eraseIdx_sublist s i).length_le
theorem sm_take {P : List Int → Int} {s : List Int} {x y t : Int} (hl : s.length ≤ 1000) : Small (takeD P s x y t) := by
  unfold takeD
  split
  · exact sm1 (by simp)
  · exact sm1 (by have := er_le s (P s).toNat; omega)
theorem sm_which {s : List Int} {x y t : Int} (hl : s.length ≤ 1000) : Small (whichD s x y t) := by
  unfold whichD
  split
  · exact sm1 (by simp)
  · refine ⟨by have := whichL_len s s.length; omega, fun e he => ?_⟩
    unfold whichL at he
    obtain ⟨i, _, rfl⟩ := List.mem_map.1 he
    have := er_le s i
    show (s.eraseIdx i).length ≤ 100000
    omega
theorem sm_ticket {s : List Int} (hl : s.length ≤ 1000) : Small (ticketL s (s.length + 13)) := by
  refine ⟨?_, fun e he => ?_⟩
  · have h := freeI_len s (s.length + 13)
    rw [← ticket_free, List.length_map] at h
    omega
  · unfold ticketL at he
    obtain ⟨i, _, rfl⟩ := List.mem_map.1 he
    show (insL s (i : Int)).length ≤ 100000
    rw [insL_len]; omega
theorem pop_le (a : List Int) : (popL a).length ≤ a.length := by unfold popL; rw [List.length_take]; omega
theorem tw_le (s : List Int) : (twA s).length ≤ s.length ∧ (twB s).length ≤ s.length := by
  unfold twA twB
  rw [List.length_drop, List.length_take, List.length_drop]; omega
theorem join_le (a b : List Int) : (joinL a b).length = a.length + b.length + 1 := by unfold joinL; rw [List.length_cons, List.length_append]
theorem small_act {r n : Int} {R : RuleS} {s : List Int} {op : ByteArray} {x y t : Int} {a : ActS} (h : ruleS r n = some R) (hg : R.good s = true) (ha : actS R.acts op x y t = some a) : Small (a.D s x y t) := by
  have hm := List.mem_of_find?_eq_some ha
  obtain ⟨hl, hp⟩ := fit_all r n s op x y t R a h hg ha
  obtain ⟨k, hkk⟩ := List.mem_iff_getElem?.1 hm
  have htw := tw_le s
  have hpa := pop_le (twA s)
  have hpb := pop_le (twB s)
  clear ha hm hp
  obtain ⟨_, hc⟩ := ruleS_cases h
  rcases hc with ⟨rfl, rfl⟩ | ⟨rfl, rfl⟩ | ⟨rfl, rfl⟩ | ⟨rfl, rfl⟩ | ⟨rfl, rfl⟩ | ⟨rfl, rfl⟩ | ⟨rfl, rfl⟩ | ⟨rfl, rfl⟩ | ⟨rfl, rfl⟩ | ⟨rfl, rfl⟩ | ⟨rfl, rfl⟩ | ⟨rfl, rfl⟩ | ⟨rfl, rfl⟩ | ⟨rfl, rfl⟩ | ⟨rfl, rfl⟩ | ⟨rfl, rfl⟩
  · match k, hkk with
    | 0, e => injection e with e; subst e; exact sm1 (show (s ++ [x]).length ≤ 3000 by simp; omega)
    | 1, e => injection e with e; subst e; exact sm_take (P := fun s => (s.length : Int) - 1) (x := x) (y := y) (t := t) hl
    | k + 2, e => exact absurd e (by simp [rule1, setActs, snapActs, uniActs, pairActs, twinActs])
  · match k, hkk with
    | 0, e => injection e with e; subst e; exact sm1 (show (s ++ [x]).length ≤ 3000 by simp; omega)
    | 1, e => injection e with e; subst e; exact sm_take (P := fun _ => 0) (x := x) (y := y) (t := t) hl
    | k + 2, e => exact absurd e (by simp [rule2, setActs, snapActs, uniActs, pairActs, twinActs])
  · match k, hkk with
    | 0, e => injection e with e; subst e; show Small (limD n (putD fun s x => s ++ [x]) s x y t); unfold limD; split <;> exact sm1 (by first | omega | (show (s ++ [x]).length ≤ 3000; simp; omega))
    | 1, e => injection e with e; subst e; exact sm_take (P := fun _ => 0) (x := x) (y := y) (t := t) hl
    | k + 2, e => exact absurd e (by simp [rule3, setActs, snapActs, uniActs, pairActs, twinActs])
  · match k, hkk with
    | 0, e => injection e with e; subst e; exact sm1 (show (s ++ [x]).length ≤ 3000 by simp; omega)
    | 1, e => injection e with e; subst e; exact sm_take (P := fun s => (s.length : Int) - 1) (x := x) (y := y) (t := t) hl
    | 2, e => injection e with e; subst e; exact sm_take (P := fun _ => 0) (x := x) (y := y) (t := t) hl
    | k + 3, e => exact absurd e (by simp [rule4, setActs, snapActs, uniActs, pairActs, twinActs])
  · match k, hkk with
    | 0, e => injection e with e; subst e; exact sm1 (show (insL s x).length ≤ 3000 by rw [insL_len]; omega)
    | 1, e => injection e with e; subst e; exact sm_take (P := fun _ => 0) (x := x) (y := y) (t := t) hl
    | k + 2, e => exact absurd e (by simp [rule5, setActs, snapActs, uniActs, pairActs, twinActs])
  · match k, hkk with
    | 0, e => injection e with e; subst e; exact sm1 (show (insL s x).length ≤ 3000 by rw [insL_len]; omega)
    | 1, e => injection e with e; subst e; exact sm_which (x := x) (y := y) (t := t) hl
    | k + 2, e => exact absurd e (by simp [rule6, setActs, snapActs, uniActs, pairActs, twinActs])
  · match k, hkk with
    | 0, e => injection e with e; subst e; show Small (setD addF s x y t); unfold setD addF; split <;> exact sm1 (by first | omega | (have := er_le s (s.countP (· < x)); omega) | (simp; omega))
    | 1, e => injection e with e; subst e; show Small (setD remF s x y t); unfold setD remF; split <;> exact sm1 (by first | omega | (have := er_le s (s.countP (· < x)); omega) | (simp; omega))
    | 2, e => injection e with e; subst e; show Small (setD hasF s x y t); unfold setD hasF; split <;> exact sm1 (by first | omega | (have := er_le s (s.countP (· < x)); omega) | (simp; omega))
    | k + 3, e => exact absurd e (by simp [rule7, setActs, snapActs, uniActs, pairActs, twinActs])
  · match k, hkk with
    | 0, e => injection e with e; subst e; show Small (setD addF s x y t); unfold setD addF; split <;> exact sm1 (by first | omega | (have := er_le s (s.countP (· < x)); omega) | (simp; omega))
    | 1, e => injection e with e; subst e; show Small (setD remF s x y t); unfold setD remF; split <;> exact sm1 (by first | omega | (have := er_le s (s.countP (· < x)); omega) | (simp; omega))
    | 2, e => injection e with e; subst e; show Small (setD hasF s x y t); unfold setD hasF; split <;> exact sm1 (by first | omega | (have := er_le s (s.countP (· < x)); omega) | (simp; omega))
    | 3, e => injection e with e; subst e; exact sm1 (show s.length ≤ 3000 by omega)
    | k + 4, e => exact absurd e (by simp [rule8, setActs, snapActs, uniActs, pairActs, twinActs])
  · match k, hkk with
    | 0, e => injection e with e; subst e; exact sm_ticket hl
    | k + 1, e => exact absurd e (by simp [rule9, setActs, snapActs, uniActs, pairActs, twinActs])
  · match k, hkk with
    | 0, e => injection e with e; subst e; exact sm1 (show [x].length ≤ 3000 by simp)
    | 1, e => injection e with e; subst e; exact sm1 (show s.length ≤ 3000 by omega)
    | k + 2, e => exact absurd e (by simp [rule10, setActs, snapActs, uniActs, pairActs, twinActs])
  · match k, hkk with
    | 0, e => injection e with e; subst e; exact sm1 (show (s.set t.toNat x).length ≤ 3000 by rw [List.length_set]; omega)
    | 1, e => injection e with e; subst e; exact sm1 (show s.length ≤ 3000 by omega)
    | k + 2, e => exact absurd e (by simp [rule11, setActs, snapActs, uniActs, pairActs, twinActs])
  · match k, hkk with
    | 0, e => injection e with e; subst e; show Small (unionD uniteF s x y t); unfold unionD uniteF; split <;> exact sm1 (by first | omega | (rw [List.length_map]; omega))
    | 1, e => injection e with e; subst e; show Small (unionD sameF s x y t); unfold unionD sameF; split <;> exact sm1 (by omega)
    | k + 2, e => exact absurd e (by simp [rule12, setActs, snapActs, uniActs, pairActs, twinActs])
  · match k, hkk with
    | 0, e => injection e with e; subst e; show Small (changeD (fun a b x => (a + x, b)) s x y t); unfold changeD; split <;> exact sm1 (by first | omega | simp)
    | 1, e => injection e with e; subst e; show Small (changeD (fun a b x => (a - x, b + x)) s x y t); unfold changeD; split <;> exact sm1 (by first | omega | simp)
    | 2, e => injection e with e; subst e; exact sm1 (show s.length ≤ 3000 by omega)
    | k + 3, e => exact absurd e (by simp [rule13, setActs, snapActs, uniActs, pairActs, twinActs])
  · match k, hkk with
    | 0, e => injection e with e; subst e; exact sm1 (show [s.getD 0 0 + x].length ≤ 3000 by simp)
    | 1, e => injection e with e; subst e; exact sm1 (show s.length ≤ 3000 by omega)
    | k + 2, e => exact absurd e (by simp [rule14, setActs, snapActs, uniActs, pairActs, twinActs])
  · match k, hkk with
    | 0, e => injection e with e; subst e; exact sm1 (show (joinL (twA s ++ [x]) (twB s)).length ≤ 3000 by rw [join_le, List.length_append]; simp; omega)
    | 1, e => injection e with e; subst e; exact sm1 (show (s ++ [x]).length ≤ 3000 by simp; omega)
    | 2, e => injection e with e; subst e; exact sm1 (show (joinL (popL (twA s)) (twB s)).length ≤ 3000 by rw [join_le]; omega)
    | 3, e => injection e with e; subst e; exact sm1 (show (joinL (twA s) (popL (twB s))).length ≤ 3000 by rw [join_le]; omega)
    | 4, e => injection e with e; subst e; exact sm1 (show (joinL (popL (twA s)) (if twA s = [] then twB s else twB s ++ [popR (twA s)])).length ≤ 3000 by rw [join_le]; split <;> (try rw [List.length_append]) <;> simp <;> omega)
    | k + 5, e => exact absurd e (by simp [rule15, setActs, snapActs, uniActs, pairActs, twinActs])
  · match k, hkk with
    | 0, e => injection e with e; subst e; exact sm1 (show [s.getD 0 0 + x].length ≤ 3000 by simp)
    | 1, e => injection e with e; subst e; exact sm1 (show s.length ≤ 3000 by omega)
    | k + 2, e => exact absurd e (by simp [rule16, setActs, snapActs, uniActs, pairActs, twinActs])
theorem ask_no {r n : Int} {s : List Int} {op : ByteArray} {x y t : Int} (h : (validR r n s && mayR r op x y t) = false) : effS r n s op x y t = none := by
  unfold effS
  rw [← valid_eq] at h
  unfold validS at h
  cases hR : ruleS r n with
  | none => rfl
  | some R =>
    rw [hR] at h
    simp only at h ⊢
    cases hg : R.good s with
    | false => rfl
    | true =>
      rw [hg, Bool.true_and, ← may_act hR] at h
      rw [if_pos rfl]
      cases ha : actS R.acts op x y t with
      | none => rfl
      | some a => rw [ha] at h; cases h
theorem ask_yes {r n : Int} {s : List Int} {op : ByteArray} {x y t : Int} (h : (validR r n s && mayR r op x y t) = true) : ∃ E, effS r n s op x y t = some E ∧ DocOK r n s op x y t E ∧ Small E ∧ s.length ≤ 1000 := by
  rw [← valid_eq] at h
  unfold validS at h
  unfold effS
  cases hR : ruleS r n with
  | none => rw [hR] at h; cases h
  | some R =>
    rw [hR] at h
    simp only at h ⊢
    cases hg : R.good s with
    | false => rw [hg] at h; cases h
    | true =>
      rw [hg, Bool.true_and, ← may_act hR] at h
      rw [if_pos rfl]
      cases ha : actS R.acts op x y t with
      | none => rw [ha] at h; cases h
      | some a => exact ⟨_, rfl, doc_act hR hg ha, small_act hR hg ha, (fit_all r n s op x y t R a hR hg ha).1⟩
end Go.Proofs.YtiialjmpfeopjaaGreat.Sp
