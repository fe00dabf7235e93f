/- Calls that read leave the state, and what they are called; a call has one effect but by the rules 6 and 9, and its results ascend: plain lemmas; no condition. -/
import Derived.Test.YtiialjmpfeopjaaGreatPwX
namespace Go.Proofs.YtiialjmpfeopjaaGreat.Sp
open Go.RowKit Go.Sort Go.Proofs.YtiialjmpfeopjaaGreatW.PrintWords Go.Proofs.YtiialjmpfeopjaaGreatW.PrintLast Go.Proofs.YtiialjmpfeopjaaGreatW.PrintMore
set_option linter.unusedVariables false
set_option linter.unusedSimpArgs false
set_option maxRecDepth 100000

theorem isN_of {a b : ByteArray} (h : a.toList = b.toList) (l : List UInt8) : isN a l = isN b l := by unfold isN; rw [h]
theorem readsR_of {a b : ByteArray} (h : a.toList = b.toList) (r : Int) : readsR r a = readsR r b := by
  unfold readsR; rw [isN_of h, isN_of h, isN_of h, isN_of h, isN_of h, isN_of h, isN_of h]
/-- Results that ascend. -/
def Asc (E : List Eff) : Prop := (E.map (·.1)).Pairwise (· < ·)
theorem asc1 (e : Eff) : Asc [e] := List.pairwise_singleton _ _
/-- One effect. -/
def Sole (E : List Eff) : Prop := ∃ e, E = [e]
theorem sole1 (e : Eff) : Sole [e] := ⟨e, rfl⟩
theorem Sole.asc {E : List Eff} (h : Sole E) : Asc E := by obtain ⟨e, rfl⟩ := h; exact asc1 e
theorem Sole.len {E : List Eff} (h : Sole E) : E.length = 1 := by obtain ⟨e, rfl⟩ := h; rfl
theorem both_of {E : List Eff} {P : Prop} (h : Sole E) : (Sole E ∨ P) ∧ Asc E := ⟨.inl h, h.asc⟩
def Kept (E : List Eff) (s : List Int) : Prop := ∃ o, E = [(o, s)]
theorem kept1 (o : Int) (s : List Int) : Kept [(o, s)] s := ⟨o, rfl⟩
theorem asc_ticket (s : List Int) (k : Nat) : Asc (ticketL s k) := by
  unfold Asc
  rw [ticket_free]
  unfold freeI
  rw [List.pairwise_map]
  refine ((List.pairwise_lt_range (n := k)).filter _).imp ?_
  intro a b h
  omega
theorem lt_of_new {s : List Int} (hs : s.Pairwise (· ≤ ·)) {i j : Nat} (hij : i < j) (hj : j < s.length) (hn : isNew s j = true) : s.getD i 0 < s.getD j 0 := by
  unfold isNew at hn
  have hle := fun (a b : Nat) (h : a < b) (hb : b < s.length) => List.pairwise_iff_getElem.1 hs a b (by omega) hb h
  have e0 : s.getD i 0 = s[i]'(by omega) := by rw [List.getD_eq_getElem?_getD, List.getElem?_eq_getElem (by omega)]; rfl
  have e1 : s.getD (j - 1) 0 = s[j - 1]'(by omega) := by rw [List.getD_eq_getElem?_getD, List.getElem?_eq_getElem (by omega)]; rfl
  have e2 : s.getD j 0 = s[j]'hj := by rw [List.getD_eq_getElem?_getD, List.getElem?_eq_getElem hj]; rfl
  have h1 : s[i]'(by omega) ≤ s[j - 1]'(by omega) := by
    by_cases q : i = j - 1
    · subst q; exact Int.le_refl _
    · exact hle i (j - 1) (by omega) (by omega)
  have h2 := hle (j - 1) j (by omega) hj
  have h3 : s[j - 1]'(by omega) ≠ s[j]'hj := by
    rw [e1, e2] at hn
    simp only [Bool.or_eq_true, beq_iff_eq, bne_iff_ne] at hn
    rcases hn with h | h
    · omega
    · exact h
  rw [e0, e2]
  omega
theorem asc_which {s : List Int} (hs : s.Pairwise (· ≤ ·)) : Asc (whichL s s.length) := by
  unfold Asc whichL
  rw [List.map_map, List.pairwise_map]
  refine List.Pairwise.imp_of_mem (R := fun a b => a < b) ?_ ((List.pairwise_lt_range (n := s.length)).filter _)
  intro a b ha hb h
  have hb' := List.mem_filter.1 hb
  exact lt_of_new hs h (List.mem_range.1 hb'.1) hb'.2
theorem sole_take (P : List Int → Int) (s : List Int) (x y t : Int) : Sole (takeD P s x y t) := by unfold takeD; split <;> exact sole1 _

theorem asc_of_good {s : List Int} (h : ascendingB 900 false s = true) : s.Pairwise (· ≤ ·) := asc_good h

theorem one_act {r n : Int} {R : RuleS} {s : List Int} {op : ByteArray} {x y t : Int} {a : ActS} (h : ruleS r n = some R) (hg : R.good s = true) (ha : actS R.acts op x y t = some a) : (Sole (a.D s x y t) ∨ r = 6 ∨ r = 9) ∧ Asc (a.D s x y t) := by
  have hm := List.mem_of_find?_eq_some ha
  obtain ⟨hl, hp⟩ := fit_all r n s op x y t R a h hg ha
  obtain ⟨k, hkk⟩ := List.mem_iff_getElem?.1 hm
  have htw := tw_le s
  have hpa := pop_le (twA s)
  have hpb := pop_le (twB s)
  clear ha hm hp
  obtain ⟨_, hc⟩ := ruleS_cases h
  rcases hc with ⟨rfl, rfl⟩ | ⟨rfl, rfl⟩ | ⟨rfl, rfl⟩ | ⟨rfl, rfl⟩ | ⟨rfl, rfl⟩ | ⟨rfl, rfl⟩ | ⟨rfl, rfl⟩ | ⟨rfl, rfl⟩ | ⟨rfl, rfl⟩ | ⟨rfl, rfl⟩ | ⟨rfl, rfl⟩ | ⟨rfl, rfl⟩ | ⟨rfl, rfl⟩ | ⟨rfl, rfl⟩ | ⟨rfl, rfl⟩ | ⟨rfl, rfl⟩
  · match k, hkk with
    | 0, e => injection e with e; subst e; exact both_of (sole1 _)
    | 1, e => injection e with e; subst e; exact both_of (sole_take (fun s => (s.length : Int) - 1) s x y t)
    | k + 2, e => exact absurd e (by simp [rule1, setActs, snapActs, uniActs, pairActs, twinActs])
  · match k, hkk with
    | 0, e => injection e with e; subst e; exact both_of (sole1 _)
    | 1, e => injection e with e; subst e; exact both_of (sole_take (fun s => 0) s x y t)
    | k + 2, e => exact absurd e (by simp [rule2, setActs, snapActs, uniActs, pairActs, twinActs])
  · match k, hkk with
    | 0, e => injection e with e; subst e; exact both_of ((show Sole (limD n (putD fun s x => s ++ [x]) s x y t) from by unfold limD; split <;> exact sole1 _))
    | 1, e => injection e with e; subst e; exact both_of (sole_take (fun s => 0) s x y t)
    | k + 2, e => exact absurd e (by simp [rule3, setActs, snapActs, uniActs, pairActs, twinActs])
  · match k, hkk with
    | 0, e => injection e with e; subst e; exact both_of (sole1 _)
    | 1, e => injection e with e; subst e; exact both_of (sole_take (fun s => (s.length : Int) - 1) s x y t)
    | 2, e => injection e with e; subst e; exact both_of (sole_take (fun s => 0) s x y t)
    | k + 3, e => exact absurd e (by simp [rule4, setActs, snapActs, uniActs, pairActs, twinActs])
  · match k, hkk with
    | 0, e => injection e with e; subst e; exact both_of (sole1 _)
    | 1, e => injection e with e; subst e; exact both_of (sole_take (fun s => 0) s x y t)
    | k + 2, e => exact absurd e (by simp [rule5, setActs, snapActs, uniActs, pairActs, twinActs])
  · match k, hkk with
    | 0, e => injection e with e; subst e; exact both_of (sole1 _)
    | 1, e => injection e with e; subst e; refine ⟨.inr (.inl rfl), ?_⟩; show Asc (whichD s x y t); unfold whichD; split; exact asc1 _; exact asc_which (asc_of_good hg)
    | k + 2, e => exact absurd e (by simp [rule6, setActs, snapActs, uniActs, pairActs, twinActs])
  · match k, hkk with
    | 0, e => injection e with e; subst e; exact both_of ((show Sole (setD addF s x y t) from by unfold setD addF; split <;> exact sole1 _))
    | 1, e => injection e with e; subst e; exact both_of ((show Sole (setD remF s x y t) from by unfold setD remF; split <;> exact sole1 _))
    | 2, e => injection e with e; subst e; exact both_of ((show Sole (setD hasF s x y t) from by unfold setD hasF; split <;> exact sole1 _))
    | k + 3, e => exact absurd e (by simp [rule7, setActs, snapActs, uniActs, pairActs, twinActs])
  · match k, hkk with
    | 0, e => injection e with e; subst e; exact both_of ((show Sole (setD addF s x y t) from by unfold setD addF; split <;> exact sole1 _))
    | 1, e => injection e with e; subst e; exact both_of ((show Sole (setD remF s x y t) from by unfold setD remF; split <;> exact sole1 _))
    | 2, e => injection e with e; subst e; exact both_of ((show Sole (setD hasF s x y t) from by unfold setD hasF; split <;> exact sole1 _))
    | 3, e => injection e with e; subst e; exact both_of (sole1 _)
    | k + 4, e => exact absurd e (by simp [rule8, setActs, snapActs, uniActs, pairActs, twinActs])
  · match k, hkk with
    | 0, e => injection e with e; subst e; exact ⟨.inr (.inr rfl), asc_ticket s _⟩
    | k + 1, e => exact absurd e (by simp [rule9, setActs, snapActs, uniActs, pairActs, twinActs])
  · match k, hkk with
    | 0, e => injection e with e; subst e; exact both_of (sole1 _)
    | 1, e => injection e with e; subst e; exact both_of (sole1 _)
    | k + 2, e => exact absurd e (by simp [rule10, setActs, snapActs, uniActs, pairActs, twinActs])
  · match k, hkk with
    | 0, e => injection e with e; subst e; exact both_of (sole1 _)
    | 1, e => injection e with e; subst e; exact both_of (sole1 _)
    | k + 2, e => exact absurd e (by simp [rule11, setActs, snapActs, uniActs, pairActs, twinActs])
  · match k, hkk with
    | 0, e => injection e with e; subst e; exact both_of ((show Sole (unionD uniteF s x y t) from by unfold unionD uniteF; split <;> exact sole1 _))
    | 1, e => injection e with e; subst e; exact both_of ((show Sole (unionD sameF s x y t) from by unfold unionD sameF; split <;> exact sole1 _))
    | k + 2, e => exact absurd e (by simp [rule12, setActs, snapActs, uniActs, pairActs, twinActs])
  · match k, hkk with
    | 0, e => injection e with e; subst e; exact both_of ((show Sole (changeD (fun a b x => (a + x, b)) s x y t) from by unfold changeD; split <;> exact sole1 _))
    | 1, e => injection e with e; subst e; exact both_of ((show Sole (changeD (fun a b x => (a - x, b + x)) s x y t) from by unfold changeD; split <;> exact sole1 _))
    | 2, e => injection e with e; subst e; exact both_of (sole1 _)
    | k + 3, e => exact absurd e (by simp [rule13, setActs, snapActs, uniActs, pairActs, twinActs])
  · match k, hkk with
    | 0, e => injection e with e; subst e; exact both_of (sole1 _)
    | 1, e => injection e with e; subst e; exact both_of (sole1 _)
    | k + 2, e => exact absurd e (by simp [rule14, setActs, snapActs, uniActs, pairActs, twinActs])
  · match k, hkk with
    | 0, e => injection e with e; subst e; exact both_of (sole1 _)
    | 1, e => injection e with e; subst e; exact both_of (sole1 _)
    | 2, e => injection e with e; subst e; exact both_of (sole1 _)
    | 3, e => injection e with e; subst e; exact both_of (sole1 _)
    | 4, e => injection e with e; subst e; exact both_of (sole1 _)
    | k + 5, e => exact absurd e (by simp [rule15, setActs, snapActs, uniActs, pairActs, twinActs])
  · match k, hkk with
    | 0, e => injection e with e; subst e; exact both_of (sole1 _)
    | 1, e => injection e with e; subst e; exact both_of (sole1 _)
    | k + 2, e => exact absurd e (by simp [rule16, setActs, snapActs, uniActs, pairActs, twinActs])

theorem rd_act {r n : Int} {R : RuleS} {s : List Int} {op : ByteArray} {x y t : Int} {a : ActS} (h : ruleS r n = some R) (ha : actS R.acts op x y t = some a) : a.rd = readsR r a.name ∧ (a.rd = true → Kept (a.D s x y t) s) := by
  have hm := List.mem_of_find?_eq_some ha
  obtain ⟨k, hkk⟩ := List.mem_iff_getElem?.1 hm
  clear ha hm
  obtain ⟨_, hc⟩ := ruleS_cases h
  rcases hc with ⟨rfl, rfl⟩ | ⟨rfl, rfl⟩ | ⟨rfl, rfl⟩ | ⟨rfl, rfl⟩ | ⟨rfl, rfl⟩ | ⟨rfl, rfl⟩ | ⟨rfl, rfl⟩ | ⟨rfl, rfl⟩ | ⟨rfl, rfl⟩ | ⟨rfl, rfl⟩ | ⟨rfl, rfl⟩ | ⟨rfl, rfl⟩ | ⟨rfl, rfl⟩ | ⟨rfl, rfl⟩ | ⟨rfl, rfl⟩ | ⟨rfl, rfl⟩
  · match k, hkk with
    | 0, e => injection e with e; subst e; exact ⟨by show false = readsR 1 _; decide +kernel, fun h => Bool.noConfusion h⟩
    | 1, e => injection e with e; subst e; exact ⟨by show false = readsR 1 _; decide +kernel, fun h => Bool.noConfusion h⟩
    | k + 2, e => exact absurd e (by simp [rule1, setActs, snapActs, uniActs, pairActs, twinActs])
  · match k, hkk with
    | 0, e => injection e with e; subst e; exact ⟨by show false = readsR 2 _; decide +kernel, fun h => Bool.noConfusion h⟩
    | 1, e => injection e with e; subst e; exact ⟨by show false = readsR 2 _; decide +kernel, fun h => Bool.noConfusion h⟩
    | k + 2, e => exact absurd e (by simp [rule2, setActs, snapActs, uniActs, pairActs, twinActs])
  · match k, hkk with
    | 0, e => injection e with e; subst e; exact ⟨by show false = readsR 3 ⟨#[101, 110, 113]⟩; decide +kernel, fun h => Bool.noConfusion h⟩
    | 1, e => injection e with e; subst e; exact ⟨by show false = readsR 3 _; decide +kernel, fun h => Bool.noConfusion h⟩
    | k + 2, e => exact absurd e (by simp [rule3, setActs, snapActs, uniActs, pairActs, twinActs])
  · match k, hkk with
    | 0, e => injection e with e; subst e; exact ⟨by show false = readsR 4 _; decide +kernel, fun h => Bool.noConfusion h⟩
    | 1, e => injection e with e; subst e; exact ⟨by show false = readsR 4 _; decide +kernel, fun h => Bool.noConfusion h⟩
    | 2, e => injection e with e; subst e; exact ⟨by show false = readsR 4 _; decide +kernel, fun h => Bool.noConfusion h⟩
    | k + 3, e => exact absurd e (by simp [rule4, setActs, snapActs, uniActs, pairActs, twinActs])
  · match k, hkk with
    | 0, e => injection e with e; subst e; exact ⟨by show false = readsR 5 _; decide +kernel, fun h => Bool.noConfusion h⟩
    | 1, e => injection e with e; subst e; exact ⟨by show false = readsR 5 _; decide +kernel, fun h => Bool.noConfusion h⟩
    | k + 2, e => exact absurd e (by simp [rule5, setActs, snapActs, uniActs, pairActs, twinActs])
  · match k, hkk with
    | 0, e => injection e with e; subst e; exact ⟨by show false = readsR 6 _; decide +kernel, fun h => Bool.noConfusion h⟩
    | 1, e => injection e with e; subst e; exact ⟨by show false = readsR 6 _; decide +kernel, fun h => Bool.noConfusion h⟩
    | k + 2, e => exact absurd e (by simp [rule6, setActs, snapActs, uniActs, pairActs, twinActs])
  · match k, hkk with
    | 0, e => injection e with e; subst e; exact ⟨by show false = readsR 7 _; decide +kernel, fun h => Bool.noConfusion h⟩
    | 1, e => injection e with e; subst e; exact ⟨by show false = readsR 7 _; decide +kernel, fun h => Bool.noConfusion h⟩
    | 2, e => injection e with e; subst e; exact ⟨by show true = readsR 7 _; decide +kernel, fun h => (show Kept (setD hasF s x y t) s from by unfold setD hasF; split <;> exact kept1 _ _)⟩
    | k + 3, e => exact absurd e (by simp [rule7, setActs, snapActs, uniActs, pairActs, twinActs])
  · match k, hkk with
    | 0, e => injection e with e; subst e; exact ⟨by show false = readsR 8 _; decide +kernel, fun h => Bool.noConfusion h⟩
    | 1, e => injection e with e; subst e; exact ⟨by show false = readsR 8 _; decide +kernel, fun h => Bool.noConfusion h⟩
    | 2, e => injection e with e; subst e; exact ⟨by show true = readsR 8 _; decide +kernel, fun h => (show Kept (setD hasF s x y t) s from by unfold setD hasF; split <;> exact kept1 _ _)⟩
    | 3, e => injection e with e; subst e; exact ⟨by show true = readsR 8 _; decide +kernel, fun h => kept1 _ _⟩
    | k + 4, e => exact absurd e (by simp [rule8, setActs, snapActs, uniActs, pairActs, twinActs])
  · match k, hkk with
    | 0, e => injection e with e; subst e; exact ⟨by show false = readsR 9 _; decide +kernel, fun h => Bool.noConfusion h⟩
    | k + 1, e => exact absurd e (by simp [rule9, setActs, snapActs, uniActs, pairActs, twinActs])
  · match k, hkk with
    | 0, e => injection e with e; subst e; exact ⟨by show false = readsR 10 _; decide +kernel, fun h => Bool.noConfusion h⟩
    | 1, e => injection e with e; subst e; exact ⟨by show true = readsR 10 _; decide +kernel, fun h => kept1 _ _⟩
    | k + 2, e => exact absurd e (by simp [rule10, setActs, snapActs, uniActs, pairActs, twinActs])
  · match k, hkk with
    | 0, e => injection e with e; subst e; exact ⟨by show false = readsR 11 _; decide +kernel, fun h => Bool.noConfusion h⟩
    | 1, e => injection e with e; subst e; exact ⟨by show true = readsR 11 _; decide +kernel, fun h => kept1 _ _⟩
    | k + 2, e => exact absurd e (by simp [rule11, setActs, snapActs, uniActs, pairActs, twinActs])
  · match k, hkk with
    | 0, e => injection e with e; subst e; exact ⟨by show false = readsR 12 _; decide +kernel, fun h => Bool.noConfusion h⟩
    | 1, e => injection e with e; subst e; exact ⟨by show true = readsR 12 _; decide +kernel, fun h => (show Kept (unionD sameF s x y t) s from by unfold unionD sameF; split <;> exact kept1 _ _)⟩
    | k + 2, e => exact absurd e (by simp [rule12, setActs, snapActs, uniActs, pairActs, twinActs])
  · match k, hkk with
    | 0, e => injection e with e; subst e; exact ⟨by show false = readsR 13 _; decide +kernel, fun h => Bool.noConfusion h⟩
    | 1, e => injection e with e; subst e; exact ⟨by show false = readsR 13 _; decide +kernel, fun h => Bool.noConfusion h⟩
    | 2, e => injection e with e; subst e; exact ⟨by show true = readsR 13 _; decide +kernel, fun h => kept1 _ _⟩
    | k + 3, e => exact absurd e (by simp [rule13, setActs, snapActs, uniActs, pairActs, twinActs])
  · match k, hkk with
    | 0, e => injection e with e; subst e; exact ⟨by show false = readsR 14 _; decide +kernel, fun h => Bool.noConfusion h⟩
    | 1, e => injection e with e; subst e; exact ⟨by show true = readsR 14 _; decide +kernel, fun h => kept1 _ _⟩
    | k + 2, e => exact absurd e (by simp [rule14, setActs, snapActs, uniActs, pairActs, twinActs])
  · match k, hkk with
    | 0, e => injection e with e; subst e; exact ⟨by show false = readsR 15 _; decide +kernel, fun h => Bool.noConfusion h⟩
    | 1, e => injection e with e; subst e; exact ⟨by show false = readsR 15 _; decide +kernel, fun h => Bool.noConfusion h⟩
    | 2, e => injection e with e; subst e; exact ⟨by show false = readsR 15 _; decide +kernel, fun h => Bool.noConfusion h⟩
    | 3, e => injection e with e; subst e; exact ⟨by show false = readsR 15 _; decide +kernel, fun h => Bool.noConfusion h⟩
    | 4, e => injection e with e; subst e; exact ⟨by show false = readsR 15 _; decide +kernel, fun h => Bool.noConfusion h⟩
    | k + 5, e => exact absurd e (by simp [rule15, setActs, snapActs, uniActs, pairActs, twinActs])
  · match k, hkk with
    | 0, e => injection e with e; subst e; exact ⟨by show false = readsR 16 _; decide +kernel, fun h => Bool.noConfusion h⟩
    | 1, e => injection e with e; subst e; exact ⟨by show true = readsR 16 _; decide +kernel, fun h => kept1 _ _⟩
    | k + 2, e => exact absurd e (by simp [rule16, setActs, snapActs, uniActs, pairActs, twinActs])

theorem may_zero {r : Int} {op : ByteArray} {x y t : Int} (h : mayR r op x y t = true) : 0 ≤ t ∧ mayR r op x y 0 = true := by
  rw [← may_eq] at h ⊢
  unfold mayS at h ⊢
  cases hR : ruleS r 1 with
  | none => rw [hR] at h; simp at h
  | some R =>
    rw [hR] at h
    simp only at h ⊢
    unfold actS at h ⊢
    rw [List.find?_isSome] at h ⊢
    obtain ⟨a, hm, hd⟩ := h
    unfold doesB at hd
    simp only [Bool.and_eq_true, decide_eq_true_eq] at hd
    refine ⟨hd.1.2, a, hm, ?_⟩
    unfold doesB
    simp only [Bool.and_eq_true, decide_eq_true_eq]
    exact ⟨⟨hd.1.1, by omega⟩, by omega⟩
theorem rules_one {r n : Int} {R : RuleS} (h : ruleS r n = some R) : ∃ R1, ruleS r 1 = some R1 := by
  obtain ⟨_, hc⟩ := ruleS_cases h
  rcases hc with ⟨rfl, rfl⟩ | ⟨rfl, rfl⟩ | ⟨rfl, rfl⟩ | ⟨rfl, rfl⟩ | ⟨rfl, rfl⟩ | ⟨rfl, rfl⟩ | ⟨rfl, rfl⟩ | ⟨rfl, rfl⟩ | ⟨rfl, rfl⟩ | ⟨rfl, rfl⟩ | ⟨rfl, rfl⟩ | ⟨rfl, rfl⟩ | ⟨rfl, rfl⟩ | ⟨rfl, rfl⟩ | ⟨rfl, rfl⟩ | ⟨rfl, rfl⟩ <;> exact ⟨_, rfl⟩

theorem name_of {l : List ActS} {op : ByteArray} {x y t : Int} {a : ActS} (h : actS l op x y t = some a) : a.name.toList = op.toList := by
  have hd := List.find?_some h
  unfold doesB at hd
  simp only [Bool.and_eq_true, decide_eq_true_eq] at hd
  exact hd.1.1.1
theorem reads_eq (r : Int) (op : ByteArray) (x y : Int) : readsS r op x y = if mayR r op x y 0 = true then (readsR r op, 0) else (false, 1) := by
  rw [← may_eq]
  unfold readsS mayS
  cases hR : ruleS r 1 with
  | none => rfl
  | some R =>
    simp only
    obtain ha | ⟨a, ha⟩ := Option.eq_none_or_eq_some (actS R.acts op x y 0)
    · simp only [ha]; rfl
    · have h := (rd_act (s := []) hR ha).1
      simp only [ha, Option.isSome_some, if_true]
      rw [h, readsR_of (name_of ha)]
theorem ask_parts {r n : Int} {s : List Int} {op : ByteArray} {x y t : Int} (h : (validR r n s && mayR r op x y t) = true) : ∃ R a, ruleS r n = some R ∧ R.good s = true ∧ actS R.acts op x y t = some a ∧ effS r n s op x y t = some (a.D s x y t) := by
  rw [← valid_eq] at h
  unfold validS at h
  unfold effS
  cases hR : ruleS r n with
  | none => rw [hR] at h; simp at h
  | some R =>
    rw [hR] at h
    simp only [Bool.and_eq_true] at h
    have hm := h.2
    rw [← may_act hR] at hm
    obtain ⟨a, ha⟩ := Option.isSome_iff_exists.1 hm
    refine ⟨R, a, rfl, h.1, ha, ?_⟩
    simp only
    rw [if_pos h.1, ha]; rfl
theorem reads_keep {r n : Int} {s : List Int} {op : ByteArray} {x y t : Int} (h : (validR r n s && mayR r op x y t) = true) (hr : readsR r op = true) (hl : s.length ≤ 17592186044416) : ∃ o, doS r n s op x y t = some (s, o, 0) := by
  obtain ⟨R, a, hR, hg, ha, hE⟩ := ask_parts h
  obtain ⟨h1, h2⟩ := rd_act (s := s) hR ha
  rw [readsR_of (name_of ha), hr] at h1
  obtain ⟨o, ho⟩ := h2 h1
  rw [ho] at hE
  refine ⟨o, ?_⟩
  unfold doS
  rw [hE]
  simp only
  have hv : validS r n s = true := by unfold validS; rw [hR]; exact hg
  rw [if_pos hl, hv]; rfl
theorem agrees_yes {r n : Int} {s : List Int} {op : ByteArray} {x y t : Int} (h : (validR r n s && mayR r op x y t) = true) : ∃ E, effS r n s op x y t = some E ∧ (Sole E ∨ r = 6 ∨ r = 9) ∧ Asc E ∧ Small E ∧ E ≠ [] := by
  obtain ⟨R, a, hR, hg, ha, hE⟩ := ask_parts h
  obtain ⟨h1, h2⟩ := one_act hR hg ha
  exact ⟨_, hE, h1, h2, small_act hR hg ha, (doc_act hR hg ha).ne⟩

end Go.Proofs.YtiialjmpfeopjaaGreat.Sp
