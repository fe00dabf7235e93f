/- Two stacks: what move, geta, putb and getb do, by the rules' deeds alone: plain lemmas; no condition. -/
import Derived.Test.YtiialjmpfeopjaaGreatPwF
import Derived.Test.YtiialjmpfeopjaaGreatRfC
namespace Go.Proofs.YtiialjmpfeopjaaGreat.Sp
open Go.RowKit Go.Sort Go.Proofs.YtiialjmpfeopjaaGreatW.PrintWords Go.Proofs.YtiialjmpfeopjaaGreatW.PrintLast Go.Proofs.YtiialjmpfeopjaaGreatW.PrintMore
set_option linter.unusedVariables false
set_option linter.unusedSimpArgs false
set_option maxRecDepth 100000
theorem at15 : ruleS 15 1 = some rule15 := by
  unfold ruleS
  rw [if_neg (by omega)]
  repeat' (first | rw [if_neg (by omega)] | rw [if_pos rfl])
def Wd (l : List Int) : Prop := ∀ x ∈ l, 0 ≤ x ∧ x ≤ 900
theorem inB_of {l : List Int} (h : Wd l) : inB 0 900 l = true := by
  unfold inB
  rw [List.all_eq_true]
  intro x hx
  rw [decide_eq_true (h x hx).1, decide_eq_true (h x hx).2]; rfl
theorem of_inB {l : List Int} (h : inB 0 900 l = true) : Wd l := by
  intro x hx
  have := (List.all_eq_true.1 h) x hx
  have := Bool.and_eq_true_iff.1 this
  exact ⟨of_decide_eq_true this.1, of_decide_eq_true this.2⟩
theorem twin_join {a b : List Int} (h : Wd (a ++ b)) (hl : (a ++ b).length ≤ 24) : rule15.good (joinL a b) = true := by
  show twinB (joinL a b) = true
  unfold twinB joinL wordsB
  have e0 : ((a.length : Int) :: (a ++ b)).getD 0 0 = (a.length : Int) := rfl
  have e1 : ((a.length : Int) :: (a ++ b)).drop 1 = a ++ b := rfl
  rw [e0, e1, inB_of h]
  rw [List.length_append] at hl
  simp
  omega
theorem join_A (a b : List Int) : twA (joinL a b) = a := by
  unfold twA joinL
  have e0 : ((a.length : Int) :: (a ++ b)).getD 0 0 = (a.length : Int) := rfl
  rw [e0, Int.toNat_natCast]
  simp
theorem join_B (a b : List Int) : twB (joinL a b) = b := by
  unfold twB joinL
  have e0 : ((a.length : Int) :: (a ++ b)).getD 0 0 = (a.length : Int) := rfl
  rw [e0, Int.toNat_natCast]
  simp
theorem twin_form {s : List Int} (h : twinB s = true) : ∃ a b, s = joinL a b ∧ Wd (a ++ b) ∧ (a ++ b).length ≤ 24 := by
  unfold twinB wordsB at h
  simp only [Bool.and_eq_true, decide_eq_true_eq] at h
  obtain ⟨⟨⟨h1, h2⟩, h3⟩, h4, h5⟩ := h
  refine ⟨(s.drop 1).take (s.getD 0 0).toNat, (s.drop 1).drop (s.getD 0 0).toNat, ?_, ?_, ?_⟩
  · unfold joinL
    rw [List.take_append_drop, List.length_take, List.length_drop]
    match s, h1 with
    | x :: r, _ =>
      have e0 : (x :: r).getD 0 0 = x := rfl
      rw [e0] at h2 h3 ⊢
      simp only [List.length_cons] at h3 ⊢
      have : ((min x.toNat (r.length + 1 - 1) : Nat) : Int) = x := by omega
      rw [this]; rfl
  · rw [List.take_append_drop]; exact of_inB h5
  · rw [List.take_append_drop]; omega
theorem nm15 : decide ((⟨#[112, 117, 116, 97]⟩ : ByteArray).toList = (⟨#[109, 111, 118, 101]⟩ : ByteArray).toList) = false ∧ decide ((⟨#[112, 117, 116, 98]⟩ : ByteArray).toList = (⟨#[109, 111, 118, 101]⟩ : ByteArray).toList) = false ∧ decide ((⟨#[103, 101, 116, 97]⟩ : ByteArray).toList = (⟨#[109, 111, 118, 101]⟩ : ByteArray).toList) = false ∧ decide ((⟨#[103, 101, 116, 98]⟩ : ByteArray).toList = (⟨#[109, 111, 118, 101]⟩ : ByteArray).toList) = false := by decide +kernel
theorem nm15a : decide ((⟨#[112, 117, 116, 97]⟩ : ByteArray).toList = (⟨#[103, 101, 116, 97]⟩ : ByteArray).toList) = false ∧ decide ((⟨#[112, 117, 116, 98]⟩ : ByteArray).toList = (⟨#[103, 101, 116, 97]⟩ : ByteArray).toList) = false := by decide +kernel
theorem nm15b : decide ((⟨#[112, 117, 116, 97]⟩ : ByteArray).toList = (⟨#[112, 117, 116, 98]⟩ : ByteArray).toList) = false := by decide +kernel
theorem nm15c : decide ((⟨#[112, 117, 116, 97]⟩ : ByteArray).toList = (⟨#[103, 101, 116, 98]⟩ : ByteArray).toList) = false ∧ decide ((⟨#[112, 117, 116, 98]⟩ : ByteArray).toList = (⟨#[103, 101, 116, 98]⟩ : ByteArray).toList) = false ∧ decide ((⟨#[103, 101, 116, 97]⟩ : ByteArray).toList = (⟨#[103, 101, 116, 98]⟩ : ByteArray).toList) = false := by decide +kernel
theorem move15 {a b : List Int} (h : Wd (a ++ b)) (hl : (a ++ b).length ≤ 24) (h' : Wd (popL a ++ (if a = [] then b else b ++ [popR a]))) (hl' : (popL a ++ (if a = [] then b else b ++ [popR a])).length ≤ 24) :
    doS 15 1 (joinL a b) ⟨#[109, 111, 118, 101]⟩ 0 0 2 = some (joinL (popL a) (if a = [] then b else b ++ [popR a]), popR a, 0) :=
  do_step (rest := []) at15 (twin_join h hl) ((act_next (does_false nm15.1)).trans ((act_next (does_false nm15.2.1)).trans ((act_next (does_false nm15.2.2.1)).trans ((act_next (does_false nm15.2.2.2)).trans (act_first (does_true (by simp) takes_none (by decide) (by decide)))))))
    (by show noneD moveF (joinL a b) 0 0 2 = _; unfold noneD moveF; rw [join_A, join_B]) (twin_join h' hl')
theorem geta15 {a b : List Int} (h : Wd (a ++ b)) (hl : (a ++ b).length ≤ 24) (h' : Wd (popL a ++ b)) (hl' : (popL a ++ b).length ≤ 24) :
    doS 15 1 (joinL a b) ⟨#[103, 101, 116, 97]⟩ 0 0 2 = some (joinL (popL a) b, popR a, 0) :=
  do_step (rest := []) at15 (twin_join h hl) ((act_next (does_false nm15a.1)).trans ((act_next (does_false nm15a.2)).trans (act_first (does_true (by simp) takes_none (by decide) (by decide)))))
    (by show noneD getaF (joinL a b) 0 0 2 = _; unfold noneD getaF; rw [join_A, join_B]) (twin_join h' hl')
theorem putb15 {a b : List Int} {x : Int} (hx : 0 ≤ x ∧ x ≤ 900) (h : Wd (a ++ b)) (hl : (a ++ b).length ≤ 24) (h' : Wd (a ++ (b ++ [x]))) (hl' : (a ++ (b ++ [x])).length ≤ 24) :
    doS 15 1 (joinL a b) ⟨#[112, 117, 116, 98]⟩ x 0 2 = some (joinL a (b ++ [x]), 0, 0) :=
  do_step (rest := []) at15 (twin_join h hl) ((act_next (does_false nm15b)).trans (act_first (does_true (by simp) (takes_one hx.1 hx.2) (by decide) (by decide))))
    (by show putD (fun s x => s ++ [x]) (joinL a b) x 0 2 = _; unfold putD joinL; simp) (twin_join h' hl')
theorem getb15 {a b : List Int} (h : Wd (a ++ b)) (hl : (a ++ b).length ≤ 24) (h' : Wd (a ++ popL b)) (hl' : (a ++ popL b).length ≤ 24) :
    doS 15 1 (joinL a b) ⟨#[103, 101, 116, 98]⟩ 0 0 0 = some (joinL a (popL b), popR b, 0) :=
  do_step (rest := []) at15 (twin_join h hl) ((act_next (does_false nm15c.1)).trans ((act_next (does_false nm15c.2.1)).trans ((act_next (does_false nm15c.2.2)).trans (act_first (does_true (by simp) takes_none (by decide) (by decide))))))
    (by show noneD getbF (joinL a b) 0 0 0 = _; unfold noneD getbF; rw [join_A, join_B]) (twin_join h' hl')
theorem words0 (lo hi : Int) (s : List Int) : wordsR lo hi 0 s = inB lo hi s := by
  rw [Bool.eq_iff_iff]
  unfold wordsR inB
  rw [List.all_eq_true, List.all_eq_true]
  constructor
  · intro h x hx
    obtain ⟨j, hj, rfl⟩ := List.getElem_of_mem hx
    have := h j (List.mem_range.2 hj)
    unfold okR at this
    have := (Bool.and_eq_true_iff.1 this).1
    rw [List.getD_eq_getElem?_getD, List.getElem?_eq_getElem hj] at this
    exact this
  · intro h j hj
    have hj := List.mem_range.1 hj
    have := h _ (List.getElem_mem hj)
    unfold okR
    rw [List.getD_eq_getElem?_getD (l := s) (i := j), List.getElem?_eq_getElem hj]
    simp only [Option.getD_some]
    rw [show inR s[j] lo hi = true from this]
    simp
theorem valid15 (s : List Int) : validS 15 1 s = validR 15 1 s := by
  have hs : validS 15 1 s = twinB s := by unfold validS; rw [at15]; rfl
  have hb : bodyR 15 1 s = (decide (0 < s.length) && (inR (s.getD 0 0) 0 ((s.length : Int) - 1) && wordsR 0 900 0 (s.drop 1))) := rfl
  rw [hs]
  unfold validR
  rw [hb, words0, show ruleR 15 1 = true from rfl, Bool.true_and]
  unfold twinB sizeR wordsB inR
  rw [Bool.eq_iff_iff]
  simp only [Bool.and_eq_true, Bool.or_eq_true, decide_eq_true_eq, List.length_drop]
  constructor
  · rintro ⟨⟨⟨h1, h2⟩, h3⟩, h4, h5⟩
    exact ⟨⟨by omega, .inl trivial⟩, by omega, ⟨by omega, by omega⟩, h5⟩
  · rintro ⟨⟨h1, _⟩, h2, ⟨h3, h4⟩, h5⟩
    exact ⟨⟨⟨by omega, by omega⟩, by omega⟩, by omega, h5⟩
end Go.Proofs.YtiialjmpfeopjaaGreat.Sp
