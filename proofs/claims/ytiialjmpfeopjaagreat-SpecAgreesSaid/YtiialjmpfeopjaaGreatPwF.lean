/- A pair goes: what put, move and both do, by the rules' deeds alone: plain lemmas; no condition. -/
import Derived.Test.YtiialjmpfeopjaaGreatPwD
namespace Go.Proofs.YtiialjmpfeopjaaGreat.Sp
open Go.RowKit Go.Sort Go.Proofs.YtiialjmpfeopjaaGreatW.PrintWords Go.Proofs.YtiialjmpfeopjaaGreatW.PrintLast Go.Proofs.YtiialjmpfeopjaaGreatW.PrintMore
set_option linter.unusedVariables false
set_option linter.unusedSimpArgs false
set_option maxRecDepth 100000
theorem at13 : ruleS 13 1 = some rule13 := by
  unfold ruleS
  rw [if_neg (by omega)]
  repeat' (first | rw [if_neg (by omega)] | rw [if_pos rfl])
theorem good13 {a b : Int} (ha : 0 ≤ a ∧ a ≤ 99) (hb : 0 ≤ b ∧ b ≤ 99) : rule13.good [a, b] = true := by
  show exactlyB 2 0 99 [a, b] = true
  simp [exactlyB, inB, ha.1, ha.2, hb.1, hb.2]
theorem nm_put_move : decide ((⟨#[112, 117, 116]⟩ : ByteArray).toList = (⟨#[109, 111, 118, 101]⟩ : ByteArray).toList) = false := by decide +kernel
theorem nm_put_both : decide ((⟨#[112, 117, 116]⟩ : ByteArray).toList = (⟨#[98, 111, 116, 104]⟩ : ByteArray).toList) = false := by decide +kernel
theorem nm_move_both : decide ((⟨#[109, 111, 118, 101]⟩ : ByteArray).toList = (⟨#[98, 111, 116, 104]⟩ : ByteArray).toList) = false := by decide +kernel
theorem put13 (a b x : Int) (ha : 0 ≤ a ∧ a ≤ 99) (hb : 0 ≤ b ∧ b ≤ 99) (hx : 0 ≤ x ∧ x ≤ 99) :
    (99 < a + x ∧ doS 13 1 [a, b] ⟨#[112, 117, 116]⟩ x 0 3 = some ([a, b], 0, 0)) ∨ (a + x ≤ 99 ∧ doS 13 1 [a, b] ⟨#[112, 117, 116]⟩ x 0 3 = some ([a + x, b], 1, 0)) := by
  have hact : actS rule13.acts ⟨#[112, 117, 116]⟩ x 0 3 = some ⟨⟨#[112, 117, 116]⟩, 1, 0, 99, 4, false, changePre, changeD fun a b x => (a + x, b)⟩ := act_first (does_true (by simp) (takes_one hx.1 hx.2) (by decide) (by decide))
  by_cases h : 99 < a + x
  · refine .inl ⟨h, do_step (rest := []) at13 (good13 ha hb) hact ?_ (good13 ha hb)⟩
    show changeD (fun a b x => (a + x, b)) [a, b] x 0 3 = _
    unfold changeD
    rw [if_pos (by simp; omega)]
  · refine .inr ⟨by omega, do_step (rest := []) at13 (good13 ha hb) hact ?_ (good13 (by omega) hb)⟩
    show changeD (fun a b x => (a + x, b)) [a, b] x 0 3 = _
    unfold changeD
    rw [if_neg (by simp; omega)]
    rfl
theorem move13 (a b x : Int) (ha : 0 ≤ a ∧ a ≤ 99) (hb : 0 ≤ b ∧ b ≤ 99) (hx : 0 ≤ x ∧ x ≤ 99) :
    doS 13 1 [a, b] ⟨#[109, 111, 118, 101]⟩ x 0 3 = some ([a, b], 0, 0) ∨ ((0 ≤ a - x ∧ b + x ≤ 99) ∧ doS 13 1 [a, b] ⟨#[109, 111, 118, 101]⟩ x 0 3 = some ([a - x, b + x], 1, 0)) := by
  have hact : actS rule13.acts ⟨#[109, 111, 118, 101]⟩ x 0 3 = some ⟨⟨#[109, 111, 118, 101]⟩, 1, 0, 99, 4, false, changePre, changeD fun a b x => (a - x, b + x)⟩ := (act_next (does_false nm_put_move)).trans (act_first (does_true (by simp) (takes_one hx.1 hx.2) (by decide) (by decide)))
  by_cases h : a - x < 0 ∨ 99 < b + x
  · refine .inl (do_step (rest := []) at13 (good13 ha hb) hact ?_ (good13 ha hb))
    show changeD (fun a b x => (a - x, b + x)) [a, b] x 0 3 = _
    unfold changeD
    rw [if_pos (by simp; omega)]
  · refine .inr ⟨by omega, do_step (rest := []) at13 (good13 ha hb) hact ?_ (good13 (by omega) (by omega))⟩
    show changeD (fun a b x => (a - x, b + x)) [a, b] x 0 3 = _
    unfold changeD
    rw [if_neg (by simp; omega)]
    rfl
theorem both13 (a b : Int) (ha : 0 ≤ a ∧ a ≤ 99) (hb : 0 ≤ b ∧ b ≤ 99) : doS 13 1 [a, b] ⟨#[98, 111, 116, 104]⟩ 0 0 0 = some ([a, b], 1000 * a + b, 0) :=
  do_step (rest := []) at13 (good13 ha hb) ((act_next (does_false nm_put_both)).trans ((act_next (does_false nm_move_both)).trans (act_first (does_true (by simp) takes_none (by decide) (by decide))))) rfl (good13 ha hb)
theorem start13 : startS 13 1 = ([0, 0], 0) := by unfold startS; rw [at13]; rfl
end Go.Proofs.YtiialjmpfeopjaaGreat.Sp
