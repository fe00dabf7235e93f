/- A wide word and two registers: what write, read, update and scan do, by the rules' deeds alone: plain lemmas; no condition. -/
import Derived.Test.YtiialjmpfeopjaaPwF
namespace Go.Proofs.Ytiialjmpfeopjaa.Sp
open Go.RowKit Go.Sort Go.Proofs.YtiialjmpfeopjaaW.PrintWords Go.Proofs.YtiialjmpfeopjaaW.PrintLast Go.Proofs.YtiialjmpfeopjaaW.PrintMore
set_option linter.unusedVariables false
set_option linter.unusedSimpArgs false
set_option maxRecDepth 100000
theorem at10 : ruleS 10 1 = some rule10 := by
  unfold ruleS
  rw [if_neg (by omega)]
  repeat' (first | rw [if_neg (by omega)] | rw [if_pos rfl])
theorem at11 : ruleS 11 1 = some rule11 := by
  unfold ruleS
  rw [if_neg (by omega)]
  repeat' (first | rw [if_neg (by omega)] | rw [if_pos rfl])
theorem good10 {v : Int} (h : 0 ≤ v ∧ v ≤ 900) : rule10.good [v] = true := by
  show exactlyB 1 0 900 [v] = true
  simp [exactlyB, inB, h.1, h.2]
theorem good11 {a b : Int} (ha : 0 ≤ a ∧ a ≤ 900) (hb : 0 ≤ b ∧ b ≤ 900) : rule11.good [a, b] = true := by
  show exactlyB 2 0 900 [a, b] = true
  simp [exactlyB, inB, ha.1, ha.2, hb.1, hb.2]
theorem nm_write_read : decide ((⟨#[119, 114, 105, 116, 101]⟩ : ByteArray).toList = (⟨#[114, 101, 97, 100]⟩ : ByteArray).toList) = false := by decide +kernel
theorem nm_update_scan : decide ((⟨#[117, 112, 100, 97, 116, 101]⟩ : ByteArray).toList = (⟨#[115, 99, 97, 110]⟩ : ByteArray).toList) = false := by decide +kernel
theorem write10 {v x : Int} (hv : 0 ≤ v ∧ v ≤ 900) (hx : 0 ≤ x ∧ x ≤ 900) : doS 10 1 [v] ⟨#[119, 114, 105, 116, 101]⟩ x 0 3 = some ([x], 0, 0) :=
  do_step (rest := []) at10 (good10 hv) (act_first (does_true (by simp [writeA, putS]) (takes_one hx.1 hx.2) (by decide) (by decide))) rfl (good10 hx)
theorem read10 {v : Int} (hv : 0 ≤ v ∧ v ≤ 900) : doS 10 1 [v] ⟨#[114, 101, 97, 100]⟩ 0 0 0 = some ([v], 1001 * v + 1, 0) :=
  do_step (rest := []) at10 (good10 hv) ((act_next (does_false nm_write_read)).trans (act_first (does_true (by simp [readA, tellS]) takes_none (by decide) (by decide)))) rfl (good10 hv)
theorem scan11 {a b : Int} (ha : 0 ≤ a ∧ a ≤ 900) (hb : 0 ≤ b ∧ b ≤ 900) : doS 11 1 [a, b] ⟨#[115, 99, 97, 110]⟩ 0 0 3 = some ([a, b], 1000 * a + b, 0) :=
  do_step (rest := []) at11 (good11 ha hb) ((act_next (does_false nm_update_scan)).trans (act_first (does_true (by simp [tellS]) takes_none (by decide) (by decide)))) rfl (good11 ha hb)
theorem update11a {a b x : Int} (ha : 0 ≤ a ∧ a ≤ 900) (hb : 0 ≤ b ∧ b ≤ 900) (hx : 0 ≤ x ∧ x ≤ 900) : doS 11 1 [a, b] ⟨#[117, 112, 100, 97, 116, 101]⟩ x 0 0 = some ([x, b], 0, 0) :=
  do_step (rest := []) at11 (good11 ha hb) (act_first (does_true (by simp) (takes_one hx.1 hx.2) (by decide) (by decide))) rfl (good11 hx hb)
theorem update11b {a b x : Int} (ha : 0 ≤ a ∧ a ≤ 900) (hb : 0 ≤ b ∧ b ≤ 900) (hx : 0 ≤ x ∧ x ≤ 900) : doS 11 1 [a, b] ⟨#[117, 112, 100, 97, 116, 101]⟩ x 0 1 = some ([a, x], 0, 0) :=
  do_step (rest := []) at11 (good11 ha hb) (act_first (does_true (by simp) (takes_one hx.1 hx.2) (by decide) (by decide))) rfl (good11 ha hx)
theorem start10 : startS 10 1 = ([0], 0) := by unfold startS; rw [at10]; rfl
theorem start11 : startS 11 1 = ([0, 0], 0) := by unfold startS; rw [at11]; rfl
end Go.Proofs.Ytiialjmpfeopjaa.Sp
