/- The document's results of a call, and the states behind it, are the program's effects: laid together; no condition. -/
import Derived.Test.YtiialjmpfeopjaaGreatPwZ
namespace Go.Proofs.YtiialjmpfeopjaaGreat.Sp
open Go.RowKit Go.Sort Go.Proofs.YtiialjmpfeopjaaGreatW.PrintWords Go.Proofs.YtiialjmpfeopjaaGreatW.PrintLast Go.Proofs.YtiialjmpfeopjaaGreatW.PrintMore
set_option linter.unusedVariables false
set_option linter.unusedSimpArgs false
set_option maxRecDepth 100000
theorem doc_act {r n : Int} {R : RuleS} {s : List Int} {op : ByteArray} {x y t : Int} {a : ActS} (h : ruleS r n = some R) (hg : R.good s = true) (ha : actS R.acts op x y t = some a) : DocOK r n s op x y t (a.D s x y t) := by
  have hd := List.find?_some ha
  have hm := List.mem_of_find?_eq_some ha
  obtain ⟨hl, hp⟩ := fit_all r n s op x y t R a h hg ha
  unfold doesB at hd
  simp only [Bool.and_eq_true, decide_eq_true_eq] at hd
  obtain ⟨⟨⟨hnm, hk⟩, h0⟩, h1⟩ := hd
  obtain ⟨k, hkk⟩ := List.mem_iff_getElem?.1 hm
  clear ha hm
  obtain ⟨_, hc⟩ := ruleS_cases h
  rcases hc with ⟨rfl, rfl⟩ | ⟨rfl, rfl⟩ | ⟨rfl, rfl⟩ | ⟨rfl, rfl⟩ | ⟨rfl, rfl⟩ | ⟨rfl, rfl⟩ | ⟨rfl, rfl⟩ | ⟨rfl, rfl⟩ | ⟨rfl, rfl⟩ | ⟨rfl, rfl⟩ | ⟨rfl, rfl⟩ | ⟨rfl, rfl⟩ | ⟨rfl, rfl⟩ | ⟨rfl, rfl⟩ | ⟨rfl, rfl⟩ | ⟨rfl, rfl⟩
  · match k, hkk with
    | 0, e => exact doc_1_push e (by injection e with e; subst e; exact hnm.symm.trans (by decide +kernel)) hg hl hk hp
    | 1, e => exact doc_1_pop e (by injection e with e; subst e; exact hnm.symm.trans (by decide +kernel)) hg hl hk hp
    | k + 2, e => exact absurd e (by simp [rule1, setActs, snapActs, uniActs, pairActs, twinActs])
  · match k, hkk with
    | 0, e => exact doc_2_enq e (by injection e with e; subst e; exact hnm.symm.trans (by decide +kernel)) hg hl hk hp
    | 1, e => exact doc_2_deq e (by injection e with e; subst e; exact hnm.symm.trans (by decide +kernel)) hg hl hk hp
    | k + 2, e => exact absurd e (by simp [rule2, setActs, snapActs, uniActs, pairActs, twinActs])
  · match k, hkk with
    | 0, e => exact doc_3_enq e (by injection e with e; subst e; exact hnm.symm.trans (by show (⟨#[101, 110, 113]⟩ : ByteArray).toList = [101, 110, 113]; decide +kernel)) hg hl hk hp
    | 1, e => exact doc_3_deq e (by injection e with e; subst e; exact hnm.symm.trans (by show (⟨#[100, 101, 113]⟩ : ByteArray).toList = [100, 101, 113]; decide +kernel)) hg hl hk hp
    | k + 2, e => exact absurd e (by simp [rule3, setActs, snapActs, uniActs, pairActs, twinActs])
  · match k, hkk with
    | 0, e => exact doc_4_push e (by injection e with e; subst e; exact hnm.symm.trans (by decide +kernel)) hg hl hk hp
    | 1, e => exact doc_4_pop e (by injection e with e; subst e; exact hnm.symm.trans (by decide +kernel)) hg hl hk hp
    | 2, e => exact doc_4_steal e (by injection e with e; subst e; exact hnm.symm.trans (by decide +kernel)) hg hl hk hp
    | k + 3, e => exact absurd e (by simp [rule4, setActs, snapActs, uniActs, pairActs, twinActs])
  · match k, hkk with
    | 0, e => exact doc_5_put e (by injection e with e; subst e; exact hnm.symm.trans (by decide +kernel)) hg hl hk hp
    | 1, e => exact doc_5_take e (by injection e with e; subst e; exact hnm.symm.trans (by decide +kernel)) hg hl hk hp
    | k + 2, e => exact absurd e (by simp [rule5, setActs, snapActs, uniActs, pairActs, twinActs])
  · match k, hkk with
    | 0, e => exact doc_6_put e (by injection e with e; subst e; exact hnm.symm.trans (by decide +kernel)) hg hl hk hp
    | 1, e => exact doc_6_get e (by injection e with e; subst e; exact hnm.symm.trans (by decide +kernel)) hg hl hk hp
    | k + 2, e => exact absurd e (by simp [rule6, setActs, snapActs, uniActs, pairActs, twinActs])
  · match k, hkk with
    | 0, e => exact doc_7_add e (by injection e with e; subst e; exact hnm.symm.trans (by decide +kernel)) hg hl hk hp
    | 1, e => exact doc_7_rem e (by injection e with e; subst e; exact hnm.symm.trans (by decide +kernel)) hg hl hk hp
    | 2, e => exact doc_7_has e (by injection e with e; subst e; exact hnm.symm.trans (by decide +kernel)) hg hl hk hp
    | k + 3, e => exact absurd e (by simp [rule7, setActs, snapActs, uniActs, pairActs, twinActs])
  · match k, hkk with
    | 0, e => exact doc_8_add e (by injection e with e; subst e; exact hnm.symm.trans (by decide +kernel)) hg hl hk hp
    | 1, e => exact doc_8_rem e (by injection e with e; subst e; exact hnm.symm.trans (by decide +kernel)) hg hl hk hp
    | 2, e => exact doc_8_has e (by injection e with e; subst e; exact hnm.symm.trans (by decide +kernel)) hg hl hk hp
    | 3, e => exact doc_8_all e (by injection e with e; subst e; exact hnm.symm.trans (by decide +kernel)) hg hl hk hp
    | k + 4, e => exact absurd e (by simp [rule8, setActs, snapActs, uniActs, pairActs, twinActs])
  · match k, hkk with
    | 0, e => exact doc_9_next e (by injection e with e; subst e; exact hnm.symm.trans (by decide +kernel)) hg hl hk hp
    | k + 1, e => exact absurd e (by simp [rule9, setActs, snapActs, uniActs, pairActs, twinActs])
  · match k, hkk with
    | 0, e => exact doc_10_write e (by injection e with e; subst e; exact hnm.symm.trans (by decide +kernel)) hg hl hk hp
    | 1, e => exact doc_10_read e (by injection e with e; subst e; exact hnm.symm.trans (by decide +kernel)) hg hl hk hp
    | k + 2, e => exact absurd e (by simp [rule10, setActs, snapActs, uniActs, pairActs, twinActs])
  · match k, hkk with
    | 0, e => exact doc_11_update e (by injection e with e; subst e; exact hnm.symm.trans (by decide +kernel)) hg hl hk hp
    | 1, e => exact doc_11_scan e (by injection e with e; subst e; exact hnm.symm.trans (by decide +kernel)) hg hl hk hp
    | k + 2, e => exact absurd e (by simp [rule11, setActs, snapActs, uniActs, pairActs, twinActs])
  · match k, hkk with
    | 0, e => exact doc_12_unite e (by injection e with e; subst e; exact hnm.symm.trans (by decide +kernel)) hg hl hk hp
    | 1, e => exact doc_12_same e (by injection e with e; subst e; exact hnm.symm.trans (by decide +kernel)) hg hl hk hp
    | k + 2, e => exact absurd e (by simp [rule12, setActs, snapActs, uniActs, pairActs, twinActs])
  · match k, hkk with
    | 0, e => exact doc_13_put e (by injection e with e; subst e; exact hnm.symm.trans (by decide +kernel)) hg hl hk hp
    | 1, e => exact doc_13_move e (by injection e with e; subst e; exact hnm.symm.trans (by decide +kernel)) hg hl hk hp
    | 2, e => exact doc_13_both e (by injection e with e; subst e; exact hnm.symm.trans (by decide +kernel)) hg hl hk hp
    | k + 3, e => exact absurd e (by simp [rule13, setActs, snapActs, uniActs, pairActs, twinActs])
  · match k, hkk with
    | 0, e => exact doc_14_add e (by injection e with e; subst e; exact hnm.symm.trans (by decide +kernel)) hg hl hk hp
    | 1, e => exact doc_14_get e (by injection e with e; subst e; exact hnm.symm.trans (by decide +kernel)) hg hl hk hp
    | k + 2, e => exact absurd e (by simp [rule14, setActs, snapActs, uniActs, pairActs, twinActs])
  · match k, hkk with
    | 0, e => exact doc_15_puta e (by injection e with e; subst e; exact hnm.symm.trans (by decide +kernel)) hg hl hk hp
    | 1, e => exact doc_15_putb e (by injection e with e; subst e; exact hnm.symm.trans (by decide +kernel)) hg hl hk hp
    | 2, e => exact doc_15_geta e (by injection e with e; subst e; exact hnm.symm.trans (by decide +kernel)) hg hl hk hp
    | 3, e => exact doc_15_getb e (by injection e with e; subst e; exact hnm.symm.trans (by decide +kernel)) hg hl hk hp
    | 4, e => exact doc_15_move e (by injection e with e; subst e; exact hnm.symm.trans (by decide +kernel)) hg hl hk hp
    | k + 5, e => exact absurd e (by simp [rule15, setActs, snapActs, uniActs, pairActs, twinActs])
  · match k, hkk with
    | 0, e => exact doc_16_add e (by injection e with e; subst e; exact hnm.symm.trans (by decide +kernel)) hg hl hk hp
    | 1, e => exact doc_16_get e (by injection e with e; subst e; exact hnm.symm.trans (by decide +kernel)) hg hl hk hp
    | k + 2, e => exact absurd e (by simp [rule16, setActs, snapActs, uniActs, pairActs, twinActs])
end Go.Proofs.YtiialjmpfeopjaaGreat.Sp
