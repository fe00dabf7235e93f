/- What calls tell, one after the other, by the rules' deeds alone: plain lemmas; no condition. -/
import Derived.Test.YtiialjmpfeopjaaGreatSm5
namespace Go.Proofs.YtiialjmpfeopjaaGreat.Sp
open Go.RowKit Go.Sort Go.Proofs.YtiialjmpfeopjaaGreatW.PrintWords Go.Proofs.YtiialjmpfeopjaaGreatW.PrintLast Go.Proofs.YtiialjmpfeopjaaGreatW.PrintMore
set_option linter.unusedVariables false
set_option linter.unusedSimpArgs false
set_option maxRecDepth 100000
theorem eff_step {r n : Int} {R : RuleS} {a : ActS} {s : List Int} {op : ByteArray} {x y t : Int} (hR : ruleS r n = some R) (hg : R.good s = true) (ha : actS R.acts op x y t = some a) : effS r n s op x y t = some (a.D s x y t) := by
  unfold effS
  rw [hR]
  simp only [hg, if_true, ha, Option.map_some]
theorem do_step {r n : Int} {R : RuleS} {a : ActS} {s s' : List Int} {op : ByteArray} {x y t o : Int} {rest : List Eff} (hR : ruleS r n = some R) (hg : R.good s = true) (ha : actS R.acts op x y t = some a) (hD : a.D s x y t = (o, s') :: rest) (hg' : R.good s' = true) : doS r n s op x y t = some (s', o, 0) := by
  unfold doS
  rw [eff_step hR hg ha, hD]
  have h1 := good_len hR hg'
  have h2 : validS r n s' = true := by unfold validS; rw [hR]; exact hg'
  simp only [h2, if_true]
  rw [if_pos (by omega)]
/-- The calls go: each tells one number, and none is refused. -/
def Goes (r n : Int) : List CallT → List Int → List Int → List Int → Prop
  | [], s, out, s' => out = [] ∧ s' = s
  | c :: l, s, out, s' => ∃ s1 o out', doS r n s c.1 c.2.1 c.2.2 0 = some (s1, o, 0) ∧ s1.length ≤ 17592186044416 ∧ out = o :: out' ∧ Goes r n l s1 out' s'
theorem Goes.one {r n : Int} {c : CallT} {s s1 : List Int} {o : Int} (h : doS r n s c.1 c.2.1 c.2.2 0 = some (s1, o, 0)) (hl : s1.length ≤ 17592186044416) : Goes r n [c] s [o] s1 := ⟨s1, o, [], h, hl, rfl, rfl, rfl⟩
theorem Goes.cons {r n : Int} {c : CallT} {l : List CallT} {s s1 s2 : List Int} {o : Int} {out : List Int} (h : doS r n s c.1 c.2.1 c.2.2 0 = some (s1, o, 0)) (hl : s1.length ≤ 17592186044416) (g : Goes r n l s1 out s2) : Goes r n (c :: l) s (o :: out) s2 := ⟨s1, o, out, h, hl, rfl, g⟩
theorem Goes.append {r n : Int} {l2 : List CallT} {s1 s2 o2 : List Int} : ∀ {l1 : List CallT} {s o1 : List Int}, Goes r n l1 s o1 s1 → Goes r n l2 s1 o2 s2 → Goes r n (l1 ++ l2) s (o1 ++ o2) s2
  | [], s, o1, ⟨h1, h2⟩, g => by subst h1 h2; exact g
  | c :: l, s, o1, ⟨s3, o, out, h1, h2, h3, h4⟩, g => by
    subst h3
    exact ⟨s3, o, out ++ o2, h1, h2, rfl, Goes.append h4 g⟩
theorem Goes.len {r n : Int} : ∀ {l : List CallT} {s o s' : List Int}, Goes r n l s o s' → o.length = l.length
  | [], s, o, s', ⟨h1, _⟩ => by rw [h1]; rfl
  | c :: l, s, o, s', ⟨s3, o1, out, h1, h2, h3, h4⟩ => by rw [h3, List.length_cons, List.length_cons, Goes.len h4]
theorem goes_runL {r n : Int} : ∀ {l : List CallT} {s o s' : List Int} (acc : List Int), Goes r n l s o s' → runL r n l s acc = some (acc ++ o, s', 0)
  | [], s, o, s', acc, ⟨h1, h2⟩ => by subst h1 h2; simp [runL]
  | c :: l, s, o, s', acc, ⟨s3, o1, out, h1, h2, h3, h4⟩ => by
    subst h3
    simp only [runL, h1, if_true]
    rw [if_pos h2, goes_runL _ h4]
    simp
theorem goes_run {r n : Int} {R : RuleS} {l : List CallT} {o s' : List Int} (hR : ruleS r n = some R) (hs : R.start.length ≤ 17592186044416) (hl : l.length ≤ 24) (h : Goes r n l R.start o s') : runS r n l = some (o, s', 0) := by
  unfold runS startS
  rw [hR]
  simp only
  rw [if_neg (by omega), if_pos hs, goes_runL _ h]
  simp
theorem does_false {op : ByteArray} {x y t : Int} {a : ActS} (h : decide (a.name.toList = op.toList) = false) : doesB op x y t a = false := by
  unfold doesB; rw [h]; rfl
theorem does_true {op : ByteArray} {x y t : Int} {a : ActS} (h : decide (a.name.toList = op.toList) = true) (hk : takesB a x y = true) (h0 : 0 ≤ t) (h1 : t < a.thr) : doesB op x y t a = true := by
  unfold doesB; rw [h, hk]; simp [h0, h1]
theorem act_first {op : ByteArray} {x y t : Int} {a : ActS} {l : List ActS} (h : doesB op x y t a = true) : actS (a :: l) op x y t = some a := by
  unfold actS; rw [List.find?_cons, h]
theorem act_next {op : ByteArray} {x y t : Int} {a : ActS} {l : List ActS} (h : doesB op x y t a = false) : actS (a :: l) op x y t = actS l op x y t := by
  unfold actS; rw [List.find?_cons, h]
theorem takes_one {nm : ByteArray} {lo hi thr : Int} {rd : Bool} {pre : List Int → Int → Int → Int → Prop} {D : Deed} {x : Int} (h0 : lo ≤ x) (h1 : x ≤ hi) : takesB ⟨nm, 1, lo, hi, thr, rd, pre, D⟩ x 0 = true := by
  simp [takesB, argB, h0, h1]
theorem takes_none {nm : ByteArray} {lo hi thr : Int} {rd : Bool} {pre : List Int → Int → Int → Int → Prop} {D : Deed} : takesB ⟨nm, 0, lo, hi, thr, rd, pre, D⟩ 0 0 = true := by
  simp [takesB, argB]
theorem inB_append {lo hi : Int} {a b : List Int} : inB lo hi (a ++ b) = (inB lo hi a && inB lo hi b) := by simp [inB]
theorem inB_iff {lo hi : Int} {a : List Int} : inB lo hi a = true ↔ ∀ x ∈ a, lo ≤ x ∧ x ≤ hi := by simp [inB]
theorem words_iff {m h : Int} {s : List Int} : wordsB m h s = true ↔ (s.length : Int) ≤ m ∧ ∀ x ∈ s, 0 ≤ x ∧ x ≤ h := by
  unfold wordsB; rw [Bool.and_eq_true, decide_eq_true_eq, inB_iff]
/-- What a number of the input is made to. -/
theorem word_mod (z m : Int) (hm : 0 < m) (hm2 : m ≤ 1000000) : 0 ≤ wrap64 (Int.tmod (IntKind.u64.wrap z) m) ∧ wrap64 (Int.tmod (IntKind.u64.wrap z) m) < m := by
  have h0 : 0 ≤ IntKind.u64.wrap z := by unfold IntKind.wrap; simp [IntKind.signed, IntKind.bits]; omega
  have h1 := Int.tmod_nonneg m h0
  have h2 := Int.tmod_lt_of_pos (IntKind.u64.wrap z) hm
  have h3 : wrap64 (Int.tmod (IntKind.u64.wrap z) m) = Int.tmod (IntKind.u64.wrap z) m := by unfold wrap64; omega
  rw [h3]; exact ⟨h1, h2⟩
end Go.Proofs.YtiialjmpfeopjaaGreat.Sp
