/- Which calls a rule has: the program's test is the document's: plain lemmas; no condition. -/
import Derived.Test.YtiialjmpfeopjaaGreatRfM
namespace Go.Proofs.YtiialjmpfeopjaaGreat.Sp
open Go.RowKit Go.Sort Go.Proofs.YtiialjmpfeopjaaGreatW.PrintWords Go.Proofs.YtiialjmpfeopjaaGreatW.PrintLast Go.Proofs.YtiialjmpfeopjaaGreatW.PrintMore
set_option linter.unusedVariables false
set_option linter.unusedSimpArgs false
set_option maxRecDepth 100000
/-- An act and the document's form of it. -/
structure Like (a : ActS) (p : List UInt8 × FormT) : Prop where
  nm : a.name.toList = p.1
  fm : (a.args, a.lo, a.hi, a.thr) = p.2
  lo : 0 ≤ a.args
  hi : a.args ≤ 2
theorem does_like {a : ActS} {p : List UInt8 × FormT} (h : Like a p) (op : ByteArray) (x y t : Int) : doesB op x y t a = (isN op p.1 && mayF p.2 x y t) := by
  unfold doesB isN
  rw [h.nm, ← h.fm]
  have e : decide (p.1 = op.toList) = (op.toList == p.1) := by
    by_cases q : p.1 = op.toList
    · simp [q]
    · rw [decide_eq_false q]; simp; exact fun e => q e.symm
  rw [e]
  cases (op.toList == p.1) with
  | false => rfl
  | true =>
    rw [Bool.true_and, Bool.true_and]
    have h1 := h.lo
    have h2 := h.hi
    unfold takesB argB mayF inR
    dsimp only
    rw [decide_eq_false (show ¬ a.args < 0 by omega)]
    have hc : a.args = 0 ∨ a.args = 1 ∨ a.args = 2 := by omega
    rcases hc with c | c | c <;> rw [c] <;> by_cases t0 : 0 ≤ t <;> by_cases t1 : t < a.thr
    all_goals by_cases x0 : x = 0 <;> by_cases y0 : y = 0
    all_goals simp [t0, t1, x0, y0]
    all_goals (try omega)
    all_goals first
      | (have q1 : ¬ t < 0 := by omega
         have q2 : ¬ a.thr ≤ t := by omega
         simp [q1, q2])
      | (intros; omega)
      | skip
def Alike : List ActS → List (List UInt8 × FormT) → Prop
  | [], [] => True
  | a :: l, p :: m => Like a p ∧ (∀ q ∈ m, q.1 ≠ p.1) ∧ Alike l m
  | _, _ => False
theorem none_like : ∀ {l : List ActS} {m : List (List UInt8 × FormT)} {op : ByteArray} {x y t : Int}, Alike l m → (∀ q ∈ m, isN op q.1 = false) → l.find? (doesB op x y t) = none
  | [], [], _, _, _, _, _, _ => rfl
  | a :: l, p :: m, op, x, y, t, h, hn => by
    rw [List.find?_cons, does_like h.1, hn p (List.mem_cons_self ..), Bool.false_and]
    exact none_like h.2.2 (fun q hq => hn q (List.mem_cons_of_mem _ hq))
  | [], p :: m, _, _, _, _, h, _ => h.elim
  | a :: l, [], _, _, _, _, h, _ => h.elim
theorem may_like : ∀ {l : List ActS} {m : List (List UInt8 × FormT)} (op : ByteArray) (x y t : Int), Alike l m → (actS l op x y t).isSome = mayF (formOf m op) x y t
  | [], [], op, x, y, t, _ => by
    rw [form_nil]
    unfold mayF actS
    simp
  | a :: l, p :: m, op, x, y, t, h => by
    obtain ⟨p1, p2⟩ := p
    cases hn : isN op p1 with
    | true =>
      rw [form_hit hn]
      unfold actS
      rw [List.find?_cons, does_like h.1, hn, Bool.true_and]
      cases hm : mayF p2 x y t with
      | true => simp only [hm]; rfl
      | false =>
        simp only [hm]
        rw [none_like h.2.2 (fun q hq => by
          cases hq2 : isN op q.1 with
          | false => rfl
          | true =>
            have e1 : op.toList = q.1 := by unfold isN at hq2; simpa using hq2
            have e2 : op.toList = p1 := by unfold isN at hn; simpa using hn
            exact absurd (e1.symm.trans e2) (h.2.1 q hq))]
        rfl
    | false =>
      rw [form_pass hn]
      have ih := may_like (l := l) (m := m) op x y t h.2.2
      unfold actS at ih ⊢
      rw [List.find?_cons, does_like h.1, hn, Bool.false_and]
      exact ih
  | [], p :: m, _, _, _, _, h => h.elim
  | a :: l, [], _, _, _, _, h => h.elim
theorem alike1 : Alike rule1.acts forms1 := ⟨⟨by decide +kernel, rfl, by decide, by decide⟩, by decide, ⟨⟨by decide +kernel, rfl, by decide, by decide⟩, by decide, trivial⟩⟩
theorem alike2 : Alike rule2.acts forms2 := ⟨⟨by decide +kernel, rfl, by decide, by decide⟩, by decide, ⟨⟨by decide +kernel, rfl, by decide, by decide⟩, by decide, trivial⟩⟩
theorem alike3 (n : Int) : Alike (rule3 n).acts forms3 := ⟨⟨by show (⟨#[101, 110, 113]⟩ : ByteArray).toList = [101, 110, 113]; decide +kernel, rfl, show (0 : Int) ≤ 1 by decide, show (1 : Int) ≤ 2 by decide⟩, by decide, ⟨⟨by decide +kernel, rfl, by decide, by decide⟩, by decide, trivial⟩⟩
theorem alike4 : Alike rule4.acts forms4 := ⟨⟨by decide +kernel, rfl, by decide, by decide⟩, by decide, ⟨⟨by decide +kernel, rfl, by decide, by decide⟩, by decide, ⟨⟨by decide +kernel, rfl, by decide, by decide⟩, by decide, trivial⟩⟩⟩
theorem alike5 : Alike rule5.acts forms5 := ⟨⟨by decide +kernel, rfl, by decide, by decide⟩, by decide, ⟨⟨by decide +kernel, rfl, by decide, by decide⟩, by decide, trivial⟩⟩
theorem alike6 : Alike rule6.acts forms6 := ⟨⟨by decide +kernel, rfl, by decide, by decide⟩, by decide, ⟨⟨by decide +kernel, rfl, by decide, by decide⟩, by decide, trivial⟩⟩
theorem alike7 : Alike rule7.acts forms7 := ⟨⟨by decide +kernel, rfl, by decide, by decide⟩, by decide, ⟨⟨by decide +kernel, rfl, by decide, by decide⟩, by decide, ⟨⟨by decide +kernel, rfl, by decide, by decide⟩, by decide, trivial⟩⟩⟩
theorem alike8 : Alike rule8.acts forms8 := ⟨⟨by decide +kernel, rfl, by decide, by decide⟩, by decide, ⟨⟨by decide +kernel, rfl, by decide, by decide⟩, by decide, ⟨⟨by decide +kernel, rfl, by decide, by decide⟩, by decide, ⟨⟨by decide +kernel, rfl, by decide, by decide⟩, by decide, trivial⟩⟩⟩⟩
theorem alike9 : Alike rule9.acts forms9 := ⟨⟨by decide +kernel, rfl, by decide, by decide⟩, by decide, trivial⟩
theorem alike10 : Alike rule10.acts forms10 := ⟨⟨by decide +kernel, rfl, by decide, by decide⟩, by decide, ⟨⟨by decide +kernel, rfl, by decide, by decide⟩, by decide, trivial⟩⟩
theorem alike11 : Alike rule11.acts forms11 := ⟨⟨by decide +kernel, rfl, by decide, by decide⟩, by decide, ⟨⟨by decide +kernel, rfl, by decide, by decide⟩, by decide, trivial⟩⟩
theorem alike12 : Alike rule12.acts forms12 := ⟨⟨by decide +kernel, rfl, by decide, by decide⟩, by decide, ⟨⟨by decide +kernel, rfl, by decide, by decide⟩, by decide, trivial⟩⟩
theorem alike13 : Alike rule13.acts forms13 := ⟨⟨by decide +kernel, rfl, by decide, by decide⟩, by decide, ⟨⟨by decide +kernel, rfl, by decide, by decide⟩, by decide, ⟨⟨by decide +kernel, rfl, by decide, by decide⟩, by decide, trivial⟩⟩⟩
theorem alike14 : Alike rule14.acts forms14 := ⟨⟨by decide +kernel, rfl, by decide, by decide⟩, by decide, ⟨⟨by decide +kernel, rfl, by decide, by decide⟩, by decide, trivial⟩⟩
theorem alike15 : Alike rule15.acts forms15 := ⟨⟨by decide +kernel, rfl, by decide, by decide⟩, by decide, ⟨⟨by decide +kernel, rfl, by decide, by decide⟩, by decide, ⟨⟨by decide +kernel, rfl, by decide, by decide⟩, by decide, ⟨⟨by decide +kernel, rfl, by decide, by decide⟩, by decide, ⟨⟨by decide +kernel, rfl, by decide, by decide⟩, by decide, trivial⟩⟩⟩⟩⟩
theorem alike16 : Alike rule16.acts forms16 := ⟨⟨by decide +kernel, rfl, by decide, by decide⟩, by decide, ⟨⟨by decide +kernel, rfl, by decide, by decide⟩, by decide, trivial⟩⟩
theorem alike {r n : Int} {R : RuleS} (h : ruleS r n = some R) : Alike R.acts (formsR r) := by
  obtain ⟨_, hc⟩ := ruleS_cases h
  rcases hc with ⟨rfl, rfl⟩ | ⟨rfl, rfl⟩ | ⟨rfl, rfl⟩ | ⟨rfl, rfl⟩ | ⟨rfl, rfl⟩ | ⟨rfl, rfl⟩ | ⟨rfl, rfl⟩ | ⟨rfl, rfl⟩ | ⟨rfl, rfl⟩ | ⟨rfl, rfl⟩ | ⟨rfl, rfl⟩ | ⟨rfl, rfl⟩ | ⟨rfl, rfl⟩ | ⟨rfl, rfl⟩ | ⟨rfl, rfl⟩ | ⟨rfl, rfl⟩
  · exact alike1
  · exact alike2
  · exact alike3 n
  · exact alike4
  · exact alike5
  · exact alike6
  · exact alike7
  · exact alike8
  · exact alike9
  · exact alike10
  · exact alike11
  · exact alike12
  · exact alike13
  · exact alike14
  · exact alike15
  · exact alike16
theorem may_act {r n : Int} {R : RuleS} (h : ruleS r n = some R) (op : ByteArray) (x y t : Int) : (actS R.acts op x y t).isSome = mayR r op x y t := may_like op x y t (alike h)
theorem forms_far {r : Int} (h : r < 1 ∨ 16 < r) : formsR r = [] := by
  unfold formsR
  rw [if_neg (show ¬ r = 1 by omega)]
  rw [if_neg (show ¬ r = 2 by omega)]
  rw [if_neg (show ¬ r = 3 by omega)]
  rw [if_neg (show ¬ r = 4 by omega)]
  rw [if_neg (show ¬ r = 5 by omega)]
  rw [if_neg (show ¬ r = 6 by omega)]
  rw [if_neg (show ¬ r = 7 by omega)]
  rw [if_neg (show ¬ r = 8 by omega)]
  rw [if_neg (show ¬ r = 9 by omega)]
  rw [if_neg (show ¬ r = 10 by omega)]
  rw [if_neg (show ¬ r = 11 by omega)]
  rw [if_neg (show ¬ r = 12 by omega)]
  rw [if_neg (show ¬ r = 13 by omega)]
  rw [if_neg (show ¬ r = 14 by omega)]
  rw [if_neg (show ¬ r = 15 by omega)]
  rw [if_neg (show ¬ r = 16 by omega)]
theorem may_eq (r : Int) (op : ByteArray) (x y t : Int) : mayS r op x y t = mayR r op x y t := by
  unfold mayS
  cases h : ruleS r 1 with
  | some R => exact may_act h op x y t
  | none =>
    have hr : r < 1 ∨ 16 < r := by
      by_cases q : r < 1 ∨ 16 < r
      · exact q
      · exfalso
        have hc : r = 1 ∨ r = 2 ∨ r = 3 ∨ r = 4 ∨ r = 5 ∨ r = 6 ∨ r = 7 ∨ r = 8 ∨ r = 9 ∨ r = 10 ∨ r = 11 ∨ r = 12 ∨ r = 13 ∨ r = 14 ∨ r = 15 ∨ r = 16 := by omega
        rcases hc with rfl | rfl | rfl | rfl | rfl | rfl | rfl | rfl | rfl | rfl | rfl | rfl | rfl | rfl | rfl | rfl <;> exact absurd h (by simp [ruleS])
    unfold mayR
    rw [forms_far hr, form_nil]
    unfold mayF
    simp
end Go.Proofs.YtiialjmpfeopjaaGreat.Sp
