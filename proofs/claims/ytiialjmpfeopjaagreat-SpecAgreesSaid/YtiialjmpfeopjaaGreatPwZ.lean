/- The document's results of a call, and the states behind it, are the program's effects: lemmas over the walks; no condition. -/
import Derived.Test.YtiialjmpfeopjaaGreatRfJ
import Derived.Test.YtiialjmpfeopjaaGreatPwM
import Derived.Test.YtiialjmpfeopjaaGreatSm6
import Derived.Test.YtiialjmpfeopjaaGreatPwB
import Derived.Test.YtiialjmpfeopjaaGreatPwV
import Derived.Test.YtiialjmpfeopjaaGreatPwG
namespace Go.Proofs.YtiialjmpfeopjaaGreat.Sp
open Go.RowKit Go.Sort Go.Proofs.YtiialjmpfeopjaaGreatW.PrintWords Go.Proofs.YtiialjmpfeopjaaGreatW.PrintLast Go.Proofs.YtiialjmpfeopjaaGreatW.PrintMore
set_option linter.unusedVariables false
set_option linter.unusedSimpArgs false
set_option maxRecDepth 100000
/-- The document tells just these effects. -/
structure DocOK (r n : Int) (s : List Int) (op : ByteArray) (x y t : Int) (E : List Eff) : Prop where
  res : ∀ A c W, Rd W A s → s.length ≤ c → ResAt r n A c s op x y t W (E.map (·.1))
  nxt : ∀ q A c W, Rd W A s → s.length ≤ c → NextAt r n A c s op x y t q W (match idxE q E with | some k => (E.getD k (0, [])).2 | none => []) (idxE q E).isSome
  ne : E ≠ []
def OneOK (r n : Int) (s : List Int) (op : ByteArray) (x y t o : Int) (l : List Int) : Prop := ∀ A c W, Rd W A s → s.length ≤ c → OneAt r n A c s op x y t W o l
theorem idx_one {o q : Int} {l : List Int} : idxE q [(o, l)] = if q = o then some 0 else none := by
  unfold idxE
  by_cases h : q = o
  · subst h; rw [if_pos rfl]; simp
  · rw [if_neg h, List.findIdx?_eq_none_iff]
    intro e he
    rw [List.mem_singleton.1 he]
    simpa using fun e => h e.symm
theorem doc_one {r n : Int} {s : List Int} {op : ByteArray} {x y t o : Int} {l : List Int} (H : OneOK r n s op x y t o l) (hl : s.length ≤ 1000) (h9 : r ≠ 9) (h6 : r ≠ 6 ∨ (op.toList == [103, 101, 116]) = false ∨ ((op.toList == [103, 101, 116]) = true ∧ s = [])) : DocOK r n s op x y t [(o, l)] where
  ne := by simp
  res A c W hr hc := by
    have HH : ∀ W, Rd W A s → OneAt r n A c s op x y t W o l := fun W h => H A c W h hc
    have b9 : (r == 9) = false := by simpa using h9
    by_cases e6 : r = 6
    · rcases h6 with q | q | ⟨q1, q2⟩
      · exact absurd e6 q
      · exact res_one6a r n A c s op x y t W hr hc hl HH e6 q
      · exact res_one6b r n A c s op x y t W hr hc hl HH e6 q1 q2
    · exact res_one r n A c s op x y t W hr hc hl HH b9 (by simpa using e6)
  nxt q A c W hr hc := by
    have HH : ∀ W, Rd W A s → OneAt r n A c s op x y t W o l := fun W h => H A c W h hc
    have b9 : (r == 9) = false := by simpa using h9
    have HR : ∀ W, Rd W A s → ResAt r n A c s op x y t W [o] := fun W hr => by
      by_cases e6 : r = 6
      · rcases h6 with q | q | ⟨q1, q2⟩
        · exact absurd e6 q
        · exact res_one6a r n A c s op x y t W hr hc hl HH e6 q
        · exact res_one6b r n A c s op x y t W hr hc hl HH e6 q1 q2
      · exact res_one r n A c s op x y t W hr hc hl HH b9 (by simpa using e6)
    rw [idx_one]
    by_cases hq : q = o
    · rw [if_pos hq]
      have hm : q ∈ [o] := by rw [hq]; simp
      show NextAt r n A c s op x y t q W l true
      by_cases e6 : r = 6
      · rcases h6 with z | z | ⟨z1, z2⟩
        · exact absurd e6 z
        · exact nxt_one6a r n A c s op x y t W hr hc hl q HR HH hm e6 z
        · exact nxt_one6b r n A c s op x y t W hr hc hl q HR HH hm e6 z1 z2
      · exact nxt_one r n A c s op x y t W hr hc hl q HR HH hm b9 (by simpa using e6)
    · rw [if_neg hq]
      exact nxt_no r n A c s op x y t W hr hc hl q HR (by simpa using hq)
theorem idx_map {q : Int} {E : List Eff} (h : q ∉ E.map (·.1)) : idxE q E = none := by
  unfold idxE
  rw [List.findIdx?_eq_none_iff]
  intro e he
  cases hq : (e.1 == q) with
  | false => rfl
  | true =>
    have : e.1 = q := by simpa using hq
    exact absurd (List.mem_map.2 ⟨e, he, this⟩) h
theorem idx_hit {q : Int} {E : List Eff} (h : q ∈ E.map (·.1)) : ∃ k, idxE q E = some k ∧ k < E.length ∧ (E.getD k (0, [])).1 = q ∧ E.getD k (0, []) ∈ E := by
  cases hi : idxE q E with
  | none =>
    obtain ⟨e, he, hq⟩ := List.mem_map.1 h
    unfold idxE at hi
    rw [List.findIdx?_eq_none_iff] at hi
    have := hi e he
    rw [hq] at this
    simp at this
  | some k =>
    have hk := idxE_lt hi
    unfold idxE at hi
    rw [List.findIdx?_eq_some_iff_getElem] at hi
    obtain ⟨_, h2, _⟩ := hi
    have hd : E.getD k (0, []) = E[k] := by rw [List.getD_eq_getElem?_getD, List.getElem?_eq_getElem hk]; rfl
    refine ⟨k, rfl, hk, ?_, ?_⟩
    · rw [hd]; simpa using h2
    · rw [hd]; exact List.getElem_mem hk
theorem doc_nine {n : Int} {s : List Int} {op : ByteArray} {x y t : Int} (hl : s.length ≤ 1000) (hs : s.Pairwise (· ≤ ·)) (hne : ticketL s (s.length + 13) ≠ []) : DocOK 9 n s op x y t (ticketL s (s.length + 13)) where
  ne := hne
  res A c W hr hc := by rw [ticket_free]; exact res_9 n A c s op x y t W hr hc hl
  nxt q A c W hr hc := by
    have HR : ∀ W, Rd W A s → ResAt 9 n A c s op x y t W ((ticketL s (s.length + 13)).map (·.1)) := fun W hr => by rw [ticket_free]; exact res_9 n A c s op x y t W hr hc hl
    by_cases hm : q ∈ (ticketL s (s.length + 13)).map (·.1)
    · obtain ⟨k, hk, hkl, h1, h2⟩ := idx_hit hm
      rw [hk]
      have h4 : ((ticketL s (s.length + 13)).getD k (0, [])).2 = insL s q := by
        unfold ticketL at h2
        obtain ⟨m, hm2, he⟩ := List.mem_map.1 h2
        change ((m : Int), insL s (m : Int)) = (ticketL s (s.length + 13)).getD k (0, []) at he
        rw [← h1, ← he]
      show NextAt 9 n A c s op x y t q W ((ticketL s (s.length + 13)).getD k (0, [])).2 true
      rw [h4]
      exact nxt_9 n A c s op x y t W hr hc hl q HR hm hs
    · rw [idx_map hm]
      exact nxt_no 9 n A c s op x y t W hr hc hl q HR hm
theorem doc_get {n : Int} {s : List Int} {op : ByteArray} {x y t : Int} (hl : s.length ≤ 1000) (h0 : 0 < s.length) (hs : s.Pairwise (· ≤ ·)) (hg : (op.toList == [103, 101, 116]) = true) : DocOK 6 n s op x y t (whichL s s.length) where
  ne := fun e => by
    have : (s.getD 0 0, s.eraseIdx 0) ∈ whichL s s.length := List.mem_map.2 ⟨0, List.mem_filter.2 ⟨List.mem_range.2 h0, rfl⟩, rfl⟩
    rw [e] at this
    cases this
  res A c W hr hc := res_get n A c s op x y t W hr hc hl hg h0
  nxt q A c W hr hc := by
    have HR : ∀ W, Rd W A s → ResAt 6 n A c s op x y t W ((whichL s s.length).map (·.1)) := fun W hr => res_get n A c s op x y t W hr hc hl hg h0
    by_cases hm : q ∈ (whichL s s.length).map (·.1)
    · obtain ⟨k, hk, hkl, h1, h2⟩ := idx_hit hm
      rw [hk]
      unfold whichL at h2
      obtain ⟨i, hi, he⟩ := List.mem_map.1 h2
      change (s.getD i 0, s.eraseIdx i) = (whichL s s.length).getD k (0, []) at he
      have hil := List.mem_range.1 (List.mem_filter.1 hi).1
      have hin := (List.mem_filter.1 hi).2
      have hqi : s.getD i 0 = q := by rw [← h1, ← he]
      show NextAt 6 n A c s op x y t q W ((whichL s s.length).getD k (0, [])).2 true
      rw [← he]
      have hms : q ∈ s := by rw [← hqi, List.getD_eq_getElem?_getD, List.getElem?_eq_getElem hil]; exact List.getElem_mem hil
      have hp : s.eraseIdx i = s.eraseIdx (placeI s q).toNat := by
        have : placeI s q = (i : Int) := place_hit hil (fun j hj => by
          have h3 : s.getD j 0 ≤ s.getD (i - 1) 0 := by
            rw [List.getD_eq_getElem?_getD, List.getD_eq_getElem?_getD, List.getElem?_eq_getElem (show j < s.length by omega), List.getElem?_eq_getElem (show i - 1 < s.length by omega)]
            by_cases e : j = i - 1
            · subst e; exact Int.le_refl _
            · exact List.pairwise_iff_getElem.1 hs j (i - 1) (by omega) (by omega) (by omega)
          have h4 : s.getD (i - 1) 0 ≤ s.getD i 0 := by
            rw [List.getD_eq_getElem?_getD, List.getD_eq_getElem?_getD, List.getElem?_eq_getElem hil, List.getElem?_eq_getElem (show i - 1 < s.length by omega)]
            exact List.pairwise_iff_getElem.1 hs (i - 1) i (by omega) hil (by omega)
          have h5 : s.getD (i - 1) 0 ≠ s.getD i 0 := by
            unfold isNew at hin
            have hz : (i == 0) = false := by simp; omega
            rw [hz, Bool.false_or] at hin
            simpa using hin
          have h6 : s.getD j 0 ≠ q := by rw [← hqi]; omega
          simpa using h6) (by rw [hqi]; simp)
        rw [this, Int.toNat_natCast]
      show NextAt 6 n A c s op x y t q W (s.eraseIdx i) true
      rw [hp]
      exact nxt_get n A c s op x y t W hr hc hl q HR hm hms hg
    · rw [idx_map hm]
      exact nxt_no 6 n A c s op x y t W hr hc hl q HR hm
theorem asc_pw : ∀ {s : List Int}, ascB s = true → s.Pairwise (· ≤ ·)
  | [], _ => List.Pairwise.nil
  | [a], _ => by simp
  | a :: b :: r, h => by
    simp only [ascB, Bool.and_eq_true, decide_eq_true_eq] at h
    have ih := asc_pw h.2
    refine List.pairwise_cons.2 ⟨fun z hz => ?_, ih⟩
    rcases List.mem_cons.1 hz with e | e
    · rw [e]; exact h.1
    · have := (List.pairwise_cons.1 ih).1 z e; omega
theorem asc_good {hi : Int} {d : Bool} {s : List Int} (h : ascendingB hi d s = true) : s.Pairwise (· ≤ ·) := by
  unfold ascendingB at h
  simp only [Bool.and_eq_true] at h
  exact asc_pw h.2.2
theorem two_in {lo hi : Int} {s : List Int} (h : exactlyB 2 lo hi s = true) : 1 < s.length ∧ (lo ≤ s.getD 0 0 ∧ s.getD 0 0 ≤ hi) ∧ (lo ≤ s.getD 1 0 ∧ s.getD 1 0 ≤ hi) := by
  unfold exactlyB at h
  rw [Bool.and_eq_true, decide_eq_true_eq, inB_at_iff] at h
  exact ⟨by omega, h.2 0 (by omega), h.2 1 (by omega)⟩
theorem none_takes {nm : ByteArray} {lo hi thr : Int} {rd : Bool} {pre : List Int → Int → Int → Int → Prop} {D : Deed} {x y : Int} (h : takesB ⟨nm, 0, lo, hi, thr, rd, pre, D⟩ x y = true) : x = 0 ∧ y = 0 := by
  simpa [takesB, argB] using h
theorem lt_pw : ∀ {s : List Int}, ascB s = true → diffB s = true → s.Pairwise (· < ·)
  | [], _, _ => List.Pairwise.nil
  | [a], _, _ => by simp
  | a :: b :: r, h, h2 => by
    simp only [ascB, Bool.and_eq_true, decide_eq_true_eq] at h
    simp only [diffB, Bool.and_eq_true, bne_iff_ne, ne_eq] at h2
    have ih := lt_pw h.2 h2.2
    have hab : a < b := by have := h.1; have := h2.1; omega
    refine List.pairwise_cons.2 ⟨fun z hz => ?_, ih⟩
    rcases List.mem_cons.1 hz with e | e
    · rw [e]; exact hab
    · have := (List.pairwise_cons.1 ih).1 z e; omega
theorem ticket_some {s : List Int} {hi : Int} (h : ascendingB hi true s = true) : ticketL s (s.length + 13) ≠ [] := by
  intro e
  unfold ascendingB at h
  simp only [Bool.and_eq_true, Bool.not_true, Bool.false_or] at h
  have h1 := lt_pw h.2.2 h.1
  have h2 := free_len h1 (fun x hx => ((words_iff.1 h.2.1).2 x hx).1) (s.length + 13)
  have h3 : (ticketL s (s.length + 13)).length = 0 := by rw [e]; rfl
  unfold ticketL at h3
  rw [List.length_map] at h3
  have h4 := @List.countP_le_length Int (fun x => decide (x < ((s.length + 13 : Nat) : Int))) s
  omega
theorem twin_bd {s : List Int} (h : twinB s = true) : 0 ≤ s.getD 0 0 ∧ s.getD 0 0 < s.length := by
  unfold twinB at h
  simp only [Bool.and_eq_true, decide_eq_true_eq] at h
  exact ⟨h.1.1.2, h.1.2⟩
theorem twin_self {s : List Int} (h : twinB s = true) : s = joinL (twA s) (twB s) := by
  obtain ⟨a, b, rfl, _, _⟩ := twin_form h
  rw [join_A, join_B]
theorem twin_putL {s : List Int} (h : twinB s = true) (x : Int) : s ++ [x] = joinL (twA s) (twB s ++ [x]) := by
  obtain ⟨a, b, rfl, _, _⟩ := twin_form h
  rw [join_A, join_B]
  unfold joinL
  simp
theorem twin_pos {s : List Int} (h : twinB s = true) : twA s ≠ [] → 0 ≤ popR (twA s) := by
  obtain ⟨a, b, rfl, hw, _⟩ := twin_form h
  rw [join_A]
  intro hne
  have hl := List.length_pos_iff.2 hne
  unfold popR
  rw [if_neg hne, List.getD_eq_getElem?_getD, List.getElem?_eq_getElem (by omega), Option.getD_some]
  exact (hw _ (List.mem_append_left _ (List.getElem_mem (by omega)))).1
theorem doc_1_push {n : Int} {s : List Int} {op : ByteArray} {x y t : Int} {a : ActS} (ha : rule1.acts[0]? = some a) (hop : op.toList = [112, 117, 115, 104]) (hg : rule1.good s = true) (hl : s.length ≤ 1000) (hk : takesB a x y = true) (hp : a.pre s x y t) : DocOK 1 n s op x y t (a.D s x y t) := by
  injection ha with ha
  subst ha
  have m0 : (op.toList == [112, 117, 115, 104]) = true := (by rw [hop] <;> decide); exact doc_one (fun A c W hr hc => one_push 1 (by decide) n A c s op x y t W hr hc hl (.inl m0) (fun e => absurd e (by decide))) hl (by decide) (.inl (by decide))
theorem doc_1_pop {n : Int} {s : List Int} {op : ByteArray} {x y t : Int} {a : ActS} (ha : rule1.acts[1]? = some a) (hop : op.toList = [112, 111, 112]) (hg : rule1.good s = true) (hl : s.length ≤ 1000) (hk : takesB a x y = true) (hp : a.pre s x y t) : DocOK 1 n s op x y t (a.D s x y t) := by
  injection ha with ha
  subst ha
  have m0 : (op.toList == [112, 111, 112]) = true := (by rw [hop] <;> decide); have m1 : (op.toList == [112, 117, 115, 104]) = false := (by rw [hop] <;> decide); have m2 : (op.toList == [101, 110, 113]) = false := (by rw [hop] <;> decide); show DocOK _ _ _ _ _ _ _ (takeD (fun s => (s.length : Int) - 1) s x y t); rw [show takeD (fun s => (s.length : Int) - 1) s x y t = [((takenR s ((s.length : Int) - 1)).1, (takenR s ((s.length : Int) - 1)).2)] from by unfold takeD takenR; split <;> rfl]; exact doc_one (fun A c W hr hc => one_pop1 n A c s op x y t W hr hc hl m1 m2 m0) hl (by decide) (.inl (by decide))
theorem doc_2_enq {n : Int} {s : List Int} {op : ByteArray} {x y t : Int} {a : ActS} (ha : rule2.acts[0]? = some a) (hop : op.toList = [101, 110, 113]) (hg : rule2.good s = true) (hl : s.length ≤ 1000) (hk : takesB a x y = true) (hp : a.pre s x y t) : DocOK 2 n s op x y t (a.D s x y t) := by
  injection ha with ha
  subst ha
  have m0 : (op.toList == [101, 110, 113]) = true := (by rw [hop] <;> decide); have m1 : (op.toList == [112, 117, 115, 104]) = false := (by rw [hop] <;> decide); exact doc_one (fun A c W hr hc => one_push 2 (by decide) n A c s op x y t W hr hc hl (.inr ⟨m1, m0⟩) (fun e => absurd e (by decide))) hl (by decide) (.inl (by decide))
theorem doc_2_deq {n : Int} {s : List Int} {op : ByteArray} {x y t : Int} {a : ActS} (ha : rule2.acts[1]? = some a) (hop : op.toList = [100, 101, 113]) (hg : rule2.good s = true) (hl : s.length ≤ 1000) (hk : takesB a x y = true) (hp : a.pre s x y t) : DocOK 2 n s op x y t (a.D s x y t) := by
  injection ha with ha
  subst ha
  have m0 : (op.toList == [112, 111, 112]) = false := (by rw [hop] <;> decide); have m1 : (op.toList == [112, 117, 115, 104]) = false := (by rw [hop] <;> decide); have m2 : (op.toList == [101, 110, 113]) = false := (by rw [hop] <;> decide); show DocOK _ _ _ _ _ _ _ (takeD (fun _ => 0) s x y t); rw [show takeD (fun _ => 0) s x y t = [((takenR s (0)).1, (takenR s (0)).2)] from by unfold takeD takenR; split <;> rfl]; exact doc_one (fun A c W hr hc => one_front2 n A c s op x y t W hr hc hl m1 m2 m0) hl (by decide) (.inl (by decide))
theorem doc_3_enq {n : Int} {s : List Int} {op : ByteArray} {x y t : Int} {a : ActS} (ha : (rule3 n).acts[0]? = some a) (hop : op.toList = [101, 110, 113]) (hg : (rule3 n).good s = true) (hl : s.length ≤ 1000) (hk : takesB a x y = true) (hp : a.pre s x y t) : DocOK 3 n s op x y t (a.D s x y t) := by
  injection ha with ha
  subst ha
  have m0 : (op.toList == [101, 110, 113]) = true := (by rw [hop] <;> decide); have m1 : (op.toList == [112, 117, 115, 104]) = false := (by rw [hop] <;> decide); show DocOK _ _ _ _ _ _ _ (limD n (putD fun s x => s ++ [x]) s x y t); unfold limD; by_cases e : (s.length : Int) = n
  · rw [if_pos e]; exact doc_one (fun A c W hr hc => one_full3 n A c s op x y t W hr hc hl m1 m0 (by omega)) hl (by decide) (.inl (by decide))
  · rw [if_neg e]; have hln : (s.length : Int) ≤ n := (words_iff.1 hg).1; exact doc_one (fun A c W hr hc => one_push 3 (by decide) n A c s op x y t W hr hc hl (.inr ⟨m1, m0⟩) (fun _ => by omega)) hl (by decide) (.inl (by decide))
theorem doc_3_deq {n : Int} {s : List Int} {op : ByteArray} {x y t : Int} {a : ActS} (ha : (rule3 n).acts[1]? = some a) (hop : op.toList = [100, 101, 113]) (hg : (rule3 n).good s = true) (hl : s.length ≤ 1000) (hk : takesB a x y = true) (hp : a.pre s x y t) : DocOK 3 n s op x y t (a.D s x y t) := by
  injection ha with ha
  subst ha
  have m0 : (op.toList == [112, 111, 112]) = false := (by rw [hop] <;> decide); have m1 : (op.toList == [112, 117, 115, 104]) = false := (by rw [hop] <;> decide); have m2 : (op.toList == [101, 110, 113]) = false := (by rw [hop] <;> decide); show DocOK _ _ _ _ _ _ _ (takeD (fun _ => 0) s x y t); rw [show takeD (fun _ => 0) s x y t = [((takenR s (0)).1, (takenR s (0)).2)] from by unfold takeD takenR; split <;> rfl]; exact doc_one (fun A c W hr hc => one_front3 n A c s op x y t W hr hc hl m1 m2 m0) hl (by decide) (.inl (by decide))
theorem doc_4_push {n : Int} {s : List Int} {op : ByteArray} {x y t : Int} {a : ActS} (ha : rule4.acts[0]? = some a) (hop : op.toList = [112, 117, 115, 104]) (hg : rule4.good s = true) (hl : s.length ≤ 1000) (hk : takesB a x y = true) (hp : a.pre s x y t) : DocOK 4 n s op x y t (a.D s x y t) := by
  injection ha with ha
  subst ha
  have m0 : (op.toList == [112, 117, 115, 104]) = true := (by rw [hop] <;> decide); exact doc_one (fun A c W hr hc => one_push 4 (by decide) n A c s op x y t W hr hc hl (.inl m0) (fun e => absurd e (by decide))) hl (by decide) (.inl (by decide))
theorem doc_4_pop {n : Int} {s : List Int} {op : ByteArray} {x y t : Int} {a : ActS} (ha : rule4.acts[1]? = some a) (hop : op.toList = [112, 111, 112]) (hg : rule4.good s = true) (hl : s.length ≤ 1000) (hk : takesB a x y = true) (hp : a.pre s x y t) : DocOK 4 n s op x y t (a.D s x y t) := by
  injection ha with ha
  subst ha
  have m0 : (op.toList == [112, 111, 112]) = true := (by rw [hop] <;> decide); have m1 : (op.toList == [112, 117, 115, 104]) = false := (by rw [hop] <;> decide); have m2 : (op.toList == [101, 110, 113]) = false := (by rw [hop] <;> decide); show DocOK _ _ _ _ _ _ _ (takeD (fun s => (s.length : Int) - 1) s x y t); rw [show takeD (fun s => (s.length : Int) - 1) s x y t = [((takenR s ((s.length : Int) - 1)).1, (takenR s ((s.length : Int) - 1)).2)] from by unfold takeD takenR; split <;> rfl]; exact doc_one (fun A c W hr hc => one_pop4 n A c s op x y t W hr hc hl m1 m2 m0) hl (by decide) (.inl (by decide))
theorem doc_4_steal {n : Int} {s : List Int} {op : ByteArray} {x y t : Int} {a : ActS} (ha : rule4.acts[2]? = some a) (hop : op.toList = [115, 116, 101, 97, 108]) (hg : rule4.good s = true) (hl : s.length ≤ 1000) (hk : takesB a x y = true) (hp : a.pre s x y t) : DocOK 4 n s op x y t (a.D s x y t) := by
  injection ha with ha
  subst ha
  have m0 : (op.toList == [112, 111, 112]) = false := (by rw [hop] <;> decide); have m1 : (op.toList == [112, 117, 115, 104]) = false := (by rw [hop] <;> decide); have m2 : (op.toList == [101, 110, 113]) = false := (by rw [hop] <;> decide); show DocOK _ _ _ _ _ _ _ (takeD (fun _ => 0) s x y t); rw [show takeD (fun _ => 0) s x y t = [((takenR s (0)).1, (takenR s (0)).2)] from by unfold takeD takenR; split <;> rfl]; exact doc_one (fun A c W hr hc => one_front4 n A c s op x y t W hr hc hl m1 m2 m0) hl (by decide) (.inl (by decide))
theorem doc_5_put {n : Int} {s : List Int} {op : ByteArray} {x y t : Int} {a : ActS} (ha : rule5.acts[0]? = some a) (hop : op.toList = [112, 117, 116]) (hg : rule5.good s = true) (hl : s.length ≤ 1000) (hk : takesB a x y = true) (hp : a.pre s x y t) : DocOK 5 n s op x y t (a.D s x y t) := by
  injection ha with ha
  subst ha
  have m0 : (op.toList == [112, 117, 116]) = true := (by rw [hop] <;> decide); exact doc_one (fun A c W hr hc => one_put5 n A c s op x y t W hr hc hl m0 hp) hl (by decide) (.inl (by decide))
theorem doc_5_take {n : Int} {s : List Int} {op : ByteArray} {x y t : Int} {a : ActS} (ha : rule5.acts[1]? = some a) (hop : op.toList = [116, 97, 107, 101]) (hg : rule5.good s = true) (hl : s.length ≤ 1000) (hk : takesB a x y = true) (hp : a.pre s x y t) : DocOK 5 n s op x y t (a.D s x y t) := by
  injection ha with ha
  subst ha
  have m0 : (op.toList == [112, 117, 116]) = false := (by rw [hop] <;> decide); show DocOK _ _ _ _ _ _ _ (takeD (fun _ => 0) s x y t); rw [show takeD (fun _ => 0) s x y t = [((takenR s (0)).1, (takenR s (0)).2)] from by unfold takeD takenR; split <;> rfl]; exact doc_one (fun A c W hr hc => one_least5 n A c s op x y t W hr hc hl m0) hl (by decide) (.inl (by decide))
theorem doc_6_put {n : Int} {s : List Int} {op : ByteArray} {x y t : Int} {a : ActS} (ha : rule6.acts[0]? = some a) (hop : op.toList = [112, 117, 116]) (hg : rule6.good s = true) (hl : s.length ≤ 1000) (hk : takesB a x y = true) (hp : a.pre s x y t) : DocOK 6 n s op x y t (a.D s x y t) := by
  injection ha with ha
  subst ha
  have m0 : (op.toList == [112, 117, 116]) = true := (by rw [hop] <;> decide); exact doc_one (fun A c W hr hc => one_put6 n A c s op x y t W hr hc hl m0 hp) hl (by decide) (.inr (.inl (by rw [hop]; decide)))
theorem doc_6_get {n : Int} {s : List Int} {op : ByteArray} {x y t : Int} {a : ActS} (ha : rule6.acts[1]? = some a) (hop : op.toList = [103, 101, 116]) (hg : rule6.good s = true) (hl : s.length ≤ 1000) (hk : takesB a x y = true) (hp : a.pre s x y t) : DocOK 6 n s op x y t (a.D s x y t) := by
  injection ha with ha
  subst ha
  have m0 : (op.toList == [112, 117, 116]) = false := (by rw [hop] <;> decide); have m1 : (op.toList == [103, 101, 116]) = true := (by rw [hop] <;> decide); show DocOK _ _ _ _ _ _ _ (whichD s x y t); unfold whichD; by_cases e : s = []
  · rw [if_pos e]; have ht : takenR s 0 = (-1, []) := by unfold takenR; rw [if_pos e]
    have H1 : OneOK 6 n s op x y t (takenR s 0).1 (takenR s 0).2 := fun A c W hr hc => one_least6 n A c s op x y t W hr hc hl m0
    rw [ht] at H1
    exact doc_one H1 hl (by decide) (.inr (.inr ⟨m1, e⟩))
  · rw [if_neg e]; exact doc_get hl (List.length_pos_iff.2 e) (asc_good (show ascendingB 900 false s = true from hg)) m1
theorem doc_7_add {n : Int} {s : List Int} {op : ByteArray} {x y t : Int} {a : ActS} (ha : rule7.acts[0]? = some a) (hop : op.toList = [97, 100, 100]) (hg : rule7.good s = true) (hl : s.length ≤ 1000) (hk : takesB a x y = true) (hp : a.pre s x y t) : DocOK 7 n s op x y t (a.D s x y t) := by
  injection ha with ha
  subst ha
  have m0 : (op.toList == [97, 100, 100]) = true := (by rw [hop] <;> decide); show DocOK _ _ _ _ _ _ _ (setD addF s x y t); rw [show setD addF s x y t = [((if x ∈ s then 0 else 1), (if x ∈ s then s else insL s x))] from by unfold setD addF; (by_cases e : x ∈ s <;> simp [e, insL])]; exact doc_one (fun A c W hr hc => one_p7 n A c s op x y t W hr hc hl (fun W hr => set_add A c s op x y W hr hc hl m0 hp)) hl (by decide) (.inl (by decide))
theorem doc_7_rem {n : Int} {s : List Int} {op : ByteArray} {x y t : Int} {a : ActS} (ha : rule7.acts[1]? = some a) (hop : op.toList = [114, 101, 109]) (hg : rule7.good s = true) (hl : s.length ≤ 1000) (hk : takesB a x y = true) (hp : a.pre s x y t) : DocOK 7 n s op x y t (a.D s x y t) := by
  injection ha with ha
  subst ha
  have m0 : (op.toList == [97, 100, 100]) = false := (by rw [hop] <;> decide); have m1 : (op.toList == [114, 101, 109]) = true := (by rw [hop] <;> decide); show DocOK _ _ _ _ _ _ _ (setD remF s x y t); rw [show setD remF s x y t = [((if x ∈ s then 1 else 0), (if x ∈ s then s.eraseIdx (s.countP (· < x)) else s))] from by unfold setD remF; (by_cases e : x ∈ s <;> simp [e, insL])]; exact doc_one (fun A c W hr hc => one_p7 n A c s op x y t W hr hc hl (fun W hr => set_rem A c s op x y W hr hc hl m0 m1 hp)) hl (by decide) (.inl (by decide))
theorem doc_7_has {n : Int} {s : List Int} {op : ByteArray} {x y t : Int} {a : ActS} (ha : rule7.acts[2]? = some a) (hop : op.toList = [104, 97, 115]) (hg : rule7.good s = true) (hl : s.length ≤ 1000) (hk : takesB a x y = true) (hp : a.pre s x y t) : DocOK 7 n s op x y t (a.D s x y t) := by
  injection ha with ha
  subst ha
  have m0 : (op.toList == [97, 100, 100]) = false := (by rw [hop] <;> decide); have m1 : (op.toList == [114, 101, 109]) = false := (by rw [hop] <;> decide); have m2 : (op.toList == [104, 97, 115]) = true := (by rw [hop] <;> decide); show DocOK _ _ _ _ _ _ _ (setD hasF s x y t); rw [show setD hasF s x y t = [((if x ∈ s then 1 else 0), s)] from by unfold setD hasF; (by_cases e : x ∈ s <;> simp [e, insL])]; exact doc_one (fun A c W hr hc => one_p7 n A c s op x y t W hr hc hl (fun W hr => set_has A c s op x y W hr hc hl m0 m1 m2)) hl (by decide) (.inl (by decide))
theorem doc_8_add {n : Int} {s : List Int} {op : ByteArray} {x y t : Int} {a : ActS} (ha : rule8.acts[0]? = some a) (hop : op.toList = [97, 100, 100]) (hg : rule8.good s = true) (hl : s.length ≤ 1000) (hk : takesB a x y = true) (hp : a.pre s x y t) : DocOK 8 n s op x y t (a.D s x y t) := by
  injection ha with ha
  subst ha
  have m0 : (op.toList == [97, 100, 100]) = true := (by rw [hop] <;> decide); show DocOK _ _ _ _ _ _ _ (setD addF s x y t); rw [show setD addF s x y t = [((if x ∈ s then 0 else 1), (if x ∈ s then s else insL s x))] from by unfold setD addF; (by_cases e : x ∈ s <;> simp [e, insL])]; exact doc_one (fun A c W hr hc => one_p8 n A c s op x y t W hr hc hl (fun W hr => set_add A c s op x y W hr hc hl m0 hp)) hl (by decide) (.inl (by decide))
theorem doc_8_rem {n : Int} {s : List Int} {op : ByteArray} {x y t : Int} {a : ActS} (ha : rule8.acts[1]? = some a) (hop : op.toList = [114, 101, 109]) (hg : rule8.good s = true) (hl : s.length ≤ 1000) (hk : takesB a x y = true) (hp : a.pre s x y t) : DocOK 8 n s op x y t (a.D s x y t) := by
  injection ha with ha
  subst ha
  have m0 : (op.toList == [97, 100, 100]) = false := (by rw [hop] <;> decide); have m1 : (op.toList == [114, 101, 109]) = true := (by rw [hop] <;> decide); show DocOK _ _ _ _ _ _ _ (setD remF s x y t); rw [show setD remF s x y t = [((if x ∈ s then 1 else 0), (if x ∈ s then s.eraseIdx (s.countP (· < x)) else s))] from by unfold setD remF; (by_cases e : x ∈ s <;> simp [e, insL])]; exact doc_one (fun A c W hr hc => one_p8 n A c s op x y t W hr hc hl (fun W hr => set_rem A c s op x y W hr hc hl m0 m1 hp)) hl (by decide) (.inl (by decide))
theorem doc_8_has {n : Int} {s : List Int} {op : ByteArray} {x y t : Int} {a : ActS} (ha : rule8.acts[2]? = some a) (hop : op.toList = [104, 97, 115]) (hg : rule8.good s = true) (hl : s.length ≤ 1000) (hk : takesB a x y = true) (hp : a.pre s x y t) : DocOK 8 n s op x y t (a.D s x y t) := by
  injection ha with ha
  subst ha
  have m0 : (op.toList == [97, 100, 100]) = false := (by rw [hop] <;> decide); have m1 : (op.toList == [114, 101, 109]) = false := (by rw [hop] <;> decide); have m2 : (op.toList == [104, 97, 115]) = true := (by rw [hop] <;> decide); show DocOK _ _ _ _ _ _ _ (setD hasF s x y t); rw [show setD hasF s x y t = [((if x ∈ s then 1 else 0), s)] from by unfold setD hasF; (by_cases e : x ∈ s <;> simp [e, insL])]; exact doc_one (fun A c W hr hc => one_p8 n A c s op x y t W hr hc hl (fun W hr => set_has A c s op x y W hr hc hl m0 m1 m2)) hl (by decide) (.inl (by decide))
theorem doc_8_all {n : Int} {s : List Int} {op : ByteArray} {x y t : Int} {a : ActS} (ha : rule8.acts[3]? = some a) (hop : op.toList = [97, 108, 108]) (hg : rule8.good s = true) (hl : s.length ≤ 1000) (hk : takesB a x y = true) (hp : a.pre s x y t) : DocOK 8 n s op x y t (a.D s x y t) := by
  injection ha with ha
  subst ha
  have m0 : (op.toList == [97, 100, 100]) = false := (by rw [hop] <;> decide); have m1 : (op.toList == [114, 101, 109]) = false := (by rw [hop] <;> decide); have m2 : (op.toList == [104, 97, 115]) = false := (by rw [hop] <;> decide); exact doc_one (fun A c W hr hc => one_p8 n A c s op x y t W hr hc hl (fun W hr => set_all A c s op x y W hr hc hl m0 m1 m2 hp)) hl (by decide) (.inl (by decide))
theorem doc_9_next {n : Int} {s : List Int} {op : ByteArray} {x y t : Int} {a : ActS} (ha : rule9.acts[0]? = some a) (hop : op.toList = [110, 101, 120, 116]) (hg : rule9.good s = true) (hl : s.length ≤ 1000) (hk : takesB a x y = true) (hp : a.pre s x y t) : DocOK 9 n s op x y t (a.D s x y t) := by
  injection ha with ha
  subst ha
  exact doc_nine hl hp (ticket_some (show ascendingB 1000000000000000 true s = true from hg))
theorem doc_10_write {n : Int} {s : List Int} {op : ByteArray} {x y t : Int} {a : ActS} (ha : rule10.acts[0]? = some a) (hop : op.toList = [119, 114, 105, 116, 101]) (hg : rule10.good s = true) (hl : s.length ≤ 1000) (hk : takesB a x y = true) (hp : a.pre s x y t) : DocOK 10 n s op x y t (a.D s x y t) := by
  injection ha with ha
  subst ha
  have m0 : (op.toList == [119, 114, 105, 116, 101]) = true := (by rw [hop] <;> decide); exact doc_one (fun A c W hr hc => one_write n A c s op x y t W hr hc hl m0) hl (by decide) (.inl (by decide))
theorem doc_10_read {n : Int} {s : List Int} {op : ByteArray} {x y t : Int} {a : ActS} (ha : rule10.acts[1]? = some a) (hop : op.toList = [114, 101, 97, 100]) (hg : rule10.good s = true) (hl : s.length ≤ 1000) (hk : takesB a x y = true) (hp : a.pre s x y t) : DocOK 10 n s op x y t (a.D s x y t) := by
  injection ha with ha
  subst ha
  have m0 : (op.toList == [119, 114, 105, 116, 101]) = false := (by rw [hop] <;> decide); exact doc_one (fun A c W hr hc => one_read n A c s op x y t W hr hc hl m0 hp.1 hp.2) hl (by decide) (.inl (by decide))
theorem doc_11_update {n : Int} {s : List Int} {op : ByteArray} {x y t : Int} {a : ActS} (ha : rule11.acts[0]? = some a) (hop : op.toList = [117, 112, 100, 97, 116, 101]) (hg : rule11.good s = true) (hl : s.length ≤ 1000) (hk : takesB a x y = true) (hp : a.pre s x y t) : DocOK 11 n s op x y t (a.D s x y t) := by
  injection ha with ha
  subst ha
  have m0 : (op.toList == [117, 112, 100, 97, 116, 101]) = true := (by rw [hop] <;> decide); exact doc_one (fun A c W hr hc => one_update n A c s op x y t W hr hc hl m0 hp) hl (by decide) (.inl (by decide))
theorem doc_11_scan {n : Int} {s : List Int} {op : ByteArray} {x y t : Int} {a : ActS} (ha : rule11.acts[1]? = some a) (hop : op.toList = [115, 99, 97, 110]) (hg : rule11.good s = true) (hl : s.length ≤ 1000) (hk : takesB a x y = true) (hp : a.pre s x y t) : DocOK 11 n s op x y t (a.D s x y t) := by
  injection ha with ha
  subst ha
  have m0 : (op.toList == [117, 112, 100, 97, 116, 101]) = false := (by rw [hop] <;> decide); have hb := two_in (show exactlyB 2 0 900 s = true from hg); exact doc_one (fun A c W hr hc => one_scan n A c s op x y t W hr hc hl m0 hb.1 hb.2.1 hb.2.2) hl (by decide) (.inl (by decide))
theorem doc_12_unite {n : Int} {s : List Int} {op : ByteArray} {x y t : Int} {a : ActS} (ha : rule12.acts[0]? = some a) (hop : op.toList = [117, 110, 105, 116, 101]) (hg : rule12.good s = true) (hl : s.length ≤ 1000) (hk : takesB a x y = true) (hp : a.pre s x y t) : DocOK 12 n s op x y t (a.D s x y t) := by
  injection ha with ha
  subst ha
  have m0 : (op.toList == [115, 97, 109, 101]) = false := (by rw [hop] <;> decide); show DocOK _ _ _ _ _ _ _ (unionD uniteF s x y t); rw [show unionD uniteF s x y t = [((if s.getD x.toNat 0 = s.getD y.toNat 0 then 0 else 1), (if s.getD x.toNat 0 = s.getD y.toNat 0 then s else s.map (joinI (s.getD x.toNat 0) (s.getD y.toNat 0))))] from by unfold unionD uniteF; split <;> rfl]; exact doc_one (fun A c W hr hc => one_p12 n A c s op x y t W hr hc hl (fun W hr => union_unite A c s op x y W hr hc hl m0 ⟨hp.1, hp.2.1⟩ hp.2.2)) hl (by decide) (.inl (by decide))
theorem doc_12_same {n : Int} {s : List Int} {op : ByteArray} {x y t : Int} {a : ActS} (ha : rule12.acts[1]? = some a) (hop : op.toList = [115, 97, 109, 101]) (hg : rule12.good s = true) (hl : s.length ≤ 1000) (hk : takesB a x y = true) (hp : a.pre s x y t) : DocOK 12 n s op x y t (a.D s x y t) := by
  injection ha with ha
  subst ha
  have m0 : (op.toList == [115, 97, 109, 101]) = true := (by rw [hop] <;> decide); show DocOK _ _ _ _ _ _ _ (unionD sameF s x y t); rw [show unionD sameF s x y t = [((if s.getD x.toNat 0 = s.getD y.toNat 0 then 1 else 0), s)] from by unfold unionD sameF; split <;> rfl]; exact doc_one (fun A c W hr hc => one_p12 n A c s op x y t W hr hc hl (fun W hr => union_same A c s op x y W hr hc hl m0 ⟨hp.1, hp.2.1⟩ hp.2.2)) hl (by decide) (.inl (by decide))
theorem doc_13_put {n : Int} {s : List Int} {op : ByteArray} {x y t : Int} {a : ActS} (ha : rule13.acts[0]? = some a) (hop : op.toList = [112, 117, 116]) (hg : rule13.good s = true) (hl : s.length ≤ 1000) (hk : takesB a x y = true) (hp : a.pre s x y t) : DocOK 13 n s op x y t (a.D s x y t) := by
  injection ha with ha
  subst ha
  have m0 : (op.toList == [112, 117, 116]) = true := (by rw [hop] <;> decide); have m1 : (op.toList == [109, 111, 118, 101]) = false := (by rw [hop] <;> decide); have m2 : (op.toList == [98, 111, 116, 104]) = false := (by rw [hop] <;> decide); obtain ⟨p1, p2, p3, p4⟩ := hp; show DocOK _ _ _ _ _ _ _ (changeD (fun a b x => (a + x, b)) s x y t); unfold changeD; dsimp only; by_cases e : s.getD 0 0 + x ≤ 99
  · rw [if_neg (by omega)]; exact doc_one (fun A c W hr hc => one_p13 n A c s op x y t W hr hc hl (fun W hr => pair_put A c s op x y W hr hc hl m0 e p2 p3 p1 p4)) hl (by decide) (.inl (by decide))
  · rw [if_pos (by omega)]; exact doc_one (fun A c W hr hc => one_p13 n A c s op x y t W hr hc hl (fun W hr => pair_putno A c s op x y W hr hc hl m0 m1 m2 e p2 p3 p1 p4)) hl (by decide) (.inl (by decide))
theorem doc_13_move {n : Int} {s : List Int} {op : ByteArray} {x y t : Int} {a : ActS} (ha : rule13.acts[1]? = some a) (hop : op.toList = [109, 111, 118, 101]) (hg : rule13.good s = true) (hl : s.length ≤ 1000) (hk : takesB a x y = true) (hp : a.pre s x y t) : DocOK 13 n s op x y t (a.D s x y t) := by
  injection ha with ha
  subst ha
  have m0 : (op.toList == [112, 117, 116]) = false := (by rw [hop] <;> decide); have m1 : (op.toList == [109, 111, 118, 101]) = true := (by rw [hop] <;> decide); have m2 : (op.toList == [98, 111, 116, 104]) = false := (by rw [hop] <;> decide); obtain ⟨p1, p2, p3, p4⟩ := hp; show DocOK _ _ _ _ _ _ _ (changeD (fun a b x => (a - x, b + x)) s x y t); unfold changeD; dsimp only; by_cases e : x ≤ s.getD 0 0
  · by_cases e2 : s.getD 1 0 + x ≤ 99
    · rw [if_neg (by omega)]; exact doc_one (fun A c W hr hc => one_p13 n A c s op x y t W hr hc hl (fun W hr => pair_move A c s op x y W hr hc hl m0 m1 e e2 p2 p3 p1 p4)) hl (by decide) (.inl (by decide))
    · rw [if_pos (by omega)]; exact doc_one (fun A c W hr hc => one_p13 n A c s op x y t W hr hc hl (fun W hr => pair_moveno2 A c s op x y W hr hc hl m0 m1 m2 e e2 p2 p3 p1 p4)) hl (by decide) (.inl (by decide))
  · rw [if_pos (by omega)]; exact doc_one (fun A c W hr hc => one_p13 n A c s op x y t W hr hc hl (fun W hr => pair_moveno1 A c s op x y W hr hc hl m0 m1 m2 e p2 p3 p1 p4)) hl (by decide) (.inl (by decide))
theorem doc_13_both {n : Int} {s : List Int} {op : ByteArray} {x y t : Int} {a : ActS} (ha : rule13.acts[2]? = some a) (hop : op.toList = [98, 111, 116, 104]) (hg : rule13.good s = true) (hl : s.length ≤ 1000) (hk : takesB a x y = true) (hp : a.pre s x y t) : DocOK 13 n s op x y t (a.D s x y t) := by
  injection ha with ha
  subst ha
  have m0 : (op.toList == [112, 117, 116]) = false := (by rw [hop] <;> decide); have m1 : (op.toList == [109, 111, 118, 101]) = false := (by rw [hop] <;> decide); have m2 : (op.toList == [98, 111, 116, 104]) = true := (by rw [hop] <;> decide); obtain ⟨rfl, rfl⟩ := none_takes hk; have hb := two_in (show exactlyB 2 0 99 s = true from hg); exact doc_one (fun A c W hr hc => one_p13 n A c s op 0 0 t W hr hc hl (fun W hr => pair_both A c s op 0 0 W hr hc hl m0 m1 m2 hb.2.1 hb.2.2 hb.1 (by decide))) hl (by decide) (.inl (by decide))
theorem doc_14_add {n : Int} {s : List Int} {op : ByteArray} {x y t : Int} {a : ActS} (ha : rule14.acts[0]? = some a) (hop : op.toList = [97, 100, 100]) (hg : rule14.good s = true) (hl : s.length ≤ 1000) (hk : takesB a x y = true) (hp : a.pre s x y t) : DocOK 14 n s op x y t (a.D s x y t) := by
  injection ha with ha
  subst ha
  have m0 : (op.toList == [97, 100, 100]) = true := (by rw [hop] <;> decide); obtain ⟨p1, p2, p3, p4, p5⟩ := hp; exact doc_one (fun A c W hr hc => one_add14 n A c s op x y t W hr hc hl m0 p1 (by omega) (by omega)) hl (by decide) (.inl (by decide))
theorem doc_14_get {n : Int} {s : List Int} {op : ByteArray} {x y t : Int} {a : ActS} (ha : rule14.acts[1]? = some a) (hop : op.toList = [103, 101, 116]) (hg : rule14.good s = true) (hl : s.length ≤ 1000) (hk : takesB a x y = true) (hp : a.pre s x y t) : DocOK 14 n s op x y t (a.D s x y t) := by
  injection ha with ha
  subst ha
  have m0 : (op.toList == [97, 100, 100]) = false := (by rw [hop] <;> decide); exact doc_one (fun A c W hr hc => one_get14 n A c s op x y t W hr hc hl m0 hp) hl (by decide) (.inl (by decide))
theorem doc_15_puta {n : Int} {s : List Int} {op : ByteArray} {x y t : Int} {a : ActS} (ha : rule15.acts[0]? = some a) (hop : op.toList = [112, 117, 116, 97]) (hg : rule15.good s = true) (hl : s.length ≤ 1000) (hk : takesB a x y = true) (hp : a.pre s x y t) : DocOK 15 n s op x y t (a.D s x y t) := by
  injection ha with ha
  subst ha
  have m0 : (op.toList == [112, 117, 116, 97]) = true := (by rw [hop] <;> decide); have tb := twin_bd (show twinB s = true from hg); exact doc_one (fun A c W hr hc => one_p15 n A c s op x y t W hr hc hl (fun W hr => twin_puta A c s op x y W hr hc hl tb.1 tb.2 m0)) hl (by decide) (.inl (by decide))
theorem doc_15_putb {n : Int} {s : List Int} {op : ByteArray} {x y t : Int} {a : ActS} (ha : rule15.acts[1]? = some a) (hop : op.toList = [112, 117, 116, 98]) (hg : rule15.good s = true) (hl : s.length ≤ 1000) (hk : takesB a x y = true) (hp : a.pre s x y t) : DocOK 15 n s op x y t (a.D s x y t) := by
  injection ha with ha
  subst ha
  have m0 : (op.toList == [112, 117, 116, 97]) = false := (by rw [hop] <;> decide); have m1 : (op.toList == [112, 117, 116, 98]) = true := (by rw [hop] <;> decide); have tb := twin_bd (show twinB s = true from hg); show DocOK _ _ _ _ _ _ _ [(0, s ++ [x])]; rw [show s ++ [x] = joinL (twA s) (twB s ++ [x]) from twin_putL (show twinB s = true from hg) x]; exact doc_one (fun A c W hr hc => one_p15 n A c s op x y t W hr hc hl (fun W hr => twin_putb A c s op x y W hr hc hl tb.1 tb.2 m0 m1)) hl (by decide) (.inl (by decide))
theorem doc_15_geta {n : Int} {s : List Int} {op : ByteArray} {x y t : Int} {a : ActS} (ha : rule15.acts[2]? = some a) (hop : op.toList = [103, 101, 116, 97]) (hg : rule15.good s = true) (hl : s.length ≤ 1000) (hk : takesB a x y = true) (hp : a.pre s x y t) : DocOK 15 n s op x y t (a.D s x y t) := by
  injection ha with ha
  subst ha
  have m0 : (op.toList == [112, 117, 116, 97]) = false := (by rw [hop] <;> decide); have m1 : (op.toList == [112, 117, 116, 98]) = false := (by rw [hop] <;> decide); have m2 : (op.toList == [103, 101, 116, 97]) = true := (by rw [hop] <;> decide); have tb := twin_bd (show twinB s = true from hg); exact doc_one (fun A c W hr hc => one_p15 n A c s op x y t W hr hc hl (fun W hr => twin_geta A c s op x y W hr hc hl tb.1 tb.2 m0 m1 m2)) hl (by decide) (.inl (by decide))
theorem doc_15_getb {n : Int} {s : List Int} {op : ByteArray} {x y t : Int} {a : ActS} (ha : rule15.acts[3]? = some a) (hop : op.toList = [103, 101, 116, 98]) (hg : rule15.good s = true) (hl : s.length ≤ 1000) (hk : takesB a x y = true) (hp : a.pre s x y t) : DocOK 15 n s op x y t (a.D s x y t) := by
  injection ha with ha
  subst ha
  have m0 : (op.toList == [112, 117, 116, 97]) = false := (by rw [hop] <;> decide); have m1 : (op.toList == [112, 117, 116, 98]) = false := (by rw [hop] <;> decide); have m2 : (op.toList == [103, 101, 116, 97]) = false := (by rw [hop] <;> decide); have m3 : (op.toList == [103, 101, 116, 98]) = true := (by rw [hop] <;> decide); have tb := twin_bd (show twinB s = true from hg); exact doc_one (fun A c W hr hc => one_p15 n A c s op x y t W hr hc hl (fun W hr => twin_getb A c s op x y W hr hc hl tb.1 tb.2 m0 m1 m2 m3)) hl (by decide) (.inl (by decide))
theorem doc_15_move {n : Int} {s : List Int} {op : ByteArray} {x y t : Int} {a : ActS} (ha : rule15.acts[4]? = some a) (hop : op.toList = [109, 111, 118, 101]) (hg : rule15.good s = true) (hl : s.length ≤ 1000) (hk : takesB a x y = true) (hp : a.pre s x y t) : DocOK 15 n s op x y t (a.D s x y t) := by
  injection ha with ha
  subst ha
  have m0 : (op.toList == [112, 117, 116, 97]) = false := (by rw [hop] <;> decide); have m1 : (op.toList == [112, 117, 116, 98]) = false := (by rw [hop] <;> decide); have m2 : (op.toList == [103, 101, 116, 97]) = false := (by rw [hop] <;> decide); have m3 : (op.toList == [103, 101, 116, 98]) = false := (by rw [hop] <;> decide); have m4 : (op.toList == [109, 111, 118, 101]) = true := (by rw [hop] <;> decide); have tb := twin_bd (show twinB s = true from hg); exact doc_one (fun A c W hr hc => one_p15 n A c s op x y t W hr hc hl (fun W hr => twin_move A c s op x y W hr hc hl tb.1 tb.2 (twin_pos (show twinB s = true from hg)) m0 m1 m2 m3 m4)) hl (by decide) (.inl (by decide))
theorem doc_16_add {n : Int} {s : List Int} {op : ByteArray} {x y t : Int} {a : ActS} (ha : rule16.acts[0]? = some a) (hop : op.toList = [97, 100, 100]) (hg : rule16.good s = true) (hl : s.length ≤ 1000) (hk : takesB a x y = true) (hp : a.pre s x y t) : DocOK 16 n s op x y t (a.D s x y t) := by
  injection ha with ha
  subst ha
  have m0 : (op.toList == [97, 100, 100]) = true := (by rw [hop] <;> decide); obtain ⟨p1, p2, p3, p4, p5⟩ := hp; exact doc_one (fun A c W hr hc => one_add16 n A c s op x y t W hr hc hl m0 p1 (by omega) (by omega)) hl (by decide) (.inl (by decide))
theorem doc_16_get {n : Int} {s : List Int} {op : ByteArray} {x y t : Int} {a : ActS} (ha : rule16.acts[1]? = some a) (hop : op.toList = [103, 101, 116]) (hg : rule16.good s = true) (hl : s.length ≤ 1000) (hk : takesB a x y = true) (hp : a.pre s x y t) : DocOK 16 n s op x y t (a.D s x y t) := by
  injection ha with ha
  subst ha
  have m0 : (op.toList == [97, 100, 100]) = false := (by rw [hop] <;> decide); exact doc_one (fun A c W hr hc => one_get16 n A c s op x y t W hr hc hl m0 hp) hl (by decide) (.inl (by decide))
end Go.Proofs.YtiialjmpfeopjaaGreat.Sp
