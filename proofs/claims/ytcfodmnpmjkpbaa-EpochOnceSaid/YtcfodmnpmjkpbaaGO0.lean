/- What comes back and what waits on, of lists without a number twice: plain lemmas; no condition. -/
import Derived.Test.YtcfodmnpmjkpbaaG0
namespace Go.Proofs.Ytcfodmnpmjkpbaa.Ep
set_option linter.unusedVariables false
set_option linter.unusedSimpArgs false
/-- Of l0, what is in back went, and l1 is left, in order. -/
structure Parts (l0 back l1 : List Int) : Prop where
  mem : ∀ b ∈ back, b ∈ l0
  nd : back.Nodup
  left : l1 = l0.filter fun y => !back.contains y
theorem parts_nil (l : List Int) : Parts l [] l := ⟨by simp, by simp, (List.filter_eq_self.2 (fun _ _ => rfl)).symm⟩
theorem inj_map1 {l : List P2} (h : (l.map (·.1)).Nodup) {x y : P2} (hx : x ∈ l) (hy : y ∈ l) (e : x.1 = y.1) : x = y := by
  obtain ⟨a, f⟩ := x
  obtain ⟨b, k⟩ := y
  simp only at e
  subst e
  have := only_one h hx hy
  rw [this]
theorem parts_raised {m : EM} (hn : (m.ws.map (·.1)).Nodup) : Parts (addrs m) (raisedBack m) (addrs (raised m)) := by
  refine ⟨fun b hb => ?_, ?_, ?_⟩
  · obtain ⟨x, hx, rfl⟩ := List.mem_map.1 hb
    exact List.mem_map.2 ⟨x, (List.mem_filter.1 hx).1, rfl⟩
  · exact hn.sublist (List.filter_sublist.map _)
  · unfold addrs raised raisedBack
    simp only
    rw [List.filter_map]
    congr 1
    apply List.filter_congr
    intro x hx
    simp only [Function.comp]
    congr 1
    rw [Bool.eq_iff_iff]
    constructor
    · intro h
      simp only [List.contains_iff_mem]
      exact List.mem_map.2 ⟨x, List.mem_filter.2 ⟨hx, h⟩, rfl⟩
    · intro h
      simp only [List.contains_iff_mem] at h
      obtain ⟨y, hy, e⟩ := List.mem_map.1 h
      obtain ⟨hy1, hy2⟩ := List.mem_filter.1 hy
      have : y = x := inj_map1 hn hy1 hx e
      rw [← this]; exact hy2
theorem parts_tried {m : EM} (h : Good m) : Parts (addrs m) (tryBack m) (addrs (tried m)) := by
  unfold tried tryBack
  cases stuck m with
  | true => exact parts_nil _
  | false => exact parts_raised h.nd
theorem Parts.trans {l0 b1 l1 b2 l2 : List Int} (h : Parts l0 b1 l1) (k : Parts l1 b2 l2) : Parts l0 (b1 ++ b2) l2 := by
  have hl := h.left
  have hsub : ∀ b ∈ b2, b ∈ l0 ∧ ¬ b ∈ b1 := fun b hb => by
    have := k.mem b hb
    rw [hl] at this
    obtain ⟨p, q⟩ := List.mem_filter.1 this
    exact ⟨p, by simpa using q⟩
  refine ⟨fun b hb => ?_, ?_, ?_⟩
  · rcases List.mem_append.1 hb with hb | hb
    · exact h.mem b hb
    · exact (hsub b hb).1
  · rw [List.nodup_append]
    exact ⟨h.nd, k.nd, fun x hx y hy e => (hsub y hy).2 (e ▸ hx)⟩
  · rw [k.left, hl, List.filter_filter]
    apply List.filter_congr
    intro x _
    simp [Bool.and_comm]

theorem parts_rested {m : EM} (h : Good m) : Parts (addrs m) (restBack m) (addrs (rested m)) :=
  ((parts_tried h).trans (parts_tried (good_tried h))).trans (parts_tried (good_tried (good_tried h)))
/-- The law's own list behind an act, ahead of what came back. -/
def own1 (m : EM) (d t k a : Int) : List Int := if d = 4 ∧ (deed m d t k a).2.2 = 0 then addrs m ++ [a] else addrs m
theorem parts_retire {m : EM} (h : Good m) (t a : Int) : Parts (if (retireD m t a).2.2 = 0 then addrs m ++ [a] else addrs m) (retireD m t a).2.1 (addrs (retireD m t a).1) := by
  unfold retireD
  by_cases h1 : (bad m t || decide (a < 1)) = true
  · rw [if_pos h1]; exact parts_nil _
  · rw [if_neg h1]
    by_cases h2 : (addrs m).contains a = true
    · rw [if_pos h2]; exact parts_nil _
    · rw [if_neg h2, if_pos rfl]
      have e : addrs m ++ [a] = addrs (lined m a) := by simp [addrs, lined]
      rw [e]
      exact parts_tried (good_lined h (Bool.eq_false_iff.2 h2))
theorem parts_deed {m : EM} (h : Good m) (d t k a : Int) : Parts (own1 m d t k a) (deed m d t k a).2.1 (addrs (deed m d t k a).1) := by
  by_cases h4 : d = 4
  · subst h4
    have := parts_retire h t a
    have e : deed m 4 t k a = retireD m t a := by unfold deed; rfl
    unfold own1
    rw [e]
    by_cases h0 : (retireD m t a).2.2 = 0
    · rw [if_pos ⟨rfl, h0⟩]; rwa [if_pos h0] at this
    · rw [if_neg (fun q => h0 q.2)]; rwa [if_neg h0] at this
  · unfold own1
    rw [if_neg (fun q => h4 q.1)]
    unfold deed
    split
    · unfold inD; split <;> exact parts_nil _
    split
    · unfold outD; split <;> exact parts_nil _
    split
    · exact parts_nil _
    split
    · exact parts_nil _
    split
    · exact parts_rested h
    · exact parts_nil _
/-- A retirement that is taken was not waiting. -/
theorem before_no {m : EM} (t k a : Int) (h0 : (deed m 4 t k a).2.2 = 0) : (addrs m).contains a = false := by
  have e : deed m 4 t k a = retireD m t a := by unfold deed; rfl
  rw [e] at h0
  unfold retireD at h0
  by_cases h1 : (bad m t || decide (a < 1)) = true
  · rw [if_pos h1] at h0; exact absurd h0 (show ¬ (1 : Int) = 0 by decide)
  · rw [if_neg h1] at h0
    by_cases h2 : (addrs m).contains a = true
    · rw [if_pos h2] at h0; exact absurd h0 (show ¬ (6 : Int) = 0 by decide)
    · exact Bool.eq_false_iff.2 h2
theorem own1_nodup {m : EM} (h : Good m) (d t k a : Int) : (own1 m d t k a).Nodup := by
  unfold own1
  split
  · rename_i hq
    obtain ⟨rfl, h0⟩ := hq
    have := (good_lined h (before_no t k a h0)).nd
    have e : addrs m ++ [a] = (lined m a).ws.map (·.1) := by simp [addrs, lined]
    rw [e]; exact this
  · exact h.nd
/-- The law's own list, when k of the numbers that came back are taken. -/
def less (l0 back : List Int) (k : Nat) : List Int := l0.filter fun y => !(back.take k).contains y
theorem less_zero (l0 back : List Int) : less l0 back 0 = l0 := by
  unfold less
  exact List.filter_eq_self.2 (fun _ _ => rfl)
theorem less_succ (l0 back : List Int) (k : Nat) (hk : k < back.length) : (less l0 back k).filter (fun y => y != back.getD k 0) = less l0 back (k + 1) := by
  unfold less
  rw [List.filter_filter]
  apply List.filter_congr
  intro x _
  have e : back.getD k 0 = back[k] := by simp [hk]
  have h : (back.take (k + 1)).contains x = ((back.take k).contains x || x == back[k]) := by
    rw [List.take_succ_eq_append_getElem hk, Bool.eq_iff_iff]
    simp only [List.contains_iff_mem, List.mem_append, List.mem_singleton, Bool.or_eq_true, beq_iff_eq]
  rw [h, e]
  cases (back.take k).contains x <;> cases hq : x == back[k] <;> simp [bne, hq]

theorem less_has {l0 back l1 : List Int} (h : Parts l0 back l1) (j : Nat) (hj : j < back.length) : back.getD j 0 ∈ less l0 back j := by
  have e : back.getD j 0 = back[j] := by simp [hj]
  rw [e]
  unfold less
  refine List.mem_filter.2 ⟨h.mem _ (List.getElem_mem hj), ?_⟩
  simp only [Bool.not_eq_true']
  rw [Bool.eq_false_iff]
  intro hc
  rw [List.contains_iff_mem] at hc
  obtain ⟨i, hi, e2⟩ := List.mem_iff_getElem.1 hc
  have hi2 : i < j := by simp at hi; omega
  rw [List.getElem_take] at e2
  exact List.pairwise_iff_getElem.1 h.nd i j (by omega) hj hi2 e2
theorem less_all {l0 back l1 : List Int} (h : Parts l0 back l1) : less l0 back back.length = l1 := by
  unfold less
  rw [List.take_length, h.left]
theorem less_len (l0 back : List Int) (j : Nat) : (less l0 back j).length ≤ l0.length := List.length_filter_le _ _
theorem less_nodup {l0 : List Int} (h : l0.Nodup) (back : List Int) (j : Nat) : (less l0 back j).Nodup := h.sublist List.filter_sublist
/-- Where a number lies in a list, and what is left without it. -/
theorem cut_at : ∀ (l : List Int) (y : Int), l.Nodup → y ∈ l → ∃ i, i < l.length ∧ l.getD i 0 = y ∧ (∀ j, j < i → (l.getD j 0 == y) = false) ∧ l.take i ++ l.drop (i + 1) = l.filter (fun x => x != y) := by
  intro l
  induction l with
  | nil => intro y _ h; cases h
  | cons x r ih =>
    intro y hn hy
    rw [List.nodup_cons] at hn
    by_cases e : x = y
    · subst e
      refine ⟨0, by simp, by simp, fun j hj => absurd hj (Nat.not_lt_zero _), ?_⟩
      have : r.filter (fun z => z != x) = r := by
        rw [List.filter_eq_self]
        intro z hz
        rw [bne_iff_ne]
        rintro rfl
        exact hn.1 hz
      simp [this]
    · rcases List.mem_cons.1 hy with hy | hy
      · exact absurd hy.symm e
      · obtain ⟨i, h1, h2, h3, h4⟩ := ih y hn.2 hy
        refine ⟨i + 1, by simpa using h1, by simpa using h2, fun j hj => ?_, ?_⟩
        · cases j with
          | zero => simpa using e
          | succ j => simpa using h3 j (by omega)
        · have hx : (x != y) = true := by simpa using e
          rw [List.filter_cons, hx, if_pos rfl, ← h4]
          simp
end Go.Proofs.Ytcfodmnpmjkpbaa.Ep
