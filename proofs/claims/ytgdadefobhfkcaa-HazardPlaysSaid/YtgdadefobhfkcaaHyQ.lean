/- What comes back and what waits on, of lists without a number twice: plain lemmas; no condition. -/
import Derived.Test.YtgdadefobhfkcaaHyP
namespace Go.Proofs.Ytgdadefobhfkcaa.Hy

/-- Of l0, what is in back went, and l1 is left, in order. -/
structure Parts (l0 back l1 : List Int) : Prop where
  mem : ∀ b ∈ back, b ∈ l0
  nd : back.Nodup
  left : l1 = l0.filter fun y => !back.contains y
theorem parts_nil (l : List Int) : Parts l [] l := ⟨by simp, by simp, (List.filter_eq_self.2 (fun _ _ => rfl)).symm⟩
theorem inj_map : ∀ (l : List P2), (l.map (·.2)).Nodup → ∀ x ∈ l, ∀ y ∈ l, x.2 = y.2 → x = y := by
  intro l
  induction l with
  | nil => intro _ x hx; simp at hx
  | cons z r ih =>
    intro hn x hx y hy e
    rw [List.map_cons, List.nodup_cons] at hn
    rcases List.mem_cons.1 hx with hx1 | hx1 <;> rcases List.mem_cons.1 hy with hy1 | hy1
    · rw [hx1, hy1]
    · exact absurd (List.mem_map.2 ⟨y, hy1, by rw [← e, hx1]⟩) hn.1
    · exact absurd (List.mem_map.2 ⟨x, hx1, by rw [e, hy1]⟩) hn.1
    · exact ih hn.2 x hx1 y hy1 e
theorem parts_scan (m : HM) (hn : (m.ws.map (·.2)).Nodup) (t : Int) : Parts (m.ws.map (·.2)) (backs m t) ((scanned m t).ws.map (·.2)) := by
  refine ⟨fun b hb => ?_, filter_nodup _ _ hn, ?_⟩
  · obtain ⟨x, hx, rfl⟩ := List.mem_map.1 hb
    exact List.mem_map.2 ⟨x, (List.mem_filter.1 hx).1, rfl⟩
  · unfold scanned backs
    simp only
    rw [List.filter_map]
    congr 1
    apply List.filter_congr
    intro x hx
    simp only [Function.comp]
    congr 1
    rw [Bool.eq_iff_iff]
    constructor
    · intro h
      simp only [List.contains_iff_mem]
      exact List.mem_map.2 ⟨x, List.mem_filter.2 ⟨hx, h⟩, rfl⟩
    · intro h
      simp only [List.contains_iff_mem] at h
      obtain ⟨y, hy, e⟩ := List.mem_map.1 h
      obtain ⟨hy1, hy2⟩ := List.mem_filter.1 hy
      have : y = x := inj_map m.ws hn y hy1 x hx e
      rw [← this]; exact hy2
theorem Parts.trans {l0 b1 l1 b2 l2 : List Int} (h : Parts l0 b1 l1) (k : Parts l1 b2 l2) : Parts l0 (b1 ++ b2) l2 := by
  have hl := h.left
  have hsub : ∀ b ∈ b2, b ∈ l0 ∧ ¬ b ∈ b1 := fun b hb => by
    have := k.mem b hb
    rw [hl] at this
    obtain ⟨p, q⟩ := List.mem_filter.1 this
    exact ⟨p, by simpa using q⟩
  refine ⟨fun b hb => ?_, ?_, ?_⟩
  · rcases List.mem_append.1 hb with hb | hb
    · exact h.mem b hb
    · exact (hsub b hb).1
  · rw [List.nodup_append]
    exact ⟨h.nd, k.nd, fun x hx y hy e => (hsub y hy).2 (e ▸ hx)⟩
  · rw [k.left, hl, List.filter_filter]
    apply List.filter_congr
    intro x _
    simp [Bool.and_comm]
theorem parts_rest (m : HM) (h : Good m) : ∀ k, Parts (m.ws.map (·.2)) (restTo m k).2 ((restTo m k).1.ws.map (·.2)) := by
  intro k
  induction k with
  | zero => exact parts_nil _
  | succ k ih =>
    rw [restTo_succ]
    exact ih.trans (parts_scan _ (h.rest k).nodup k)
/-- The law's own list behind a deed, ahead of what came back. -/
def own1 (m : HM) (d t k a : Int) : List Int := if d = 4 ∧ (deed m d t k a).2.2 = 0 then m.ws.map (·.2) ++ [a] else m.ws.map (·.2)
theorem retired_nodup {m : HM} (h : Good m) (t a : Int) (h2 : ¬ (m.ws.any fun x => x.2 == a) = true) : ((retired m t a).ws.map (·.2)).Nodup := by
  show ((m.ws ++ [(t, a)]).map (·.2)).Nodup
  rw [List.map_append, List.nodup_append]
  refine ⟨h.nodup, by simp, fun x hx y hy => ?_⟩
  have hy2 : y = a := by simpa using hy
  subst hy2
  intro e
  subst e
  obtain ⟨z, hz, e⟩ := List.mem_map.1 hx
  exact h2 (List.any_eq_true.2 ⟨z, hz, by simp [e]⟩)
theorem parts_retire {m : HM} (h : Good m) (t a : Int) : Parts (if (retireD m t a).2.2 = 0 then m.ws.map (·.2) ++ [a] else m.ws.map (·.2)) (retireD m t a).2.1 ((retireD m t a).1.ws.map (·.2)) := by
  unfold retireD
  by_cases h1 : (bad m t || decide (a < 1)) = true
  · rw [if_pos h1]; exact parts_nil _
  · rw [if_neg h1]
    by_cases h2 : (m.ws.any fun x => x.2 == a) = true
    · rw [if_pos h2]; exact parts_nil _
    · rw [if_neg h2]
      have hn := retired_nodup h t a h2
      have e : m.ws.map (·.2) ++ [a] = (retired m t a).ws.map (·.2) := by simp [retired]
      by_cases h3 : mine (retired m t a) t ≤ 3 * m.n
      · rw [if_pos h3, if_pos rfl, e]; exact parts_nil _
      · rw [if_neg h3, if_pos rfl, e]; exact parts_scan _ hn t
theorem parts_deed {m : HM} (h : Good m) (d t k a : Int) : Parts (own1 m d t k a) (deed m d t k a).2.1 ((deed m d t k a).1.ws.map (·.2)) := by
  by_cases h4 : d = 4
  · subst h4
    have := parts_retire h t a
    have e : deed m 4 t k a = retireD m t a := by unfold deed; rfl
    unfold own1
    rw [e]
    by_cases h0 : (retireD m t a).2.2 = 0
    · rw [if_pos ⟨rfl, h0⟩]; rwa [if_pos h0] at this
    · rw [if_neg (fun q => h0 q.2)]; rwa [if_neg h0] at this
  · unfold own1
    rw [if_neg (fun q => h4 q.1)]
    unfold deed
    split
    · exact parts_nil _
    · split
      · unfold outD; split <;> exact parts_nil _
      · split
        · unfold holdD; split <;> exact parts_nil _
        · split
          · exact parts_nil _
          · split
            · exact parts_rest m h _
            · exact parts_nil _
/-- The law's own list, when k of the numbers that came back are taken. -/
def less (l0 back : List Int) (k : Nat) : List Int := l0.filter fun y => !(back.take k).contains y
theorem less_zero (l0 back : List Int) : less l0 back 0 = l0 := by
  unfold less
  exact List.filter_eq_self.2 (fun _ _ => rfl)
theorem less_succ (l0 back : List Int) (k : Nat) (hk : k < back.length) : (less l0 back k).filter (fun y => y != back.getD k 0) = less l0 back (k + 1) := by
  unfold less
  rw [List.filter_filter]
  apply List.filter_congr
  intro x _
  have e : back.getD k 0 = back[k] := by simp [hk]
  have h : (back.take (k + 1)).contains x = ((back.take k).contains x || x == back[k]) := by
    rw [List.take_succ_eq_append_getElem hk, Bool.eq_iff_iff]
    simp only [List.contains_iff_mem, List.mem_append, List.mem_singleton, Bool.or_eq_true, beq_iff_eq]
  rw [h, e]
  cases (back.take k).contains x <;> cases hq : x == back[k] <;> simp [bne, hq]
end Go.Proofs.Ytgdadefobhfkcaa.Hy
