/- A list of holds in the heap: plain lemmas; no condition. -/
import Derived.Test.YtgdadefobhfkcaaHyK0
import Derived.Test.YtgdadefobhfkcaaHyC1
namespace Go.Proofs.Ytgdadefobhfkcaa.Hy
open Go.RowKit Go.Proofs.YtgdadefobhfkcaaW.PrintWords Go.Proofs.YtgdadefobhfkcaaW.PrintLast Go.Proofs.YtgdadefobhfkcaaW.PrintMore
set_option linter.unusedVariables false
set_option linter.unusedSimpArgs false
set_option maxHeartbeats 8000000
set_option maxRecDepth 100000
/-- A row's slice: its block and its room. -/
def encP (p : Nat × Nat) : Value := .slice (some ⟨p.1, 0, none⟩) 3 p.2
def kdP : Kd (Nat × Nat) := Kd.scalar encP (fun _ => rfl)
def three (hs : List Int) (t : Nat) : List Int := [hs.getD (t * 3) 0, hs.getD (t * 3 + 1) 0, hs.getD (t * 3 + 2) 0]
/-- The list of holds: rows of three, each at a block of its own. -/
structure HL (w : World) (base : Nat) (v : Value) (ps : List (Nat × Nat)) (hs : List Int) : Prop where
  top : kdP.R 29 w base (fun _ => True) v ps
  nd : (ps.map (·.1)).Nodup
  row : ∀ t, t < ps.length → Kd.R (Kd.int .i64) 3 w base (fun _ => True) (encP (ps.getD t (0, 0))) (three hs t)
theorem HL.grow {w w' : World} {base : Nat} {v : Value} {ps : List (Nat × Nat)} {hs : List Int} (h : HL w base v ps hs) (hb : Below w.heap.size w w') : HL w' base v ps hs :=
  ⟨Kd.R_below h.top hb, h.nd, fun t ht => Kd.R_below (h.row t ht) hb⟩
theorem R_keptM {α : Type} {d : Kd α} {e : Nat} {B : Nat} {w w' : World} {g base : Nat} {A : Option Addr} {wv v : Value} {m : HM} {xs : List α} (hE : d.E = []) (he : e ≠ 53 ∧ e ≠ 66 ∧ e ≠ 61) (h : d.R e w base (fun _ => True) v xs) (hm : Man B w g A wv m) (hk : Kept w w' (foot g A wv)) : d.R e w' base (fun _ => True) v xs := by
  refine Kd.R_mono (Kd.R_step (Kd.R_bound h) (fun k hk1 hlt => hk.2 k hlt (fun hf => ?_))) (fun _ _ => trivial)
  obtain ⟨_, _, _, q, hq, cells, hc⟩ := hk1
  have hq3 : q = e := by rw [hE] at hq; simpa using hq
  subst hq3
  rcases hf with rfl | ⟨a, ha, rfl⟩ | hf
  · obtain ⟨cs, h53⟩ := hm.tag
    exact ne_of_tag h53 hc (fun e => he.1 e.symm) rfl
  · obtain ⟨b2, e, _, tl, hh⟩ := hm.row a ha
    subst e
    exact ne_of_tag hh hc (fun e => he.2.1 e.symm) rfl
  · obtain ⟨c2, hc2⟩ := own_tag hm.own k hf
    exact ne_of_tag hc2 hc (fun e => he.2.2 e.symm) rfl
theorem HL.deed {B : Nat} {w w' : World} {g : Nat} {A : Option Addr} {wv v : Value} {m : HM} {base : Nat} {ps : List (Nat × Nat)} {hs : List Int} (h : HL w base v ps hs) (hm : Man B w g A wv m) (hk : Kept w w' (foot g A wv)) : HL w' base v ps hs :=
  ⟨R_keptM rfl (by decide) h.top hm hk, h.nd, fun t ht => R_keptM rfl (by decide) (h.row t ht) hm hk⟩
/-- A further row. -/
theorem HL.snoc {w w' : World} {base : Nat} {v v' : Value} {ps : List (Nat × Nat)} {hs : List Int} {p : Nat × Nat} (h : HL w base v ps hs) (hv : kdP.R 29 w' base (fun _ => True) v' (ps ++ [p])) (hg : w.grownBy w' v.ownBlock)
    (hr : Kd.R (Kd.int .i64) 3 w base (fun _ => True) (encP p) (three hs ps.length)) (hp : p.1 ∉ ps.map (·.1)) : HL w' base v' (ps ++ [p]) hs := by
  have keep : ∀ (q : Nat × Nat) (l : List Int), Kd.R (Kd.int .i64) 3 w base (fun _ => True) (encP q) l → Kd.R (Kd.int .i64) 3 w' base (fun _ => True) (encP q) l := fun q l hq =>
    Kd.R_grown2 hq rfl hg (fun k hk he => by
      obtain ⟨c, hc⟩ := Kd.R_typed h.top k hk
      obtain ⟨c2, hc2⟩ := Kd.R_typed hq k he.symm
      exact ne_of_tag hc hc2 (by decide) rfl)
  refine ⟨hv, ?_, fun t ht => ?_⟩
  · rw [List.map_append, List.nodup_append]
    refine ⟨h.nd, by simp, fun x hx y hy e => ?_⟩
    simp at hy
    subst hy
    exact hp (e ▸ hx)
  · rw [List.length_append, List.length_singleton] at ht
    by_cases hlt : t < ps.length
    · have e : (ps ++ [p]).getD t (0, 0) = ps.getD t (0, 0) := by simp [List.getElem?_append_left hlt]
      rw [e]
      exact keep _ _ (h.row t hlt)
    · have : t = ps.length := by omega
      subst this
      have e : (ps ++ [p]).getD ps.length (0, 0) = p := by simp
      rw [e]
      exact keep _ _ hr
end Go.Proofs.Ytgdadefobhfkcaa.Hy
