/- The reference's Check at a program that lies in memory: out of the printed walk (XRc) and its plain law (RcpC); no condition. -/
import Derived.Test.YtgfbgbclpeihdaaLiB
import Derived.Test.YtgfbgbclpeihdaaRcpC
namespace Go.Proofs.Ytgfbgbclpeihdaa.Li
open Go.RowKit Go.Proofs.Ytgfbgbclpeihdaa.XRc Go.Proofs.YtgfbgbclpeihdaaW.PrintWords Go.Proofs.YtgfbgbclpeihdaaW.PrintLast Go.Proofs.YtgfbgbclpeihdaaW.PrintMore
set_option linter.unusedVariables false
set_option linter.unusedSimpArgs false
set_option maxRecDepth 100000
def toS (x : LOp) : S44 := ⟨x.k, x.l, x.v, x.w, x.o⟩
theorem ops_C {w : World} {A : Option Addr} {L : List LOp} (h : OAt w A L) (hl : L.length ≤ 1000000) : k44.C w A (L.map toS).length (L.map toS) := by
  refine ⟨rfl, by rw [List.length_map]; omega, fun hn => ?_⟩
  rw [List.length_map] at hn
  obtain ⟨ad, e, _⟩ := h 0 hn
  subst e
  refine ⟨ad, rfl, fun j p hj => ?_⟩
  rw [List.getElem?_map] at hj
  obtain ⟨x, hx, rfl⟩ := Option.map_eq_some_iff.1 hj
  obtain ⟨hjl, rfl⟩ := List.getElem?_eq_some_iff.1 hx
  obtain ⟨ad', e', h0, h1, h2, h3, h4⟩ := h j hjl
  injection e' with e'
  subst e'
  refine ⟨_, rfl, k44_mk w _, fun i u hu => ?_⟩
  show w.cell? (ad.add (j * 5 + i)) = some u
  match i, hu with
  | 0, hu => simp only [List.getElem?_cons_zero, Option.some.injEq] at hu; subst hu; exact h0
  | 1, hu => simp only [List.getElem?_cons_zero, List.getElem?_cons_succ, Option.some.injEq] at hu; subst hu; exact h1
  | 2, hu => simp only [List.getElem?_cons_zero, List.getElem?_cons_succ, Option.some.injEq] at hu; subst hu; exact h2
  | 3, hu => simp only [List.getElem?_cons_zero, List.getElem?_cons_succ, Option.some.injEq] at hu; subst hu; exact h3
  | 4, hu => simp only [List.getElem?_cons_zero, List.getElem?_cons_succ, Option.some.injEq] at hu; subst hu; exact h4
  | i + 5, hu => simp at hu
def toP (P : List (List LOp)) : List (List S44) := P.map (·.map toS)
theorem prog_C {w : World} {A : Option Addr} {P : List (List LOp)} (h : PAt w A P) (hl : P.length ≤ 1000000) (hr : ∀ r ∈ P, r.length ≤ 1000000) : (Kd.slice 44 k44).C w A (toP P).length (toP P) := by
  refine ⟨rfl, by unfold toP; rw [List.length_map]; omega, fun hn => ?_⟩
  unfold toP at hn
  rw [List.length_map] at hn
  obtain ⟨ad, B, c, e, _⟩ := h 0 hn
  subst e
  refine ⟨ad, rfl, fun j p hj => ?_⟩
  unfold toP at hj
  rw [List.getElem?_map] at hj
  obtain ⟨x, hx, rfl⟩ := Option.map_eq_some_iff.1 hj
  obtain ⟨hjl, rfl⟩ := List.getElem?_eq_some_iff.1 hx
  obtain ⟨ad', B, c, e', h0, h1, h2⟩ := h j hjl
  injection e' with e'
  subst e'
  refine ⟨_, rfl, ⟨B, c, rfl, by rw [List.length_map]; exact h1, ops_C h2 (hr _ (List.getElem_mem hjl))⟩, fun i u hu => ?_⟩
  match i, hu with
  | 0, hu =>
    simp only [List.getElem?_cons_zero, Option.some.injEq] at hu
    subst hu
    show w.cell? (ad.add (j * 1 + 0)) = _
    rw [Nat.mul_one, List.length_map]; exact h0
  | i + 1, hu => simp at hu
theorem toP_back (P : List (List LOp)) : progOf (toP P) = P := by
  unfold progOf toP
  rw [List.map_map]
  have : ((fun r : List S44 => r.map opOf) ∘ fun r : List LOp => r.map toS) = id := by
    funext r
    show (r.map toS).map opOf = r
    rw [List.map_map, show opOf ∘ toS = id from rfl, List.map_id]
  rw [this, List.map_id]
theorem rcheck_calls (P : List (List LOp)) (A : Option Addr) (c : Nat) (w : World) (hp : PAt w A P) (hc : P.length ≤ c) (hl : P.flatten.length ≤ 1000000) (hl2 : P.length ≤ 1000) :
    Calls Try.prog 15 #[.agg #[.slice A P.length c]] w fun e w' => e = .returned (.int .i64 (checkL P)) ∧ Below w.heap.size w w' := by
  have hr : ∀ r ∈ P, r.length ≤ 1000000 := fun r hr => by
    have := List.Sublist.length_le (List.sublist_flatten_of_mem hr)
    omega
  have el : (toP P).length = P.length := by unfold toP; rw [List.length_map]
  have h := rcheck_f (toP P) (by omega) (by rw [← lens_flat, toP_back]; exact hl) (needC (toP P) + 11) (by omega)
  rw [toP_back] at h
  have := locklessref03_Check.calls (needC (toP P) + 11) A c (toP P) (checkL P) w (prog_C hp (by omega) hr) (by rw [el]; exact hc) h
  rw [el] at this
  exact this
end Go.Proofs.Ytgfbgbclpeihdaa.Li
