/- A slice of deeds, read out of the row's argument: plain lemmas; no condition. -/
import Derived.Test.YtgdadefobhfkcaaHyP
import Derived.Deep.Slices
import Derived.ChangeSame
namespace Go.Proofs.Ytgdadefobhfkcaa.Hy
open Go.RowKit Go.ChangeShapes Go.WideShapes
theorem open_deeds {H : Type} {enc : TypeId × Value → H} {w : World} {base : Nat} {spare : Nat → Bool} {held : Bool} {fuel : Nat} {a : Option Addr} {len cap : Nat} {x : DataW H × List MemPlace}
    (hf : DataW.trod enc Try.prog w base spare held fuel 22 (Value.cells (.slice a len cap)).toList = some x) : ∃ ds : List DD, ds.length = len ∧ DeedsAt w a ds := by
  have ce : Try.prog.cellsOf 33 = 4 := by kernel_rfl
  rcases Deep.open_slice Try.underlying22 hf with ⟨hcs, _⟩ | ⟨ad, l, c, m, n, D, Pl, hcs, hb, hl, hm, hmm, hx, hel⟩
  · simp [Value.cells] at hcs
    obtain ⟨rfl, rfl, rfl⟩ := hcs
    exact ⟨[], rfl, fun j hj => absurd hj (by simp)⟩
  · simp [Value.cells] at hcs
    obtain ⟨rfl, rfl, rfl⟩ := hcs
    have hlm : len ≤ m := by rw [hmm]; split <;> omega
    have each : ∀ i, i < len → ∃ d : DD, w.cell? (ad.add (i * 4)) = some (.int .i64 d.d) ∧ w.cell? (ad.add (i * 4 + 1)) = some (.int .i64 d.t) ∧ w.cell? (ad.add (i * 4 + 2)) = some (.int .i64 d.k) ∧ w.cell? (ad.add (i * 4 + 3)) = some (.int .i64 d.a) := by
      intro i hi
      obtain ⟨cs', h1, h2⟩ := hel i (by omega)
      rw [ce] at h1
      obtain ⟨_, hlen, hcell⟩ := World.cells?_some h1
      obtain ⟨xs, k, hk, hxy, _, hxl, hg⟩ := DataW.trod_struct Try.underlying33 h2
      match cs', hlen with
      | [c0, c1, c2, c3], _ =>
        have g0 := hg 0 _ rfl
        have g1 := hg 1 _ rfl
        have g2 := hg 2 _ rfl
        have g3 := hg 3 _ rfl
        have k3 : Try.prog.cellsOf 3 = 1 := by kernel_rfl
        simp [k3] at g0 g1 g2 g3
        have e0 := hcell 0 (by omega)
        have e1 := hcell 1 (by omega)
        have e2 := hcell 2 (by omega)
        have e3 := hcell 3 (by omega)
        rw [Deep.add_add] at e0 e1 e2 e3
        have hx4 : xs.length = 4 := hxl
        rw [List.getElem?_eq_getElem (show 0 < xs.length by omega)] at g0
        rw [List.getElem?_eq_getElem (show 1 < xs.length by omega)] at g1
        rw [List.getElem?_eq_getElem (show 2 < xs.length by omega)] at g2
        rw [List.getElem?_eq_getElem (show 3 < xs.length by omega)] at g3
        obtain ⟨a0, q0, _, _⟩ := DataW.trod_int Try.underlying3 g0
        obtain ⟨a1, q1, _, _⟩ := DataW.trod_int Try.underlying3 g1
        obtain ⟨a2, q2, _, _⟩ := DataW.trod_int Try.underlying3 g2
        obtain ⟨a3, q3, _, _⟩ := DataW.trod_int Try.underlying3 g3
        obtain rfl : c0 = .int .i64 a0 := by simpa using q0
        obtain rfl : c1 = .int .i64 a1 := by simpa using q1
        obtain rfl : c2 = .int .i64 a2 := by simpa using q2
        obtain rfl : c3 = .int .i64 a3 := by simpa using q3
        exact ⟨⟨a0, a1, a2, a3⟩, e0, e1, e2, e3⟩
    obtain ⟨f, hf2⟩ := Deep.choose_lt each
    refine ⟨(List.range len).map f, by simp, fun j hj => ⟨ad, rfl, ?_⟩⟩
    have hj2 : j < len := by simpa using hj
    have e : ((List.range len).map f)[j]! = f j := by simp [hj2]
    rw [e]
    exact hf2 j hj2
theorem bounds_any (t : Int) (A : Option Addr) (len c : Nat) (ds : List DD) (w : World) (hd : ds.length = len ∧ DeedsAt w A ds) :
    Calls Try.prog 5 #[.int .i64 t, .slice A len c] w fun e w' => e = .returned (.bool true) ∧ Below w.heap.size w w' := by
  obtain ⟨rfl, hd⟩ := hd
  by_cases hl : ds.length ≤ 200
  · by_cases h : 1 ≤ t ∧ t ≤ 4
    · obtain ⟨n, rfl⟩ := Int.eq_ofNat_of_zero_le (show 0 ≤ t by omega)
      exact bounds_walk n A c ds w hd (by omega) (by omega) hl (fun k hk => play_bound n ds k hk)
    · exact bounds_none t A c ds w hl (by omega)
  · exact bounds_long t A c ds w (by omega)
theorem bounds_row (t : Int) (A : Option Addr) (len c : Nat) (ds : List DD) (w : World) (_ht : (Lit.int .i64 t).wf = true) (hd : ds.length = len ∧ DeedsAt w A ds) :
    Calls Try.prog 5 #[.int .i64 t, .slice A len c] w fun e w' => e = .returned (.bool true) ∧ Below w.heap.size w w' := bounds_any t A len c ds w hd
end Go.Proofs.Ytgdadefobhfkcaa.Hy
