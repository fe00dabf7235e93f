/- A list of calls that is handed in, opened: plain lemmas; no condition. -/
import Derived.Test.YtiialjmpfeopjaaGreatLwB
import Derived.ChangeSlices
import Derived.ChangeArms
import Derived.WideShapes
import Derived.SizedLaws
import Derived.Lib.SmallJoins
import Derived.Test.YtiialjmpfeopjaaGreatWSized
namespace Go.Proofs.YtiialjmpfeopjaaGreat.Sp
open Go.RowKit Go.Sort Go.ChangeShapes Go.WideShapes Go.Proofs.YtiialjmpfeopjaaGreatW.PrintWords Go.Proofs.YtiialjmpfeopjaaGreatW.PrintLast Go.Proofs.YtiialjmpfeopjaaGreatW.PrintMore
set_option linter.unusedVariables false
set_option linter.unusedSimpArgs false
set_option maxHeartbeats 8000000
set_option maxRecDepth 100000
theorem add_add' (ad : Addr) (m i : Nat) : (ad.add m).add i = ad.add (m + i) := by
  unfold Addr.add
  by_cases hm : m = 0 <;> by_cases hi : i = 0 <;> simp [hm, hi, Nat.add_assoc]
theorem choose_lt' {α : Type} {n : Nat} {p : Nat → α → Prop} (h : ∀ i, i < n → ∃ a, p i a) : ∃ l : List α, l.length = n ∧ ∀ (j : Nat) (hj : j < l.length), p j l[j] := by
  induction n with
  | zero => exact ⟨[], rfl, fun j hj => absurd hj (by simp)⟩
  | succ n ih =>
    obtain ⟨l, hl, hp⟩ := ih (fun i hi => h i (by omega))
    obtain ⟨a, ha⟩ := h n (by omega)
    refine ⟨l ++ [a], by simp [hl], fun j hj => ?_⟩
    by_cases q : j < l.length
    · rw [List.getElem_append_left q]; exact hp j q
    · have : j = n := by simp at hj; omega
      subst this
      rw [List.getElem_append_right (by omega)]
      simpa [hl] using ha
theorem open_calls {H : Type} {enc : TypeId × Value → H} {w : World} {base : Nat} {spare : Nat → Bool} {held : Bool} {fuel : Nat} {a : Option Addr} {len cap : Nat} {x : DataW H × List MemPlace}
    (hf : DataW.trod enc Tryz.prog w base spare held fuel 38 (Value.cells (.slice a len cap)).toList = some x) : ∃ ds : List CallT, ds.length = len ∧ CallsAt w a ds := by
  have ce : Tryz.prog.cellsOf 24 = 3 := by kernel_rfl
  rcases Deep.open_slice Tryz.underlying38 hf with ⟨hcs, _⟩ | ⟨ad, l, c, m, n, D, Pl, hcs, hb, hl, hm, hmm, hx, hel⟩
  · simp [Value.cells] at hcs
    obtain ⟨rfl, rfl, rfl⟩ := hcs
    exact ⟨[], rfl, fun j hj => absurd hj (by simp)⟩
  · simp [Value.cells] at hcs
    obtain ⟨rfl, rfl, rfl⟩ := hcs
    have hlm : len ≤ m := by rw [hmm]; split <;> omega
    have each : ∀ i, i < len → ∃ d : CallT, w.cell? (ad.add (i * 3)) = some (.string d.1) ∧ w.cell? (ad.add (i * 3 + 1)) = some (.int .i64 d.2.1) ∧ w.cell? (ad.add (i * 3 + 2)) = some (.int .i64 d.2.2) := by
      intro i hi
      obtain ⟨cs', h1, h2⟩ := hel i (by omega)
      rw [ce] at h1
      obtain ⟨_, hlen, hcell⟩ := World.cells?_some h1
      obtain ⟨xs, k, hk, hxy, _, hxl, hg⟩ := DataW.trod_struct Tryz.underlying24 h2
      match cs', hlen with
      | [c0, c1, c2], _ =>
        have g0 := hg 0 _ rfl
        have g1 := hg 1 _ rfl
        have g2 := hg 2 _ rfl
        have k3 : Tryz.prog.cellsOf 3 = 1 := by kernel_rfl
        have k9 : Tryz.prog.cellsOf 9 = 1 := by kernel_rfl
        simp [k3, k9] at g0 g1 g2
        have e0 := hcell 0 (by omega)
        have e1 := hcell 1 (by omega)
        have e2 := hcell 2 (by omega)
        rw [add_add'] at e0 e1 e2
        have hx4 : xs.length = 3 := hxl
        rw [List.getElem?_eq_getElem (show 0 < xs.length by omega)] at g0
        rw [List.getElem?_eq_getElem (show 1 < xs.length by omega)] at g1
        rw [List.getElem?_eq_getElem (show 2 < xs.length by omega)] at g2
        obtain ⟨a0, q0, _, _⟩ := DataW.trod_string Tryz.underlying9 g0
        obtain ⟨a1, q1, _, _⟩ := DataW.trod_int Tryz.underlying3 g1
        obtain ⟨a2, q2, _, _⟩ := DataW.trod_int Tryz.underlying3 g2
        obtain rfl : c0 = .string a0 := by simpa using q0
        obtain rfl : c1 = .int .i64 a1 := by simpa using q1
        obtain rfl : c2 = .int .i64 a2 := by simpa using q2
        exact ⟨(a0, a1, a2), e0, e1, e2⟩
    obtain ⟨l, hl2, hp⟩ := choose_lt' each
    exact ⟨l, hl2, fun j hj => ⟨ad, rfl, hp j hj⟩⟩
end Go.Proofs.YtiialjmpfeopjaaGreat.Sp
