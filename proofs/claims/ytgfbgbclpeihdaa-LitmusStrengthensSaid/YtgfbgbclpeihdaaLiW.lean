/- A litmus program that is handed in, opened: plain lemmas; no condition. -/
import Derived.Test.YtgfbgbclpeihdaaLiA
import Derived.ChangeSlices
import Derived.ChangeArms
import Derived.WideShapes
import Derived.SizedLaws
import Derived.Lib.SmallJoins
import Derived.Deep.Slices
import Derived.DataReads
import Derived.Test.YtgfbgbclpeihdaaCore
namespace Go.Proofs.Ytgfbgbclpeihdaa.Li
open Go.RowKit Go.Sort Go.ChangeShapes Go.WideShapes Go.Proofs.YtgfbgbclpeihdaaW.PrintWords Go.Proofs.YtgfbgbclpeihdaaW.PrintLast Go.Proofs.YtgfbgbclpeihdaaW.PrintMore
set_option linter.unusedVariables false
set_option linter.unusedSimpArgs false
set_option maxHeartbeats 8000000
set_option maxRecDepth 100000
theorem add_add' (ad : Addr) (m i : Nat) : (ad.add m).add i = ad.add (m + i) := by
  unfold Addr.add
  by_cases hm : m = 0 <;> by_cases hi : i = 0 <;> simp [hm, hi, Nat.add_assoc]
theorem choose_lt' {α : Type} {n : Nat} {p : Nat → α → Prop} (h : ∀ i, i < n → ∃ a, p i a) : ∃ l : List α, l.length = n ∧ ∀ (j : Nat) (hj : j < l.length), p j l[j] := by
  induction n with
  | zero => exact ⟨[], rfl, fun j hj => absurd hj (by simp)⟩
  | succ n ih =>
    obtain ⟨l, hl, hp⟩ := ih (fun i hi => h i (by omega))
    obtain ⟨a, ha⟩ := h n (by omega)
    refine ⟨l ++ [a], by simp [hl], fun j hj => ?_⟩
    by_cases q : j < l.length
    · rw [List.getElem_append_left q]; exact hp j q
    · have : j = n := by simp at hj; omega
      subst this
      rw [List.getElem_append_right (by omega)]
      simpa [hl] using ha
theorem weights_all_mem {H : Type} {P : Program} (e : TypeId) : ∀ (l : List (DataW H)) (d : DataW H), d ∈ l → ∀ z ∈ d.weights P e, z ∈ DataW.weightsAll P e l
  | [], d, h, _, _ => by cases h
  | a :: l, d, h, z, hz => by
    simp only [DataW.weightsAll, List.mem_append]
    rcases List.mem_cons.1 h with rfl | h
    · exact .inl hz
    · exact .inr (weights_all_mem e l d h z hz)
section
variable {α : Type} (mk : Int → Int → Int → Int → Int → α) (kd : Kd α) (hk5 : kd.sz = 5) (hmk : ∀ w k l v u o, kd.K w (mk k l v u o) [.int .i64 k, .int .i64 l, .int .i64 v, .int .i64 u, .int .i64 o])
include hk5 hmk
theorem open_ops {H : Type} {enc : TypeId × Value → H} {w : World} {base : Nat} {spare : Nat → Bool} {held : Bool} {fuel : Nat} {c0 : Value} {x : DataW H × List MemPlace}
    (hf : DataW.trod enc Try.prog w base spare held fuel 42 [c0] = some x) (hw : ∀ z ∈ x.1.weights Try.prog 42, z ≤ reachBytes) : ∃ (a : Option Addr) (len cap : Nat) (ds : List α), c0 = .slice a len cap ∧ len ≤ cap ∧ ds.length = len ∧ kd.C w a len ds ∧ len ≤ 35184372088832 := by
  have ce : Try.prog.cellsOf 44 = 5 := by kernel_rfl
  have be : Try.prog.bytesOf 44 = 40 := by kernel_rfl
  rcases Deep.open_slice Try.underlying42 hf with ⟨hcs, _⟩ | ⟨ad, l, c, m, n, D, Pl, hcs, hb, hl, hm, hmm, hx, hel⟩
  · simp at hcs
    subst hcs
    exact ⟨none, 0, 0, [], rfl, Nat.le_refl _, rfl, Kd.C_nil kd w, by omega⟩
  · simp at hcs
    subst hcs
    have hlm : l ≤ m := by rw [hmm]; split <;> omega
    have hl2 : l ≤ 35184372088832 := by
      subst hx
      have := hw ((l + (m - l)) * 40) (by simp [DataW.weights, Try.underlying42, be])
      unfold reachBytes at this
      omega
    have each : ∀ i, i < l → ∃ d : Int × Int × Int × Int × Int, w.cell? (ad.add (i * 5)) = some (.int .i64 d.1) ∧ w.cell? (ad.add (i * 5 + 1)) = some (.int .i64 d.2.1) ∧ w.cell? (ad.add (i * 5 + 2)) = some (.int .i64 d.2.2.1) ∧ w.cell? (ad.add (i * 5 + 3)) = some (.int .i64 d.2.2.2.1) ∧ w.cell? (ad.add (i * 5 + 4)) = some (.int .i64 d.2.2.2.2) := by
      intro i hi
      obtain ⟨cs', h1, h2⟩ := hel i (by omega)
      rw [ce] at h1
      obtain ⟨_, hlen, hcell⟩ := World.cells?_some h1
      obtain ⟨xs, k, hk, hxy, _, hxl, hg⟩ := DataW.trod_struct Try.underlying44 h2
      match cs', hlen with
      | [c0, c1, c2, c3, c4], _ =>
        have g0 := hg 0 _ rfl
        have g1 := hg 1 _ rfl
        have g2 := hg 2 _ rfl
        have g3 := hg 3 _ rfl
        have g4 := hg 4 _ rfl
        have k3 : Try.prog.cellsOf 3 = 1 := by kernel_rfl
        simp [k3] at g0 g1 g2 g3 g4
        have e0 := hcell 0 (by omega)
        have e1 := hcell 1 (by omega)
        have e2 := hcell 2 (by omega)
        have e3 := hcell 3 (by omega)
        have e4 := hcell 4 (by omega)
        rw [add_add'] at e0 e1 e2 e3 e4
        have hx4 : xs.length = 5 := hxl
        rw [List.getElem?_eq_getElem (show 0 < xs.length by omega)] at g0
        rw [List.getElem?_eq_getElem (show 1 < xs.length by omega)] at g1
        rw [List.getElem?_eq_getElem (show 2 < xs.length by omega)] at g2
        rw [List.getElem?_eq_getElem (show 3 < xs.length by omega)] at g3
        rw [List.getElem?_eq_getElem (show 4 < xs.length by omega)] at g4
        obtain ⟨a0, q0, _, _⟩ := DataW.trod_int Try.underlying3 g0
        obtain ⟨a1, q1, _, _⟩ := DataW.trod_int Try.underlying3 g1
        obtain ⟨a2, q2, _, _⟩ := DataW.trod_int Try.underlying3 g2
        obtain ⟨a3, q3, _, _⟩ := DataW.trod_int Try.underlying3 g3
        obtain ⟨a4, q4, _, _⟩ := DataW.trod_int Try.underlying3 g4
        obtain rfl : c0 = .int .i64 a0 := by simpa using q0
        obtain rfl : c1 = .int .i64 a1 := by simpa using q1
        obtain rfl : c2 = .int .i64 a2 := by simpa using q2
        obtain rfl : c3 = .int .i64 a3 := by simpa using q3
        obtain rfl : c4 = .int .i64 a4 := by simpa using q4
        exact ⟨(a0, a1, a2, a3, a4), e0, e1, e2, e3, e4⟩
    obtain ⟨ls, hl3, hp⟩ := choose_lt' each
    refine ⟨some ad, l, c, ls.map (fun d => mk d.1 d.2.1 d.2.2.1 d.2.2.2.1 d.2.2.2.2), rfl, hl, by simp [hl3], ⟨by simp [hl3], by unfold maxLen at hm; omega, fun _ => ⟨ad, rfl, fun j p hj => ?_⟩⟩, hl2⟩
    rw [List.getElem?_map] at hj
    obtain ⟨d, hd, rfl⟩ := Option.map_eq_some_iff.1 hj
    obtain ⟨hjl, rfl⟩ := List.getElem?_eq_some_iff.1 hd
    obtain ⟨e0, e1, e2, e3, e4⟩ := hp j hjl
    refine ⟨_, ?_, hmk w _ _ _ _ _, fun i u hu => ?_⟩
    · exact hk5.symm
    · rw [hk5]
      match i, hu with
      | 0, hu => simp only [List.getElem?_cons_zero, Option.some.injEq] at hu; subst hu; exact e0
      | 1, hu => simp only [List.getElem?_cons_zero, List.getElem?_cons_succ, Option.some.injEq] at hu; subst hu; exact e1
      | 2, hu => simp only [List.getElem?_cons_zero, List.getElem?_cons_succ, Option.some.injEq] at hu; subst hu; exact e2
      | 3, hu => simp only [List.getElem?_cons_zero, List.getElem?_cons_succ, Option.some.injEq] at hu; subst hu; exact e3
      | 4, hu => simp only [List.getElem?_cons_zero, List.getElem?_cons_succ, Option.some.injEq] at hu; subst hu; exact e4
      | i + 5, hu => simp at hu
theorem open_rows {H : Type} {enc : TypeId × Value → H} {w : World} {base : Nat} {spare : Nat → Bool} {held : Bool} {fuel : Nat} {c0 : Value} {x : DataW H × List MemPlace}
    (hf : DataW.trod enc Try.prog w base spare held fuel 22 [c0] = some x) (hw : ∀ z ∈ x.1.weights Try.prog 22, z ≤ reachBytes) : ∃ (a : Option Addr) (len cap : Nat) (ds : List (List α)), c0 = .slice a len cap ∧ len ≤ cap ∧ ds.length = len ∧ (Kd.slice 44 kd).C w a len ds ∧ len ≤ 17592186044416 ∧ ∀ r ∈ ds, r.length ≤ 35184372088832 := by
  have ce : Try.prog.cellsOf 42 = 1 := by kernel_rfl
  have be : Try.prog.bytesOf 42 = 24 := by kernel_rfl
  rcases Deep.open_slice Try.underlying22 hf with ⟨hcs, _⟩ | ⟨ad, l, c, m, n, D, Pl, hcs, hb, hl, hm, hmm, hx, hel⟩
  · simp at hcs
    subst hcs
    exact ⟨none, 0, 0, [], rfl, Nat.le_refl _, rfl, Kd.C_nil _ w, by omega, fun r hr => by cases hr⟩
  · simp at hcs
    subst hcs
    have hlm : l ≤ m := by rw [hmm]; split <;> omega
    have hl2 : l ≤ 17592186044416 := by
      subst hx
      have := hw ((l + (m - l)) * 24) (by simp [DataW.weights, Try.underlying22, be])
      unfold reachBytes at this
      omega
    have each : ∀ i, i < l → ∃ d : Option Addr × Nat × List α, w.cell? (ad.add i) = some (.slice d.1 d.2.2.length d.2.1) ∧ d.2.2.length ≤ d.2.1 ∧ kd.C w d.1 d.2.2.length d.2.2 ∧ d.2.2.length ≤ 35184372088832 := by
      intro i hi
      obtain ⟨cs', h1, h2⟩ := hel i (by omega)
      rw [ce] at h1
      obtain ⟨_, hlen, hcell⟩ := World.cells?_some h1
      match cs', hlen with
      | [c0], _ =>
        have e0 := hcell 0 (by omega)
        rw [add_add', Nat.mul_one, Nat.add_zero] at e0
        obtain ⟨a, len, cap, ds, rfl, hlc, hdl, hC, hb⟩ := open_ops mk kd hk5 hmk h2 (fun z hz => by
          refine hw z ?_
          subst hx
          simp only [DataW.weights, Try.underlying22, List.mem_cons, List.mem_append]
          right; left
          exact weights_all_mem _ _ (D i) (List.mem_map.2 ⟨i, List.mem_range.2 hi, rfl⟩) z hz)
        subst hdl
        exact ⟨(a, cap, ds), e0, hlc, hC, hb⟩
    obtain ⟨ls, hl3, hp⟩ := choose_lt' each
    refine ⟨some ad, l, c, ls.map (fun d => d.2.2), rfl, hl, by simp [hl3], ⟨by simp [hl3], by unfold maxLen at hm; omega, fun _ => ⟨ad, rfl, fun j p hj => ?_⟩⟩, hl2, fun r hr => ?_⟩
    · rw [List.getElem?_map] at hj
      obtain ⟨d, hd, rfl⟩ := Option.map_eq_some_iff.1 hj
      obtain ⟨hjl, rfl⟩ := List.getElem?_eq_some_iff.1 hd
      obtain ⟨e0, e1, e2, e3⟩ := hp j hjl
      refine ⟨_, rfl, ⟨_, _, rfl, e1, e2⟩, fun i u hu => ?_⟩
      match i, hu with
      | 0, hu =>
        simp only [List.getElem?_cons_zero, Option.some.injEq] at hu
        subst hu
        show w.cell? (ad.add (j * 1 + 0)) = _
        rw [Nat.mul_one]; exact e0
      | i + 1, hu => simp at hu
    · obtain ⟨d, hd, rfl⟩ := List.mem_map.1 hr
      obtain ⟨j, hj, rfl⟩ := List.mem_iff_getElem.1 hd
      exact (hp j hj).2.2.2
/-- A program that is handed in. -/
theorem open_prog {H : Type} {enc : TypeId × Value → H} {W : World} {v : Value} {d : DataW H} {p : List MemPlace} {r0 : Reach} {b0 : Nat} {ts : List TypeId} {ds : List (DataW H)} {j : Nat}
    (hv : Value.okWide Try.prog W r0 b0 24 v) (h : DataW.Trod enc Try.prog W 0 (fun _ => true) true 24 v d p)
    (hsz : (DataW.weightsEach Try.prog ts ds).all (· ≤ reachBytes) = true) (ht : ts[j]? = some 24) (hd : ds[j]? = some d) :
    ∃ (a : Option Addr) (cap : Nat) (l : List (List α)), v = .agg #[.slice a l.length cap] ∧ l.length ≤ cap ∧ (Kd.slice 44 kd).C W a l.length l ∧ l.length ≤ 17592186044416 ∧ ∀ r ∈ l, r.length ≤ 35184372088832 := by
  have hC : Try.prog.cellsOf 24 = 1 := by kernel_rfl
  obtain ⟨cs, rfl, hsc⟩ := okWide_struct Try.underlying24 hv
  rw [hC] at hsc
  obtain ⟨fuel, hf⟩ := h
  obtain ⟨xs, m, _, hx, hl, hlen, hfld⟩ := DataW.trod_struct Try.underlying24 hf
  obtain ⟨cl⟩ := cs
  have hx1 : xs.length = 1 := hlen
  match cl, hsc, xs, hx1 with
  | [c0], _, [x0], _ =>
    have g0 := hfld 0 _ rfl
    have k22 : Try.prog.cellsOf 22 = 1 := by kernel_rfl
    simp only [Value.cells, k22, List.drop_zero, List.take_succ_cons, List.take_zero, List.getElem?_cons_zero] at g0
    obtain ⟨a, len, cap, l, rfl, h1, h2, h3, h4, h5⟩ := open_rows mk kd hk5 hmk g0 (fun z hz => by
      rw [List.all_eq_true] at hsz
      have := hsz z (DataW.weights_mem_each ht hd z (by
        obtain ⟨rfl, _⟩ := Prod.mk.inj hx
        simp only [DataW.weights, Try.underlying24, List.map_cons, List.map_nil, DataW.weightsEach, List.append_nil]
        exact hz))
      exact of_decide_eq_true this)
    subst h2
    exact ⟨a, cap, l, rfl, h1, h3, h4, h5⟩
end
end Go.Proofs.Ytgfbgbclpeihdaa.Li
