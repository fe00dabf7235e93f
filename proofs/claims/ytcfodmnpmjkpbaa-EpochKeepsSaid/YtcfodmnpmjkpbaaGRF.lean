/- The cases of EpochFar and EpochKeeps, read out of the row's argument: plain lemmas; no condition. -/
import Derived.Test.YtcfodmnpmjkpbaaGK
import Derived.Test.YtcfodmnpmjkpbaaGR
import Derived.Lib.SmallJoins
namespace Go.Proofs.Ytcfodmnpmjkpbaa.Ep
open Go.Joins Go.RowKit Go.ChangeShapes Go.WideShapes Go.Deep
set_option linter.unusedVariables false
set_option maxRecDepth 100000
theorem open_deeds1 {H : Type} {enc : TypeId × Value → H} {w : World} {base : Nat} {spare : Nat → Bool} {held : Bool} {fuel : Nat} {v : Value} {x : DataW H × List MemPlace}
    (hf : DataW.trod enc Try.prog w base spare held fuel 27 [v] = some x) : ∃ (a : Option Addr) (c : Nat) (ds : List DD), v = .slice a ds.length c ∧ DeedsAt w a ds := by
  have key : ∃ a len cap, v = .slice a len cap := by
    rcases Deep.open_slice Try.underlying27 hf with ⟨hcs, _⟩ | ⟨ad, l, c, m, n, D, Pl, hcs, _⟩
    · exact ⟨none, 0, 0, by simpa using hcs⟩
    · exact ⟨some ad, l, c, by simpa using hcs⟩
  obtain ⟨a, len, cap, rfl⟩ := key
  obtain ⟨ds, hl, hd⟩ := open_deeds (a := a) (len := len) (cap := cap) hf
  exact ⟨a, cap, ds, by rw [hl], hd⟩
section
variable {H : Type} {enc : TypeId × Value → H} {P : Program} {w : World} {base : Nat} {spare : Nat → Bool} {held : Bool}
theorem open_agg6 {r : Reach} {b0 : Nat} {t : TypeId} {f0 f1 f2 f3 f4 f5 : Field} {v : Value} {d : DataW H} {p : List MemPlace} (hs : P.underlying t = some (.struct #[f0, f1, f2, f3, f4, f5])) (hone : oneCellFields P #[f0, f1, f2, f3, f4, f5] = true) (hC : P.cellsOf t = 6)
    (hv : Value.okWide P w r b0 t v) (h : DataW.Trod enc P w base spare held t v d p) :
    ∃ (v0 v1 v2 v3 v4 v5 : Value) (y0 y1 y2 y3 y4 y5 : DataW H × List MemPlace) (n : Nat), v = .agg #[v0, v1, v2, v3, v4, v5] ∧
      DataW.trod enc P w base spare held n f0.type [v0] = some y0 ∧ DataW.trod enc P w base spare held n f1.type [v1] = some y1 ∧ DataW.trod enc P w base spare held n f2.type [v2] = some y2 ∧ DataW.trod enc P w base spare held n f3.type [v3] = some y3 ∧ DataW.trod enc P w base spare held n f4.type [v4] = some y4 ∧ DataW.trod enc P w base spare held n f5.type [v5] = some y5 := by
  obtain ⟨cs, rfl, hsz⟩ := okWide_struct hs hv
  obtain ⟨l⟩ := cs
  match l, hsz.trans hC with
  | [c0, c1, c2, c3, c4, c5], _ =>
    obtain ⟨fuel, hf⟩ := h
    obtain ⟨xs, n, _, hx, _, hlen, hg⟩ := DataW.trod_struct hs hf
    obtain ⟨o0, k0⟩ := hone_of hone 0 f0 rfl
    obtain ⟨o1, k1⟩ := hone_of hone 1 f1 rfl
    obtain ⟨o2, k2⟩ := hone_of hone 2 f2 rfl
    obtain ⟨o3, k3⟩ := hone_of hone 3 f3 rfl
    obtain ⟨o4, k4⟩ := hone_of hone 4 f4 rfl
    obtain ⟨o5, k5⟩ := hone_of hone 5 f5 rfl
    match xs, hlen with
    | [y0, y1, y2, y3, y4, y5], _ =>
      exact ⟨c0, c1, c2, c3, c4, c5, y0, y1, y2, y3, y4, y5, n, rfl, by simpa [Value.cells, o0, k0] using hg 0 f0 rfl, by simpa [Value.cells, o1, k1] using hg 1 f1 rfl, by simpa [Value.cells, o2, k2] using hg 2 f2 rfl, by simpa [Value.cells, o3, k3] using hg 3 f3 rfl, by simpa [Value.cells, o4, k4] using hg 4 f4 rfl, by simpa [Value.cells, o5, k5] using hg 5 f5 rfl⟩
end
def FarCase (w : World) (v : Value) : Prop := ∃ (t u : Int) (A A2 : Option Addr) (c c2 : Nat) (ds es : List DD), v = .agg #[.int .i64 t, .slice A ds.length c, .int .i64 u, .slice A2 es.length c2] ∧ DeedsAt w A ds ∧ DeedsAt w A2 es
theorem open_far {H : Type} {enc : TypeId × Value → H} {w : World} {base b0 : Nat} {spare : Nat → Bool} {held : Bool} {r : Reach} {v : Value} {d : DataW H} {p : List MemPlace}
    (hv : Value.okWide Try.prog w r b0 62 v) (h : DataW.Trod enc Try.prog w base spare held 62 v d p) : FarCase w v := by
  have C : Try.prog.cellsOf 62 = 4 := by kernel_rfl
  obtain ⟨v0, v1, v2, v3, y0, y1, y2, y3, n, rfl, _, _, g0, g1, g2, g3⟩ := open_agg4 Try.underlying62 (by kernel_rfl) C hv h
  obtain ⟨a0, q0, _, _⟩ := DataW.trod_int Try.underlying3 g0
  obtain rfl : v0 = .int .i64 a0 := by simpa using q0
  obtain ⟨a2, q2, _, _⟩ := DataW.trod_int Try.underlying3 g2
  obtain rfl : v2 = .int .i64 a2 := by simpa using q2
  obtain ⟨A, c, ds, rfl, hd⟩ := open_deeds1 g1
  obtain ⟨A2, c2, es, rfl, he⟩ := open_deeds1 g3
  exact ⟨a0, a2, A, A2, c, c2, ds, es, rfl, hd, he⟩
theorem far_row (v : Value) (w : World) (h : FarCase w v) : Calls Try.prog 6 #[v] w fun e w' => e = .returned (.bool true) ∧ Below w.heap.size w w' := by
  obtain ⟨t, u, A, A2, c, c2, ds, es, rfl, hd, he⟩ := h
  exact far_walk t u A A2 c c2 ds es w hd he
def KeepCase (w : World) (v : Value) : Prop := ∃ (t u b a : Int) (A A2 : Option Addr) (c c2 : Nat) (ds es : List DD), v = .agg #[.int .i64 t, .slice A ds.length c, .int .i64 u, .int .i64 b, .int .i64 a, .slice A2 es.length c2] ∧ DeedsAt w A ds ∧ DeedsAt w A2 es
theorem open_keep {H : Type} {enc : TypeId × Value → H} {w : World} {base b0 : Nat} {spare : Nat → Bool} {held : Bool} {r : Reach} {v : Value} {d : DataW H} {p : List MemPlace}
    (hv : Value.okWide Try.prog w r b0 53 v) (h : DataW.Trod enc Try.prog w base spare held 53 v d p) : KeepCase w v := by
  have C : Try.prog.cellsOf 53 = 6 := by kernel_rfl
  obtain ⟨v0, v1, v2, v3, v4, v5, y0, y1, y2, y3, y4, y5, n, rfl, g0, g1, g2, g3, g4, g5⟩ := open_agg6 Try.underlying53 (by kernel_rfl) C hv h
  obtain ⟨a0, q0, _, _⟩ := DataW.trod_int Try.underlying3 g0
  obtain rfl : v0 = .int .i64 a0 := by simpa using q0
  obtain ⟨a2, q2, _, _⟩ := DataW.trod_int Try.underlying3 g2
  obtain rfl : v2 = .int .i64 a2 := by simpa using q2
  obtain ⟨a3, q3, _, _⟩ := DataW.trod_int Try.underlying3 g3
  obtain rfl : v3 = .int .i64 a3 := by simpa using q3
  obtain ⟨a4, q4, _, _⟩ := DataW.trod_int Try.underlying3 g4
  obtain rfl : v4 = .int .i64 a4 := by simpa using q4
  obtain ⟨A, c, ds, rfl, hd⟩ := open_deeds1 g1
  obtain ⟨A2, c2, es, rfl, he⟩ := open_deeds1 g5
  exact ⟨a0, a2, a3, a4, A, A2, c, c2, ds, es, rfl, hd, he⟩
theorem keep_row (v : Value) (w : World) (h : KeepCase w v) : Calls Try.prog 5 #[v] w fun e w' => e = .returned (.bool true) ∧ Below w.heap.size w w' := by
  obtain ⟨t, u, b, a, A, A2, c, c2, ds, es, rfl, hd, he⟩ := h
  exact keeps_walk t u b a A A2 c c2 ds es w hd he
end Go.Proofs.Ytcfodmnpmjkpbaa.Ep
