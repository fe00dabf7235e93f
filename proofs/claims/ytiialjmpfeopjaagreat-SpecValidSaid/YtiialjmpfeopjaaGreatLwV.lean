/- Which lists are states, and which calls a rule has: the law, walked: plain lemmas; no condition. -/
import Derived.Test.YtiialjmpfeopjaaGreatLwA
import Derived.Test.YtiialjmpfeopjaaGreatPwX
import Derived.Test.YtiialjmpfeopjaaGreatRfD
import Derived.BigQuiet
import Derived.Deep.QuietTactic
import Derived.Deep.RegionHeld3
namespace Go.Proofs.YtiialjmpfeopjaaGreat.LwValid
open Go.RowKit Go.Sort Go.Proofs.YtiialjmpfeopjaaGreat.Sp Go.Proofs.YtiialjmpfeopjaaGreatW.PrintWords Go.Proofs.YtiialjmpfeopjaaGreatW.PrintLast Go.Proofs.YtiialjmpfeopjaaGreatW.PrintMore
set_option linter.unusedVariables false
set_option linter.unusedSimpArgs false
set_option maxHeartbeats 8000000
set_option maxRecDepth 100000
theorem walk (r n : Int) (A : Option Addr) (c : Nat) (s : List Int) (op : ByteArray) (x y t : Int) (w : World) (hr : Rd w A s) (hc : s.length ≤ c) (hl : s.length ≤ 17592186044416) :
    Calls Tryz.prog 7 #[.agg #[.int .i64 r, .int .i64 n, .slice A s.length c, .string op, .int .i64 x, .int .i64 y, .int .i64 t]] w fun e w' => e = .returned (.bool true) ∧ Below w.heap.size w w' := by
  have b1 := al1 w (.cells #[.int .i64 r, .int .i64 n, .slice A s.length c, .string op, .int .i64 x, .int .i64 y, .int .i64 t] 54 (0, 0))
  have n1 := heap_alloc_new w (.cells #[.int .i64 r, .int .i64 n, .slice A s.length c, .string op, .int .i64 x, .int .i64 y, .int .i64 t] 54 (0, 0))
  have k := fun i => Go.Lib.cell_of_heap n1 i
  have k0 := (k 0).trans rfl
  have k1 := (k 1).trans rfl
  have k2 := (k 2).trans rfl
  have k3 := (k 3).trans rfl
  have k4 := (k 4).trans rfl
  have k5 := (k 5).trans rfl
  have k6 := (k 6).trans rfl
  skip
  have B1 := Aside0.mk b1
  have HR := Aside0.mk hr
  have HC := Aside0.mk hc
  have HL := Aside0.mk hl
  clear k n1 b1 hr hc hl
  obtain ⟨V, hV⟩ : ∃ V, V = validR r n s := ⟨_, rfl⟩
  obtain ⟨M, hM⟩ : ∃ M, M = mayR r op x y t := ⟨_, rfl⟩
  have HV := Aside0.mk hV.symm
  have HM := Aside0.mk hM.symm
  have HVS := Aside0.mk (show validS r n s = V from by rw [hV]; exact valid_eq r n s)
  have HMS := Aside0.mk (show mayS r op x y t = M from by rw [hM]; exact may_eq r op x y t)
  clear hV hM
  go_enter Tryz.func7, Tryz.ntmps7
  go_wp2
  generalize w.alloc (.cells #[.int .i64 r, .int .i64 n, .slice A s.length c, .string op, .int .i64 x, .int .i64 y, .int .i64 t] 54 (0, 0)) = W2 at *
  have d0 : W2.drew.cell? ⟨w.heap.size, 0, none⟩ = some (.int .i64 r) := k0
  have d1 : W2.drew.cell? ⟨w.heap.size, 1, none⟩ = some (.int .i64 n) := k1
  have d2 : W2.drew.cell? ⟨w.heap.size, 2, none⟩ = some (.slice A s.length c) := k2
  have d3 : W2.drew.cell? ⟨w.heap.size, 3, none⟩ = some (.string op) := k3
  have d4 : W2.drew.cell? ⟨w.heap.size, 4, none⟩ = some (.int .i64 x) := k4
  have d5 : W2.drew.cell? ⟨w.heap.size, 5, none⟩ = some (.int .i64 y) := k5
  have d6 : W2.drew.cell? ⟨w.heap.size, 6, none⟩ = some (.int .i64 t) := k6
  go_region_held3 (fun X => X.cell? ⟨w.heap.size, 0, none⟩ = some (.int .i64 r) ∧ X.cell? ⟨w.heap.size, 1, none⟩ = some (.int .i64 n) ∧ X.cell? ⟨w.heap.size, 2, none⟩ = some (.slice A s.length c) ∧ X.cell? ⟨w.heap.size, 3, none⟩ = some (.string op) ∧ X.cell? ⟨w.heap.size, 4, none⟩ = some (.int .i64 x) ∧ X.cell? ⟨w.heap.size, 5, none⟩ = some (.int .i64 y) ∧ X.cell? ⟨w.heap.size, 6, none⟩ = some (.int .i64 t)) (first | go_keep | exact ⟨d0, d1, d2, d3, d4, d5, d6⟩) (first | fail)
  have n3 := heap_alloc_new W2 (.cells #[.string op, .int .i64 x, .int .i64 y] 24 (0, 0))
  have N3 := Aside0.mk (show ((W2.alloc (.cells #[.string op, .int .i64 x, .int .i64 y] 24 (0, 0))).drew).heap[W2.heap.size]? = some (.cells #[.string op, .int .i64 x, .int .i64 y] 24 (0, 0)) from n3)
  have B3 := Aside0.mk (below_drew1 (B1.out.alloc B1.out.size (.cells #[.string op, .int .i64 x, .int .i64 y] 24 (0, 0))))
  clear n3 d0 k0 d1 k1 d2 k2 d3 k3 d4 k4 d5 k5 d6 k6
  generalize (W2.alloc (.cells #[.string op, .int .i64 x, .int .i64 y] 24 (0, 0))).drew = W3 at *
  generalize W2.heap.size = gb at *
  clear B1
  have n3 := N3.out
  have k0 := Go.Lib.cell_of_heap n3 0
  have k1 := Go.Lib.cell_of_heap n3 1
  have k2 := Go.Lib.cell_of_heap n3 2
  simp only [List.getElem?_toArray, List.getElem?_cons_succ, List.getElem?_cons_zero] at k0 k1 k2
  have B3 := Aside0.mk (below_drew1 B3.out)
  have N3 := Aside0.mk (show W3.drew.heap[gb]? = some (.cells #[.string op, .int .i64 x, .int .i64 y] 24 (0, 0)) from n3)
  clear n3
  go_wp2
  go_region_held3 (fun X => X.cell? ⟨gb, 0, none⟩ = some (.string op) ∧ X.cell? ⟨gb, 1, none⟩ = some (.int .i64 x) ∧ X.cell? ⟨gb, 2, none⟩ = some (.int .i64 y)) (first | go_keep | exact ⟨k0, k1, k2⟩) (first | (go_at_call 10; refine (awake_calls W3.drew).mono ?_; rintro e w4 ⟨rfl, hb⟩; have n4 := (hb.block _ (blk_lt N3.out)).trans N3.out; have N4 := Aside0.mk n4; have k0 := Go.Lib.cell_of_heap n4 0; have k1 := Go.Lib.cell_of_heap n4 1; have k2 := Go.Lib.cell_of_heap n4 2; simp only [List.getElem?_toArray, List.getElem?_cons_succ, List.getElem?_cons_zero] at k0 k1 k2; have B4 := Aside0.mk (btrans B3.out hb); clear n4 hb) | (go_at_call 24; refine (valid_calls r n A c s w4 (HR.out.below B4.out) HC.out HL.out).mono ?_; rintro e w5 ⟨rfl, hb⟩; have n5 := (hb.block _ (blk_lt N4.out)).trans N4.out; have N5 := Aside0.mk n5; have k0 := Go.Lib.cell_of_heap n5 0; have k1 := Go.Lib.cell_of_heap n5 1; have k2 := Go.Lib.cell_of_heap n5 2; simp only [List.getElem?_toArray, List.getElem?_cons_succ, List.getElem?_cons_zero] at k0 k1 k2; have B5 := Aside0.mk (btrans B4.out hb); rw [HVS.out]; clear n5 hb) | (go_at_call 15; refine ((show Calls Tryz.prog 15 _ _ _ from ref_valid r n A c s w5 (HR.out.below B5.out) HC.out)).mono ?_; rintro e w6 ⟨rfl, qq, hw⟩; have hb : Below w5.heap.size w5 w6 := (by rw [hw]; exact pw_below_drewN (Below.refl w5.heap.size w5) qq); clear hw; have n6 := (hb.block _ (blk_lt N5.out)).trans N5.out; have N6 := Aside0.mk n6; have k0 := Go.Lib.cell_of_heap n6 0; have k1 := Go.Lib.cell_of_heap n6 1; have k2 := Go.Lib.cell_of_heap n6 2; simp only [List.getElem?_toArray, List.getElem?_cons_succ, List.getElem?_cons_zero] at k0 k1 k2; have B6 := Aside0.mk (btrans B5.out hb); rw [HV.out]; clear n6 hb) | (go_at_call 25; refine (spec_may r op x y t w6).mono ?_; rintro e w7 ⟨rfl, hb⟩; have n7 := (hb.block _ (blk_lt N6.out)).trans N6.out; have N7 := Aside0.mk n7; have k0 := Go.Lib.cell_of_heap n7 0; have k1 := Go.Lib.cell_of_heap n7 1; have k2 := Go.Lib.cell_of_heap n7 2; simp only [List.getElem?_toArray, List.getElem?_cons_succ, List.getElem?_cons_zero] at k0 k1 k2; have B7 := Aside0.mk (btrans B6.out hb); rw [HMS.out]; clear n7 hb) | (go_at_call 20; refine (ref_may r op x y t w7).mono ?_; rintro e w8 ⟨rfl, hb⟩; have n8 := (hb.block _ (blk_lt N7.out)).trans N7.out; have N8 := Aside0.mk n8; have k0 := Go.Lib.cell_of_heap n8 0; have k1 := Go.Lib.cell_of_heap n8 1; have k2 := Go.Lib.cell_of_heap n8 2; simp only [List.getElem?_toArray, List.getElem?_cons_succ, List.getElem?_cons_zero] at k0 k1 k2; have B8 := Aside0.mk (btrans B7.out hb); rw [HM.out]; clear n8 hb))
  go_wp2
  go_ret
  exact ⟨rfl, B8.out⟩
theorem valid_row (v : Value) (W : World) (h : ∃ r n A len cap zs op x y t, Iscase5 W v r n A len cap zs op x y t) :
    Calls Tryz.prog 7 #[v] W fun e w' => e = .returned (.bool true) ∧ Below W.heap.size W w' := by
  obtain ⟨r, n, A, len, cap, zs, op, x, y, t, rfl, hy, hrow⟩ := h
  obtain ⟨l0, rfl, hr0, hm0, hw0, hc0⟩ := ReadsInt.ofRowC hrow
  exact walk r n A cap l0 op x y t W (Kd.C_of_reads (d := (0 : Int)) (h1 := fun _ => rfl) hr0) hc0 (by omega)
end Go.Proofs.YtiialjmpfeopjaaGreat.LwValid
