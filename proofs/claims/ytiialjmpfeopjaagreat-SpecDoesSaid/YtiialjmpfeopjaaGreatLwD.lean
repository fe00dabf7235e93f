/- That a call that is done takes its least result: the law, walked: plain lemmas; no condition. -/
import Derived.Test.YtiialjmpfeopjaaGreatLwA
import Derived.Test.YtiialjmpfeopjaaGreatPwX
import Derived.Test.YtiialjmpfeopjaaGreatRfD
import Derived.BigQuiet
import Derived.Deep.QuietTactic
import Derived.Deep.RegionHeld3
namespace Go.Proofs.YtiialjmpfeopjaaGreat.LwDoes
open Go.RowKit Go.Sort Go.Proofs.YtiialjmpfeopjaaGreat.Sp Go.Proofs.YtiialjmpfeopjaaGreatW.PrintWords Go.Proofs.YtiialjmpfeopjaaGreatW.PrintLast Go.Proofs.YtiialjmpfeopjaaGreatW.PrintMore
set_option linter.unusedVariables false
set_option linter.unusedSimpArgs false
set_option maxHeartbeats 8000000
set_option maxRecDepth 100000
theorem own_cap {w : World} {b : Nat} {A : Option Addr} {n c : Nat} {s : List Int} (h : Own w b (.slice A n c) s) : s.length ≤ c := by
  have := Kd.R_reads' h.R
  omega
theorem walk (r n : Int) (A : Option Addr) (c : Nat) (s : List Int) (op : ByteArray) (x y t : Int) (w : World) (hr : Rd w A s) (hc : s.length ≤ c) (hl : s.length ≤ 17592186044416) :
    Calls Tryz.prog 3 #[.agg #[.int .i64 r, .int .i64 n, .slice A s.length c, .string op, .int .i64 x, .int .i64 y, .int .i64 t]] w fun e w' => e = .returned (.bool true) ∧ Below w.heap.size w w' := by
  have b1 := al1 w (.cells #[.int .i64 r, .int .i64 n, .slice A s.length c, .string op, .int .i64 x, .int .i64 y, .int .i64 t] 26 (0, 0))
  have n1 := heap_alloc_new w (.cells #[.int .i64 r, .int .i64 n, .slice A s.length c, .string op, .int .i64 x, .int .i64 y, .int .i64 t] 26 (0, 0))
  have k := fun i => Go.Lib.cell_of_heap n1 i
  have k0 := (k 0).trans rfl
  have k1 := (k 1).trans rfl
  have k2 := (k 2).trans rfl
  have k3 := (k 3).trans rfl
  have k4 := (k 4).trans rfl
  have k5 := (k 5).trans rfl
  have k6 := (k 6).trans rfl
  skip
  have B1 := Aside0.mk b1
  have HR := Aside0.mk hr
  have HC := Aside0.mk hc
  have HL := Aside0.mk hl
  clear k n1 b1 hr hc hl
  obtain ⟨p, hp⟩ : ∃ p, p = (validR r n s && mayR r op x y t) := ⟨_, rfl⟩
  have HP := Aside0.mk hp.symm
  cases p with
  | false =>
    have HE := Aside0.mk (show doS r n s op x y t = some ([], 0, 1) from by unfold doS; rw [ask_no hp.symm])
    clear hp
    go_enter Tryz.func3, Tryz.ntmps3
    go_wp2
    generalize w.alloc (.cells #[.int .i64 r, .int .i64 n, .slice A s.length c, .string op, .int .i64 x, .int .i64 y, .int .i64 t] 26 (0, 0)) = W2 at *
    have d0 : W2.drew.cell? ⟨w.heap.size, 0, none⟩ = some (.int .i64 r) := k0
    have d1 : W2.drew.cell? ⟨w.heap.size, 1, none⟩ = some (.int .i64 n) := k1
    have d2 : W2.drew.cell? ⟨w.heap.size, 2, none⟩ = some (.slice A s.length c) := k2
    have d3 : W2.drew.cell? ⟨w.heap.size, 3, none⟩ = some (.string op) := k3
    have d4 : W2.drew.cell? ⟨w.heap.size, 4, none⟩ = some (.int .i64 x) := k4
    have d5 : W2.drew.cell? ⟨w.heap.size, 5, none⟩ = some (.int .i64 y) := k5
    have d6 : W2.drew.cell? ⟨w.heap.size, 6, none⟩ = some (.int .i64 t) := k6
    go_region_held3 (fun X => X.cell? ⟨w.heap.size, 0, none⟩ = some (.int .i64 r) ∧ X.cell? ⟨w.heap.size, 1, none⟩ = some (.int .i64 n) ∧ X.cell? ⟨w.heap.size, 2, none⟩ = some (.slice A s.length c) ∧ X.cell? ⟨w.heap.size, 3, none⟩ = some (.string op) ∧ X.cell? ⟨w.heap.size, 4, none⟩ = some (.int .i64 x) ∧ X.cell? ⟨w.heap.size, 5, none⟩ = some (.int .i64 y) ∧ X.cell? ⟨w.heap.size, 6, none⟩ = some (.int .i64 t)) (first | go_keep | exact ⟨d0, d1, d2, d3, d4, d5, d6⟩) (first | fail)
    have n3 := heap_alloc_new W2 (.cells #[.string op, .int .i64 x, .int .i64 y] 24 (0, 0))
    have N3 := Aside0.mk (show ((W2.alloc (.cells #[.string op, .int .i64 x, .int .i64 y] 24 (0, 0))).drew).heap[W2.heap.size]? = some (.cells #[.string op, .int .i64 x, .int .i64 y] 24 (0, 0)) from n3)
    have B3 := Aside0.mk (below_drew1 (B1.out.alloc B1.out.size (.cells #[.string op, .int .i64 x, .int .i64 y] 24 (0, 0))))
    clear n3 d0 k0 d1 k1 d2 k2 d3 k3 d4 k4 d5 k5 d6 k6
    generalize (W2.alloc (.cells #[.string op, .int .i64 x, .int .i64 y] 24 (0, 0))).drew = W3 at *
    generalize W2.heap.size = gb at *
    clear B1
    go_wp2_with (first | (go_at_call 10; refine (awake_calls W3).mono ?_; rintro e w4 ⟨rfl, hb⟩; have n4 := (hb.block _ (blk_lt N3.out)).trans N3.out; have N4 := Aside0.mk n4; have k0 := Go.Lib.cell_of_heap n4 0; have k1 := Go.Lib.cell_of_heap n4 1; have k2 := Go.Lib.cell_of_heap n4 2; simp only [List.getElem?_toArray, List.getElem?_cons_succ, List.getElem?_cons_zero] at k0 k1 k2; have B4 := Aside0.mk (btrans B3.out hb); clear n4 hb) | (go_at_call 11; refine (do_calls A c w4 (HR.out.below B4.out) HC.out HL.out HE.out).mono ?_; rintro e w5 ⟨v, rfl, ho, hb⟩; obtain ⟨A5, c5, rfl⟩ := ho.slice; have HO5 := Aside0.mk ho; have n5 := (hb.block _ (blk_lt N4.out)).trans N4.out; have N5 := Aside0.mk n5; have k0 := Go.Lib.cell_of_heap n5 0; have k1 := Go.Lib.cell_of_heap n5 1; have k2 := Go.Lib.cell_of_heap n5 2; simp only [List.getElem?_toArray, List.getElem?_cons_succ, List.getElem?_cons_zero] at k0 k1 k2; have B5 := Aside0.mk (btrans B4.out hb); clear n5 hb ho) | (go_at_call 12; refine (asked_calls r n A c s op x y t w5 (HR.out.below B5.out) HC.out).mono ?_; rintro e w6 ⟨rfl, hb⟩; have HN5 := HO5.out.below hb; clear HO5; have HO5 := Aside0.mk HN5; clear HN5; have n6 := (hb.block _ (blk_lt N5.out)).trans N5.out; have N6 := Aside0.mk n6; have k0 := Go.Lib.cell_of_heap n6 0; have k1 := Go.Lib.cell_of_heap n6 1; have k2 := Go.Lib.cell_of_heap n6 2; simp only [List.getElem?_toArray, List.getElem?_cons_succ, List.getElem?_cons_zero] at k0 k1 k2; have B6 := Aside0.mk (btrans B5.out hb); rw [HP.out]; clear n6 hb))
    go_ret
    exact ⟨rfl, B6.out⟩
  | true =>
    obtain ⟨E, hE, hD, hS, hl1⟩ := ask_yes hp.symm
    clear hp
    cases E with
    | nil => exact absurd rfl hD.ne
    | cons e0 E' =>
    obtain ⟨o0, l0⟩ := e0
    have hn := hD.nxt o0
    have hi : idxE o0 ((o0, l0) :: E') = some 0 := idxE_some (k := 0) (by simp) (fun j h hj => absurd hj (Nat.not_lt_zero _)) (by simp)
    rw [hi] at hn
    obtain ⟨L, hL⟩ : ∃ L, L = ((o0, l0) :: E').map (·.1) := ⟨_, rfl⟩
    have HRES := Aside0.mk (fun W (h : Rd W A s) => (show ResAt r n A c s op x y t W L from by rw [hL]; exact hD.res A c W h HC.out))
    unfold ResAt at HRES
    have HNX := Aside0.mk (fun W (h : Rd W A s) => (show NextAt r n A c s op x y t o0 W l0 true from hn A c W h HC.out))
    unfold NextAt at HNX
    have HLP := Aside0.mk (show 0 < L.length from by rw [hL]; simp)
    have HL0 := Aside0.mk (show L.getD 0 0 = o0 from by rw [hL]; rfl)
    have hLl : l0.length ≤ 100000 := hS.2 _ List.mem_cons_self
    cases hv : validR r n l0 with
    | false =>
      have HV := Aside0.mk hv
      have HE := Aside0.mk (show doS r n s op x y t = some ([], 0, 1) from by unfold doS; rw [hE]; simp only; rw [if_pos (by omega), valid_eq, hv]; rfl)
      clear hn hE hS hi hD hL hLl hv
      go_enter Tryz.func3, Tryz.ntmps3
      go_wp2
      generalize w.alloc (.cells #[.int .i64 r, .int .i64 n, .slice A s.length c, .string op, .int .i64 x, .int .i64 y, .int .i64 t] 26 (0, 0)) = W2 at *
      have d0 : W2.drew.cell? ⟨w.heap.size, 0, none⟩ = some (.int .i64 r) := k0
      have d1 : W2.drew.cell? ⟨w.heap.size, 1, none⟩ = some (.int .i64 n) := k1
      have d2 : W2.drew.cell? ⟨w.heap.size, 2, none⟩ = some (.slice A s.length c) := k2
      have d3 : W2.drew.cell? ⟨w.heap.size, 3, none⟩ = some (.string op) := k3
      have d4 : W2.drew.cell? ⟨w.heap.size, 4, none⟩ = some (.int .i64 x) := k4
      have d5 : W2.drew.cell? ⟨w.heap.size, 5, none⟩ = some (.int .i64 y) := k5
      have d6 : W2.drew.cell? ⟨w.heap.size, 6, none⟩ = some (.int .i64 t) := k6
      go_region_held3 (fun X => X.cell? ⟨w.heap.size, 0, none⟩ = some (.int .i64 r) ∧ X.cell? ⟨w.heap.size, 1, none⟩ = some (.int .i64 n) ∧ X.cell? ⟨w.heap.size, 2, none⟩ = some (.slice A s.length c) ∧ X.cell? ⟨w.heap.size, 3, none⟩ = some (.string op) ∧ X.cell? ⟨w.heap.size, 4, none⟩ = some (.int .i64 x) ∧ X.cell? ⟨w.heap.size, 5, none⟩ = some (.int .i64 y) ∧ X.cell? ⟨w.heap.size, 6, none⟩ = some (.int .i64 t)) (first | go_keep | exact ⟨d0, d1, d2, d3, d4, d5, d6⟩) (first | fail)
      have n3 := heap_alloc_new W2 (.cells #[.string op, .int .i64 x, .int .i64 y] 24 (0, 0))
      have N3 := Aside0.mk (show ((W2.alloc (.cells #[.string op, .int .i64 x, .int .i64 y] 24 (0, 0))).drew).heap[W2.heap.size]? = some (.cells #[.string op, .int .i64 x, .int .i64 y] 24 (0, 0)) from n3)
      have B3 := Aside0.mk (below_drew1 (B1.out.alloc B1.out.size (.cells #[.string op, .int .i64 x, .int .i64 y] 24 (0, 0))))
      clear n3 d0 k0 d1 k1 d2 k2 d3 k3 d4 k4 d5 k5 d6 k6
      generalize (W2.alloc (.cells #[.string op, .int .i64 x, .int .i64 y] 24 (0, 0))).drew = W3 at *
      generalize W2.heap.size = gb at *
      clear B1
      go_wp2_with (first | (go_at_call 10; refine (awake_calls W3).mono ?_; rintro e w4 ⟨rfl, hb⟩; have n4 := (hb.block _ (blk_lt N3.out)).trans N3.out; have N4 := Aside0.mk n4; have k0 := Go.Lib.cell_of_heap n4 0; have k1 := Go.Lib.cell_of_heap n4 1; have k2 := Go.Lib.cell_of_heap n4 2; simp only [List.getElem?_toArray, List.getElem?_cons_succ, List.getElem?_cons_zero] at k0 k1 k2; have B4 := Aside0.mk (btrans B3.out hb); clear n4 hb) | (go_at_call 11; refine (do_calls A c w4 (HR.out.below B4.out) HC.out HL.out HE.out).mono ?_; rintro e w5 ⟨v, rfl, ho, hb⟩; obtain ⟨A5, c5, rfl⟩ := ho.slice; have HO5 := Aside0.mk ho; have n5 := (hb.block _ (blk_lt N4.out)).trans N4.out; have N5 := Aside0.mk n5; have k0 := Go.Lib.cell_of_heap n5 0; have k1 := Go.Lib.cell_of_heap n5 1; have k2 := Go.Lib.cell_of_heap n5 2; simp only [List.getElem?_toArray, List.getElem?_cons_succ, List.getElem?_cons_zero] at k0 k1 k2; have B5 := Aside0.mk (btrans B4.out hb); clear n5 hb ho) | (go_at_call 12; refine (asked_calls r n A c s op x y t w5 (HR.out.below B5.out) HC.out).mono ?_; rintro e w6 ⟨rfl, hb⟩; have HN5 := HO5.out.below hb; clear HO5; have HO5 := Aside0.mk HN5; clear HN5; have n6 := (hb.block _ (blk_lt N5.out)).trans N5.out; have N6 := Aside0.mk n6; have k0 := Go.Lib.cell_of_heap n6 0; have k1 := Go.Lib.cell_of_heap n6 1; have k2 := Go.Lib.cell_of_heap n6 2; simp only [List.getElem?_toArray, List.getElem?_cons_succ, List.getElem?_cons_zero] at k0 k1 k2; have B6 := Aside0.mk (btrans B5.out hb); rw [HP.out]; clear n6 hb) | (go_at_call 13; refine (HRES.out w6 (HR.out.below B6.out)).mono ?_; rintro e w7 ⟨v, rfl, ho, hb⟩; obtain ⟨A7, c7, rfl⟩ := ho.slice; have HO7 := Aside0.mk ho; have HN5 := HO5.out.below hb; clear HO5; have HO5 := Aside0.mk HN5; clear HN5; have n7 := (hb.block _ (blk_lt N6.out)).trans N6.out; have N7 := Aside0.mk n7; have k0 := Go.Lib.cell_of_heap n7 0; have k1 := Go.Lib.cell_of_heap n7 1; have k2 := Go.Lib.cell_of_heap n7 2; simp only [List.getElem?_toArray, List.getElem?_cons_succ, List.getElem?_cons_zero] at k0 k1 k2; have B7 := Aside0.mk (btrans B6.out hb); obtain ⟨bq, cq, eq, hlt, hcl⟩ := HO7.out.cellAt 0 HLP.out; injection eq with e1 e2 e3; subst e1 e3; clear e2; rw [HL0.out] at hcl; have hlp := HLP.out; clear n7 hb ho) | (go_at_call 14; refine (HNX.out w7 (HR.out.below B7.out)).mono ?_; rintro e w8 ⟨v, rfl, ho, hb⟩; obtain ⟨A8, c8, rfl⟩ := ho.slice; have HO8 := Aside0.mk ho; have HN5 := HO5.out.below hb; clear HO5; have HO5 := Aside0.mk HN5; clear HN5; have HN7 := HO7.out.below hb; clear HO7; have HO7 := Aside0.mk HN7; clear HN7; have n8 := (hb.block _ (blk_lt N7.out)).trans N7.out; have N8 := Aside0.mk n8; have k0 := Go.Lib.cell_of_heap n8 0; have k1 := Go.Lib.cell_of_heap n8 1; have k2 := Go.Lib.cell_of_heap n8 2; simp only [List.getElem?_toArray, List.getElem?_cons_succ, List.getElem?_cons_zero] at k0 k1 k2; have B8 := Aside0.mk (btrans B7.out hb); clear n8 hb ho) | (go_at_call 15; refine ((show Calls Tryz.prog 15 _ _ _ from ref_valid r n A8 c8 l0 w8 HO8.out.rd (own_cap HO8.out))).mono ?_; rintro e w9 ⟨rfl, qq, hw⟩; have hb : Below w8.heap.size w8 w9 := (by rw [hw]; exact pw_below_drewN (Below.refl w8.heap.size w8) qq); clear hw; have HN5 := HO5.out.below hb; clear HO5; have HO5 := Aside0.mk HN5; clear HN5; have HN7 := HO7.out.below hb; clear HO7; have HO7 := Aside0.mk HN7; clear HN7; have HN8 := HO8.out.below hb; clear HO8; have HO8 := Aside0.mk HN8; clear HN8; have n9 := (hb.block _ (blk_lt N8.out)).trans N8.out; have N9 := Aside0.mk n9; have k0 := Go.Lib.cell_of_heap n9 0; have k1 := Go.Lib.cell_of_heap n9 1; have k2 := Go.Lib.cell_of_heap n9 2; simp only [List.getElem?_toArray, List.getElem?_cons_succ, List.getElem?_cons_zero] at k0 k1 k2; have B9 := Aside0.mk (btrans B8.out hb); rw [HV.out]; clear n9 hb))
      go_ret
      exact ⟨rfl, B9.out⟩
    | true =>
      have HV := Aside0.mk hv
      have HE := Aside0.mk (show doS r n s op x y t = some (l0, o0, 0) from by unfold doS; rw [hE]; simp only; rw [if_pos (by omega), valid_eq, hv]; rfl)
      clear hn hE hS hi hD hL hLl hv
      go_enter Tryz.func3, Tryz.ntmps3
      go_wp2
      generalize w.alloc (.cells #[.int .i64 r, .int .i64 n, .slice A s.length c, .string op, .int .i64 x, .int .i64 y, .int .i64 t] 26 (0, 0)) = W2 at *
      have d0 : W2.drew.cell? ⟨w.heap.size, 0, none⟩ = some (.int .i64 r) := k0
      have d1 : W2.drew.cell? ⟨w.heap.size, 1, none⟩ = some (.int .i64 n) := k1
      have d2 : W2.drew.cell? ⟨w.heap.size, 2, none⟩ = some (.slice A s.length c) := k2
      have d3 : W2.drew.cell? ⟨w.heap.size, 3, none⟩ = some (.string op) := k3
      have d4 : W2.drew.cell? ⟨w.heap.size, 4, none⟩ = some (.int .i64 x) := k4
      have d5 : W2.drew.cell? ⟨w.heap.size, 5, none⟩ = some (.int .i64 y) := k5
      have d6 : W2.drew.cell? ⟨w.heap.size, 6, none⟩ = some (.int .i64 t) := k6
      go_region_held3 (fun X => X.cell? ⟨w.heap.size, 0, none⟩ = some (.int .i64 r) ∧ X.cell? ⟨w.heap.size, 1, none⟩ = some (.int .i64 n) ∧ X.cell? ⟨w.heap.size, 2, none⟩ = some (.slice A s.length c) ∧ X.cell? ⟨w.heap.size, 3, none⟩ = some (.string op) ∧ X.cell? ⟨w.heap.size, 4, none⟩ = some (.int .i64 x) ∧ X.cell? ⟨w.heap.size, 5, none⟩ = some (.int .i64 y) ∧ X.cell? ⟨w.heap.size, 6, none⟩ = some (.int .i64 t)) (first | go_keep | exact ⟨d0, d1, d2, d3, d4, d5, d6⟩) (first | fail)
      have n3 := heap_alloc_new W2 (.cells #[.string op, .int .i64 x, .int .i64 y] 24 (0, 0))
      have N3 := Aside0.mk (show ((W2.alloc (.cells #[.string op, .int .i64 x, .int .i64 y] 24 (0, 0))).drew).heap[W2.heap.size]? = some (.cells #[.string op, .int .i64 x, .int .i64 y] 24 (0, 0)) from n3)
      have B3 := Aside0.mk (below_drew1 (B1.out.alloc B1.out.size (.cells #[.string op, .int .i64 x, .int .i64 y] 24 (0, 0))))
      clear n3 d0 k0 d1 k1 d2 k2 d3 k3 d4 k4 d5 k5 d6 k6
      generalize (W2.alloc (.cells #[.string op, .int .i64 x, .int .i64 y] 24 (0, 0))).drew = W3 at *
      generalize W2.heap.size = gb at *
      clear B1
      go_wp2_with (first | (go_at_call 10; refine (awake_calls W3).mono ?_; rintro e w4 ⟨rfl, hb⟩; have n4 := (hb.block _ (blk_lt N3.out)).trans N3.out; have N4 := Aside0.mk n4; have k0 := Go.Lib.cell_of_heap n4 0; have k1 := Go.Lib.cell_of_heap n4 1; have k2 := Go.Lib.cell_of_heap n4 2; simp only [List.getElem?_toArray, List.getElem?_cons_succ, List.getElem?_cons_zero] at k0 k1 k2; have B4 := Aside0.mk (btrans B3.out hb); clear n4 hb) | (go_at_call 11; refine (do_calls A c w4 (HR.out.below B4.out) HC.out HL.out HE.out).mono ?_; rintro e w5 ⟨v, rfl, ho, hb⟩; obtain ⟨A5, c5, rfl⟩ := ho.slice; have HO5 := Aside0.mk ho; have n5 := (hb.block _ (blk_lt N4.out)).trans N4.out; have N5 := Aside0.mk n5; have k0 := Go.Lib.cell_of_heap n5 0; have k1 := Go.Lib.cell_of_heap n5 1; have k2 := Go.Lib.cell_of_heap n5 2; simp only [List.getElem?_toArray, List.getElem?_cons_succ, List.getElem?_cons_zero] at k0 k1 k2; have B5 := Aside0.mk (btrans B4.out hb); clear n5 hb ho) | (go_at_call 12; refine (asked_calls r n A c s op x y t w5 (HR.out.below B5.out) HC.out).mono ?_; rintro e w6 ⟨rfl, hb⟩; have HN5 := HO5.out.below hb; clear HO5; have HO5 := Aside0.mk HN5; clear HN5; have n6 := (hb.block _ (blk_lt N5.out)).trans N5.out; have N6 := Aside0.mk n6; have k0 := Go.Lib.cell_of_heap n6 0; have k1 := Go.Lib.cell_of_heap n6 1; have k2 := Go.Lib.cell_of_heap n6 2; simp only [List.getElem?_toArray, List.getElem?_cons_succ, List.getElem?_cons_zero] at k0 k1 k2; have B6 := Aside0.mk (btrans B5.out hb); rw [HP.out]; clear n6 hb) | (go_at_call 13; refine (HRES.out w6 (HR.out.below B6.out)).mono ?_; rintro e w7 ⟨v, rfl, ho, hb⟩; obtain ⟨A7, c7, rfl⟩ := ho.slice; have HO7 := Aside0.mk ho; have HN5 := HO5.out.below hb; clear HO5; have HO5 := Aside0.mk HN5; clear HN5; have n7 := (hb.block _ (blk_lt N6.out)).trans N6.out; have N7 := Aside0.mk n7; have k0 := Go.Lib.cell_of_heap n7 0; have k1 := Go.Lib.cell_of_heap n7 1; have k2 := Go.Lib.cell_of_heap n7 2; simp only [List.getElem?_toArray, List.getElem?_cons_succ, List.getElem?_cons_zero] at k0 k1 k2; have B7 := Aside0.mk (btrans B6.out hb); obtain ⟨bq, cq, eq, hlt, hcl⟩ := HO7.out.cellAt 0 HLP.out; injection eq with e1 e2 e3; subst e1 e3; clear e2; rw [HL0.out] at hcl; have hlp := HLP.out; clear n7 hb ho) | (go_at_call 14; refine (HNX.out w7 (HR.out.below B7.out)).mono ?_; rintro e w8 ⟨v, rfl, ho, hb⟩; obtain ⟨A8, c8, rfl⟩ := ho.slice; have HO8 := Aside0.mk ho; have HN5 := HO5.out.below hb; clear HO5; have HO5 := Aside0.mk HN5; clear HN5; have HN7 := HO7.out.below hb; clear HO7; have HO7 := Aside0.mk HN7; clear HN7; have n8 := (hb.block _ (blk_lt N7.out)).trans N7.out; have N8 := Aside0.mk n8; have k0 := Go.Lib.cell_of_heap n8 0; have k1 := Go.Lib.cell_of_heap n8 1; have k2 := Go.Lib.cell_of_heap n8 2; simp only [List.getElem?_toArray, List.getElem?_cons_succ, List.getElem?_cons_zero] at k0 k1 k2; have B8 := Aside0.mk (btrans B7.out hb); clear n8 hb ho) | (go_at_call 15; refine ((show Calls Tryz.prog 15 _ _ _ from ref_valid r n A8 c8 l0 w8 HO8.out.rd (own_cap HO8.out))).mono ?_; rintro e w9 ⟨rfl, qq, hw⟩; have hb : Below w8.heap.size w8 w9 := (by rw [hw]; exact pw_below_drewN (Below.refl w8.heap.size w8) qq); clear hw; have HN5 := HO5.out.below hb; clear HO5; have HO5 := Aside0.mk HN5; clear HN5; have HN7 := HO7.out.below hb; clear HO7; have HO7 := Aside0.mk HN7; clear HN7; have HN8 := HO8.out.below hb; clear HO8; have HO8 := Aside0.mk HN8; clear HN8; have n9 := (hb.block _ (blk_lt N8.out)).trans N8.out; have N9 := Aside0.mk n9; have k0 := Go.Lib.cell_of_heap n9 0; have k1 := Go.Lib.cell_of_heap n9 1; have k2 := Go.Lib.cell_of_heap n9 2; simp only [List.getElem?_toArray, List.getElem?_cons_succ, List.getElem?_cons_zero] at k0 k1 k2; have B9 := Aside0.mk (btrans B8.out hb); rw [HV.out]; clear n9 hb) | (go_at_call 16; refine (same_at l0 l0 _ _ _ _ w9 HO5.out.rd HO8.out.rd).mono ?_; rintro e wz ⟨rfl, qz, hw⟩; rw [decide_eq_true (rfl : l0 = l0)]; have BZ := Aside0.mk (show Below w.heap.size w wz from by rw [hw]; exact pw_below_drewN B9.out qz); clear hw))
      go_ret
      exact ⟨rfl, BZ.out⟩
theorem does_row (v : Value) (W : World) (h : ∃ r n A len cap zs op x y t, Iscase5 W v r n A len cap zs op x y t) :
    Calls Tryz.prog 3 #[v] W fun e w' => e = .returned (.bool true) ∧ Below W.heap.size W w' := by
  obtain ⟨r, n, A, len, cap, zs, op, x, y, t, rfl, hy, hrow⟩ := h
  obtain ⟨l0, rfl, hr0, hm0, hw0, hc0⟩ := ReadsInt.ofRowC hrow
  exact walk r n A cap l0 op x y t W (Kd.C_of_reads (d := (0 : Int)) (h1 := fun _ => rfl) hr0) hc0 (by omega)
end Go.Proofs.YtiialjmpfeopjaaGreat.LwDoes
