/- Whether a call can have a result, and the state behind it: the law, walked: plain lemmas; no condition. -/
import Derived.Test.YtiialjmpfeopjaaGreatLwA
import Derived.Test.YtiialjmpfeopjaaGreatPwX
import Derived.Test.YtiialjmpfeopjaaGreatRfD
import Derived.BigQuiet
import Derived.Deep.QuietTactic
import Derived.Deep.RegionHeld3
namespace Go.Proofs.YtiialjmpfeopjaaGreat.LwNexts
open Go.RowKit Go.Sort Go.Proofs.YtiialjmpfeopjaaGreat.Sp Go.Proofs.YtiialjmpfeopjaaGreatW.PrintWords Go.Proofs.YtiialjmpfeopjaaGreatW.PrintLast Go.Proofs.YtiialjmpfeopjaaGreatW.PrintMore
set_option linter.unusedVariables false
set_option linter.unusedSimpArgs false
set_option maxHeartbeats 8000000
set_option maxRecDepth 100000
theorem own_cap {w : World} {b : Nat} {A : Option Addr} {n c : Nat} {s : List Int} (h : Own w b (.slice A n c) s) : s.length ≤ c := by
  have := Kd.R_reads' h.R
  omega
theorem walk (r n : Int) (A : Option Addr) (c : Nat) (s : List Int) (op : ByteArray) (x y t q : Int) (w : World) (hr : Rd w A s) (hc : s.length ≤ c) (hl : s.length ≤ 17592186044416) :
    Calls Tryz.prog 8 #[.agg #[.int .i64 r, .int .i64 n, .slice A s.length c, .string op, .int .i64 x, .int .i64 y, .int .i64 t, .int .i64 q]] w fun e w' => e = .returned (.bool true) ∧ Below w.heap.size w w' := by
  have b1 := al1 w (.cells #[.int .i64 r, .int .i64 n, .slice A s.length c, .string op, .int .i64 x, .int .i64 y, .int .i64 t, .int .i64 q] 57 (0, 0))
  have n1 := heap_alloc_new w (.cells #[.int .i64 r, .int .i64 n, .slice A s.length c, .string op, .int .i64 x, .int .i64 y, .int .i64 t, .int .i64 q] 57 (0, 0))
  have k := fun i => Go.Lib.cell_of_heap n1 i
  have k0 := (k 0).trans rfl
  have k1 := (k 1).trans rfl
  have k2 := (k 2).trans rfl
  have k3 := (k 3).trans rfl
  have k4 := (k 4).trans rfl
  have k5 := (k 5).trans rfl
  have k6 := (k 6).trans rfl
  have k7 := (k 7).trans rfl
  have B1 := Aside0.mk b1
  have HR := Aside0.mk hr
  have HC := Aside0.mk hc
  have HL := Aside0.mk hl
  clear k n1 b1 hr hc hl
  obtain ⟨p, hp⟩ : ∃ p, p = (validR r n s && mayR r op x y t) := ⟨_, rfl⟩
  have HP := Aside0.mk hp.symm
  cases p with
  | false =>
    have HE := Aside0.mk (show nextS r n s op x y t q = some ([], false, 1) from by unfold nextS; rw [ask_no hp.symm])
    clear hp
    go_enter Tryz.func8, Tryz.ntmps8
    go_wp2
    generalize w.alloc (.cells #[.int .i64 r, .int .i64 n, .slice A s.length c, .string op, .int .i64 x, .int .i64 y, .int .i64 t, .int .i64 q] 57 (0, 0)) = W2 at *
    have d0 : W2.drew.cell? ⟨w.heap.size, 0, none⟩ = some (.int .i64 r) := k0
    have d1 : W2.drew.cell? ⟨w.heap.size, 1, none⟩ = some (.int .i64 n) := k1
    have d2 : W2.drew.cell? ⟨w.heap.size, 2, none⟩ = some (.slice A s.length c) := k2
    have d3 : W2.drew.cell? ⟨w.heap.size, 3, none⟩ = some (.string op) := k3
    have d4 : W2.drew.cell? ⟨w.heap.size, 4, none⟩ = some (.int .i64 x) := k4
    have d5 : W2.drew.cell? ⟨w.heap.size, 5, none⟩ = some (.int .i64 y) := k5
    have d6 : W2.drew.cell? ⟨w.heap.size, 6, none⟩ = some (.int .i64 t) := k6
    have d7 : W2.drew.cell? ⟨w.heap.size, 7, none⟩ = some (.int .i64 q) := k7
    go_region_held3 (fun X => X.cell? ⟨w.heap.size, 0, none⟩ = some (.int .i64 r) ∧ X.cell? ⟨w.heap.size, 1, none⟩ = some (.int .i64 n) ∧ X.cell? ⟨w.heap.size, 2, none⟩ = some (.slice A s.length c) ∧ X.cell? ⟨w.heap.size, 3, none⟩ = some (.string op) ∧ X.cell? ⟨w.heap.size, 4, none⟩ = some (.int .i64 x) ∧ X.cell? ⟨w.heap.size, 5, none⟩ = some (.int .i64 y) ∧ X.cell? ⟨w.heap.size, 6, none⟩ = some (.int .i64 t) ∧ X.cell? ⟨w.heap.size, 7, none⟩ = some (.int .i64 q)) (first | go_keep | exact ⟨d0, d1, d2, d3, d4, d5, d6, d7⟩) (first | fail)
    have n3 := heap_alloc_new W2 (.cells #[.string op, .int .i64 x, .int .i64 y] 24 (0, 0))
    have N3 := Aside0.mk (show ((W2.alloc (.cells #[.string op, .int .i64 x, .int .i64 y] 24 (0, 0))).drew).heap[W2.heap.size]? = some (.cells #[.string op, .int .i64 x, .int .i64 y] 24 (0, 0)) from n3)
    have B3 := Aside0.mk (below_drew1 (B1.out.alloc B1.out.size (.cells #[.string op, .int .i64 x, .int .i64 y] 24 (0, 0))))
    clear n3 d0 k0 d1 k1 d2 k2 d3 k3 d4 k4 d5 k5 d6 k6 d7 k7
    generalize (W2.alloc (.cells #[.string op, .int .i64 x, .int .i64 y] 24 (0, 0))).drew = W3 at *
    generalize W2.heap.size = gb at *
    clear B1
    go_wp2_with (first | (go_at_call 10; refine (awake_calls W3).mono ?_; rintro e w4 ⟨rfl, hb⟩; have n4 := (hb.block _ (blk_lt N3.out)).trans N3.out; have N4 := Aside0.mk n4; have k0 := Go.Lib.cell_of_heap n4 0; have k1 := Go.Lib.cell_of_heap n4 1; have k2 := Go.Lib.cell_of_heap n4 2; simp only [List.getElem?_toArray, List.getElem?_cons_succ, List.getElem?_cons_zero] at k0 k1 k2; have B4 := Aside0.mk (btrans B3.out hb); clear n4 hb) | (go_at_call 26; refine (next_calls A c w4 (HR.out.below B4.out) HC.out HL.out HE.out).mono ?_; rintro e w5 ⟨v, rfl, ho, hb⟩; obtain ⟨A5, c5, rfl⟩ := ho.slice; have HO5 := Aside0.mk ho; have n5 := (hb.block _ (blk_lt N4.out)).trans N4.out; have N5 := Aside0.mk n5; have k0 := Go.Lib.cell_of_heap n5 0; have k1 := Go.Lib.cell_of_heap n5 1; have k2 := Go.Lib.cell_of_heap n5 2; simp only [List.getElem?_toArray, List.getElem?_cons_succ, List.getElem?_cons_zero] at k0 k1 k2; have B5 := Aside0.mk (btrans B4.out hb); clear n5 hb ho) | (go_at_call 12; refine (asked_calls r n A c s op x y t w5 (HR.out.below B5.out) HC.out).mono ?_; rintro e w6 ⟨rfl, hb⟩; have HN5 := HO5.out.below hb; clear HO5; have HO5 := Aside0.mk HN5; clear HN5; have n6 := (hb.block _ (blk_lt N5.out)).trans N5.out; have N6 := Aside0.mk n6; have k0 := Go.Lib.cell_of_heap n6 0; have k1 := Go.Lib.cell_of_heap n6 1; have k2 := Go.Lib.cell_of_heap n6 2; simp only [List.getElem?_toArray, List.getElem?_cons_succ, List.getElem?_cons_zero] at k0 k1 k2; have B6 := Aside0.mk (btrans B5.out hb); rw [HP.out]; clear n6 hb))
    go_ret
    exact ⟨rfl, B6.out⟩
  | true =>
    obtain ⟨E, hE, hD, hS, hl1⟩ := ask_yes hp.symm
    clear hp
    have hn := hD.nxt q
    clear hD
    cases hi : idxE q E with
    | none =>
      rw [hi] at hn
      have HE := Aside0.mk (show nextS r n s op x y t q = some ([], false, 0) from by unfold nextS; rw [hE]; simp only; rw [if_pos hS.1, hi])
      have HNX := Aside0.mk (fun W (h : Rd W A s) => (show NextAt r n A c s op x y t q W [] false from hn A c W h HC.out))
      unfold NextAt at HNX
      clear hn hE hS hi
      go_enter Tryz.func8, Tryz.ntmps8
      go_wp2
      generalize w.alloc (.cells #[.int .i64 r, .int .i64 n, .slice A s.length c, .string op, .int .i64 x, .int .i64 y, .int .i64 t, .int .i64 q] 57 (0, 0)) = W2 at *
      have d0 : W2.drew.cell? ⟨w.heap.size, 0, none⟩ = some (.int .i64 r) := k0
      have d1 : W2.drew.cell? ⟨w.heap.size, 1, none⟩ = some (.int .i64 n) := k1
      have d2 : W2.drew.cell? ⟨w.heap.size, 2, none⟩ = some (.slice A s.length c) := k2
      have d3 : W2.drew.cell? ⟨w.heap.size, 3, none⟩ = some (.string op) := k3
      have d4 : W2.drew.cell? ⟨w.heap.size, 4, none⟩ = some (.int .i64 x) := k4
      have d5 : W2.drew.cell? ⟨w.heap.size, 5, none⟩ = some (.int .i64 y) := k5
      have d6 : W2.drew.cell? ⟨w.heap.size, 6, none⟩ = some (.int .i64 t) := k6
      have d7 : W2.drew.cell? ⟨w.heap.size, 7, none⟩ = some (.int .i64 q) := k7
      go_region_held3 (fun X => X.cell? ⟨w.heap.size, 0, none⟩ = some (.int .i64 r) ∧ X.cell? ⟨w.heap.size, 1, none⟩ = some (.int .i64 n) ∧ X.cell? ⟨w.heap.size, 2, none⟩ = some (.slice A s.length c) ∧ X.cell? ⟨w.heap.size, 3, none⟩ = some (.string op) ∧ X.cell? ⟨w.heap.size, 4, none⟩ = some (.int .i64 x) ∧ X.cell? ⟨w.heap.size, 5, none⟩ = some (.int .i64 y) ∧ X.cell? ⟨w.heap.size, 6, none⟩ = some (.int .i64 t) ∧ X.cell? ⟨w.heap.size, 7, none⟩ = some (.int .i64 q)) (first | go_keep | exact ⟨d0, d1, d2, d3, d4, d5, d6, d7⟩) (first | fail)
      have n3 := heap_alloc_new W2 (.cells #[.string op, .int .i64 x, .int .i64 y] 24 (0, 0))
      have N3 := Aside0.mk (show ((W2.alloc (.cells #[.string op, .int .i64 x, .int .i64 y] 24 (0, 0))).drew).heap[W2.heap.size]? = some (.cells #[.string op, .int .i64 x, .int .i64 y] 24 (0, 0)) from n3)
      have B3 := Aside0.mk (below_drew1 (B1.out.alloc B1.out.size (.cells #[.string op, .int .i64 x, .int .i64 y] 24 (0, 0))))
      clear n3 d0 k0 d1 k1 d2 k2 d3 k3 d4 k4 d5 k5 d6 k6 d7 k7
      generalize (W2.alloc (.cells #[.string op, .int .i64 x, .int .i64 y] 24 (0, 0))).drew = W3 at *
      generalize W2.heap.size = gb at *
      clear B1
      go_wp2_with (first | (go_at_call 10; refine (awake_calls W3).mono ?_; rintro e w4 ⟨rfl, hb⟩; have n4 := (hb.block _ (blk_lt N3.out)).trans N3.out; have N4 := Aside0.mk n4; have k0 := Go.Lib.cell_of_heap n4 0; have k1 := Go.Lib.cell_of_heap n4 1; have k2 := Go.Lib.cell_of_heap n4 2; simp only [List.getElem?_toArray, List.getElem?_cons_succ, List.getElem?_cons_zero] at k0 k1 k2; have B4 := Aside0.mk (btrans B3.out hb); clear n4 hb) | (go_at_call 26; refine (next_calls A c w4 (HR.out.below B4.out) HC.out HL.out HE.out).mono ?_; rintro e w5 ⟨v, rfl, ho, hb⟩; obtain ⟨A5, c5, rfl⟩ := ho.slice; have HO5 := Aside0.mk ho; have n5 := (hb.block _ (blk_lt N4.out)).trans N4.out; have N5 := Aside0.mk n5; have k0 := Go.Lib.cell_of_heap n5 0; have k1 := Go.Lib.cell_of_heap n5 1; have k2 := Go.Lib.cell_of_heap n5 2; simp only [List.getElem?_toArray, List.getElem?_cons_succ, List.getElem?_cons_zero] at k0 k1 k2; have B5 := Aside0.mk (btrans B4.out hb); clear n5 hb ho) | (go_at_call 12; refine (asked_calls r n A c s op x y t w5 (HR.out.below B5.out) HC.out).mono ?_; rintro e w6 ⟨rfl, hb⟩; have HN5 := HO5.out.below hb; clear HO5; have HO5 := Aside0.mk HN5; clear HN5; have n6 := (hb.block _ (blk_lt N5.out)).trans N5.out; have N6 := Aside0.mk n6; have k0 := Go.Lib.cell_of_heap n6 0; have k1 := Go.Lib.cell_of_heap n6 1; have k2 := Go.Lib.cell_of_heap n6 2; simp only [List.getElem?_toArray, List.getElem?_cons_succ, List.getElem?_cons_zero] at k0 k1 k2; have B6 := Aside0.mk (btrans B5.out hb); rw [HP.out]; clear n6 hb) | (go_at_call 14; refine (HNX.out w6 (HR.out.below B6.out)).mono ?_; rintro e w7 ⟨v, rfl, ho, hb⟩; obtain ⟨A7, c7, rfl⟩ := ho.slice; have HO7 := Aside0.mk ho; have HN5 := HO5.out.below hb; clear HO5; have HO5 := Aside0.mk HN5; clear HN5; have n7 := (hb.block _ (blk_lt N6.out)).trans N6.out; have N7 := Aside0.mk n7; have k0 := Go.Lib.cell_of_heap n7 0; have k1 := Go.Lib.cell_of_heap n7 1; have k2 := Go.Lib.cell_of_heap n7 2; simp only [List.getElem?_toArray, List.getElem?_cons_succ, List.getElem?_cons_zero] at k0 k1 k2; have B7 := Aside0.mk (btrans B6.out hb); clear n7 hb ho))
      go_ret
      exact ⟨rfl, B7.out⟩
    | some k =>
      rw [hi] at hn
      have hk := idxE_lt hi
      obtain ⟨L, hL⟩ : ∃ L, L = (E.getD k (0, [])).2 := ⟨_, rfl⟩
      have hLl : L.length ≤ 100000 := by
        rw [hL, List.getD_eq_getElem?_getD, List.getElem?_eq_getElem hk]
        exact hS.2 _ (List.getElem_mem hk)
      have HNX := Aside0.mk (fun W (h : Rd W A s) => (show NextAt r n A c s op x y t q W L true from by rw [hL]; exact hn A c W h HC.out))
      unfold NextAt at HNX
      cases hv : validR r n L with
      | false =>
        have HV := Aside0.mk hv
        have HE := Aside0.mk (show nextS r n s op x y t q = some ([], false, 1) from by unfold nextS; rw [hE]; simp only; rw [if_pos hS.1, hi]; simp only; rw [← hL, if_pos (by omega), valid_eq, hv]; rfl)
        clear hn hE hS hi hk hL hLl hv
        go_enter Tryz.func8, Tryz.ntmps8
        go_wp2
        generalize w.alloc (.cells #[.int .i64 r, .int .i64 n, .slice A s.length c, .string op, .int .i64 x, .int .i64 y, .int .i64 t, .int .i64 q] 57 (0, 0)) = W2 at *
        have d0 : W2.drew.cell? ⟨w.heap.size, 0, none⟩ = some (.int .i64 r) := k0
        have d1 : W2.drew.cell? ⟨w.heap.size, 1, none⟩ = some (.int .i64 n) := k1
        have d2 : W2.drew.cell? ⟨w.heap.size, 2, none⟩ = some (.slice A s.length c) := k2
        have d3 : W2.drew.cell? ⟨w.heap.size, 3, none⟩ = some (.string op) := k3
        have d4 : W2.drew.cell? ⟨w.heap.size, 4, none⟩ = some (.int .i64 x) := k4
        have d5 : W2.drew.cell? ⟨w.heap.size, 5, none⟩ = some (.int .i64 y) := k5
        have d6 : W2.drew.cell? ⟨w.heap.size, 6, none⟩ = some (.int .i64 t) := k6
        have d7 : W2.drew.cell? ⟨w.heap.size, 7, none⟩ = some (.int .i64 q) := k7
        go_region_held3 (fun X => X.cell? ⟨w.heap.size, 0, none⟩ = some (.int .i64 r) ∧ X.cell? ⟨w.heap.size, 1, none⟩ = some (.int .i64 n) ∧ X.cell? ⟨w.heap.size, 2, none⟩ = some (.slice A s.length c) ∧ X.cell? ⟨w.heap.size, 3, none⟩ = some (.string op) ∧ X.cell? ⟨w.heap.size, 4, none⟩ = some (.int .i64 x) ∧ X.cell? ⟨w.heap.size, 5, none⟩ = some (.int .i64 y) ∧ X.cell? ⟨w.heap.size, 6, none⟩ = some (.int .i64 t) ∧ X.cell? ⟨w.heap.size, 7, none⟩ = some (.int .i64 q)) (first | go_keep | exact ⟨d0, d1, d2, d3, d4, d5, d6, d7⟩) (first | fail)
        have n3 := heap_alloc_new W2 (.cells #[.string op, .int .i64 x, .int .i64 y] 24 (0, 0))
        have N3 := Aside0.mk (show ((W2.alloc (.cells #[.string op, .int .i64 x, .int .i64 y] 24 (0, 0))).drew).heap[W2.heap.size]? = some (.cells #[.string op, .int .i64 x, .int .i64 y] 24 (0, 0)) from n3)
        have B3 := Aside0.mk (below_drew1 (B1.out.alloc B1.out.size (.cells #[.string op, .int .i64 x, .int .i64 y] 24 (0, 0))))
        clear n3 d0 k0 d1 k1 d2 k2 d3 k3 d4 k4 d5 k5 d6 k6 d7 k7
        generalize (W2.alloc (.cells #[.string op, .int .i64 x, .int .i64 y] 24 (0, 0))).drew = W3 at *
        generalize W2.heap.size = gb at *
        clear B1
        go_wp2_with (first | (go_at_call 10; refine (awake_calls W3).mono ?_; rintro e w4 ⟨rfl, hb⟩; have n4 := (hb.block _ (blk_lt N3.out)).trans N3.out; have N4 := Aside0.mk n4; have k0 := Go.Lib.cell_of_heap n4 0; have k1 := Go.Lib.cell_of_heap n4 1; have k2 := Go.Lib.cell_of_heap n4 2; simp only [List.getElem?_toArray, List.getElem?_cons_succ, List.getElem?_cons_zero] at k0 k1 k2; have B4 := Aside0.mk (btrans B3.out hb); clear n4 hb) | (go_at_call 26; refine (next_calls A c w4 (HR.out.below B4.out) HC.out HL.out HE.out).mono ?_; rintro e w5 ⟨v, rfl, ho, hb⟩; obtain ⟨A5, c5, rfl⟩ := ho.slice; have HO5 := Aside0.mk ho; have n5 := (hb.block _ (blk_lt N4.out)).trans N4.out; have N5 := Aside0.mk n5; have k0 := Go.Lib.cell_of_heap n5 0; have k1 := Go.Lib.cell_of_heap n5 1; have k2 := Go.Lib.cell_of_heap n5 2; simp only [List.getElem?_toArray, List.getElem?_cons_succ, List.getElem?_cons_zero] at k0 k1 k2; have B5 := Aside0.mk (btrans B4.out hb); clear n5 hb ho) | (go_at_call 12; refine (asked_calls r n A c s op x y t w5 (HR.out.below B5.out) HC.out).mono ?_; rintro e w6 ⟨rfl, hb⟩; have HN5 := HO5.out.below hb; clear HO5; have HO5 := Aside0.mk HN5; clear HN5; have n6 := (hb.block _ (blk_lt N5.out)).trans N5.out; have N6 := Aside0.mk n6; have k0 := Go.Lib.cell_of_heap n6 0; have k1 := Go.Lib.cell_of_heap n6 1; have k2 := Go.Lib.cell_of_heap n6 2; simp only [List.getElem?_toArray, List.getElem?_cons_succ, List.getElem?_cons_zero] at k0 k1 k2; have B6 := Aside0.mk (btrans B5.out hb); rw [HP.out]; clear n6 hb) | (go_at_call 14; refine (HNX.out w6 (HR.out.below B6.out)).mono ?_; rintro e w7 ⟨v, rfl, ho, hb⟩; obtain ⟨A7, c7, rfl⟩ := ho.slice; have HO7 := Aside0.mk ho; have HN5 := HO5.out.below hb; clear HO5; have HO5 := Aside0.mk HN5; clear HN5; have n7 := (hb.block _ (blk_lt N6.out)).trans N6.out; have N7 := Aside0.mk n7; have k0 := Go.Lib.cell_of_heap n7 0; have k1 := Go.Lib.cell_of_heap n7 1; have k2 := Go.Lib.cell_of_heap n7 2; simp only [List.getElem?_toArray, List.getElem?_cons_succ, List.getElem?_cons_zero] at k0 k1 k2; have B7 := Aside0.mk (btrans B6.out hb); clear n7 hb ho) | (go_at_call 15; refine ((show Calls Tryz.prog 15 _ _ _ from ref_valid r n A7 c7 L w7 HO7.out.rd (own_cap HO7.out))).mono ?_; rintro e w8 ⟨rfl, qq, hw⟩; have hb : Below w7.heap.size w7 w8 := (by rw [hw]; exact pw_below_drewN (Below.refl w7.heap.size w7) qq); clear hw; have HN5 := HO5.out.below hb; clear HO5; have HO5 := Aside0.mk HN5; clear HN5; have HN7 := HO7.out.below hb; clear HO7; have HO7 := Aside0.mk HN7; clear HN7; have n8 := (hb.block _ (blk_lt N7.out)).trans N7.out; have N8 := Aside0.mk n8; have k0 := Go.Lib.cell_of_heap n8 0; have k1 := Go.Lib.cell_of_heap n8 1; have k2 := Go.Lib.cell_of_heap n8 2; simp only [List.getElem?_toArray, List.getElem?_cons_succ, List.getElem?_cons_zero] at k0 k1 k2; have B8 := Aside0.mk (btrans B7.out hb); rw [HV.out]; clear n8 hb))
        go_ret
        exact ⟨rfl, B8.out⟩
      | true =>
        have HV := Aside0.mk hv
        have HE := Aside0.mk (show nextS r n s op x y t q = some (L, true, 0) from by unfold nextS; rw [hE]; simp only; rw [if_pos hS.1, hi]; simp only; rw [← hL, if_pos (by omega), valid_eq, hv]; rfl)
        clear hn hE hS hi hk hL hLl hv
        go_enter Tryz.func8, Tryz.ntmps8
        go_wp2
        generalize w.alloc (.cells #[.int .i64 r, .int .i64 n, .slice A s.length c, .string op, .int .i64 x, .int .i64 y, .int .i64 t, .int .i64 q] 57 (0, 0)) = W2 at *
        have d0 : W2.drew.cell? ⟨w.heap.size, 0, none⟩ = some (.int .i64 r) := k0
        have d1 : W2.drew.cell? ⟨w.heap.size, 1, none⟩ = some (.int .i64 n) := k1
        have d2 : W2.drew.cell? ⟨w.heap.size, 2, none⟩ = some (.slice A s.length c) := k2
        have d3 : W2.drew.cell? ⟨w.heap.size, 3, none⟩ = some (.string op) := k3
        have d4 : W2.drew.cell? ⟨w.heap.size, 4, none⟩ = some (.int .i64 x) := k4
        have d5 : W2.drew.cell? ⟨w.heap.size, 5, none⟩ = some (.int .i64 y) := k5
        have d6 : W2.drew.cell? ⟨w.heap.size, 6, none⟩ = some (.int .i64 t) := k6
        have d7 : W2.drew.cell? ⟨w.heap.size, 7, none⟩ = some (.int .i64 q) := k7
        go_region_held3 (fun X => X.cell? ⟨w.heap.size, 0, none⟩ = some (.int .i64 r) ∧ X.cell? ⟨w.heap.size, 1, none⟩ = some (.int .i64 n) ∧ X.cell? ⟨w.heap.size, 2, none⟩ = some (.slice A s.length c) ∧ X.cell? ⟨w.heap.size, 3, none⟩ = some (.string op) ∧ X.cell? ⟨w.heap.size, 4, none⟩ = some (.int .i64 x) ∧ X.cell? ⟨w.heap.size, 5, none⟩ = some (.int .i64 y) ∧ X.cell? ⟨w.heap.size, 6, none⟩ = some (.int .i64 t) ∧ X.cell? ⟨w.heap.size, 7, none⟩ = some (.int .i64 q)) (first | go_keep | exact ⟨d0, d1, d2, d3, d4, d5, d6, d7⟩) (first | fail)
        have n3 := heap_alloc_new W2 (.cells #[.string op, .int .i64 x, .int .i64 y] 24 (0, 0))
        have N3 := Aside0.mk (show ((W2.alloc (.cells #[.string op, .int .i64 x, .int .i64 y] 24 (0, 0))).drew).heap[W2.heap.size]? = some (.cells #[.string op, .int .i64 x, .int .i64 y] 24 (0, 0)) from n3)
        have B3 := Aside0.mk (below_drew1 (B1.out.alloc B1.out.size (.cells #[.string op, .int .i64 x, .int .i64 y] 24 (0, 0))))
        clear n3 d0 k0 d1 k1 d2 k2 d3 k3 d4 k4 d5 k5 d6 k6 d7 k7
        generalize (W2.alloc (.cells #[.string op, .int .i64 x, .int .i64 y] 24 (0, 0))).drew = W3 at *
        generalize W2.heap.size = gb at *
        clear B1
        go_wp2_with (first | (go_at_call 10; refine (awake_calls W3).mono ?_; rintro e w4 ⟨rfl, hb⟩; have n4 := (hb.block _ (blk_lt N3.out)).trans N3.out; have N4 := Aside0.mk n4; have k0 := Go.Lib.cell_of_heap n4 0; have k1 := Go.Lib.cell_of_heap n4 1; have k2 := Go.Lib.cell_of_heap n4 2; simp only [List.getElem?_toArray, List.getElem?_cons_succ, List.getElem?_cons_zero] at k0 k1 k2; have B4 := Aside0.mk (btrans B3.out hb); clear n4 hb) | (go_at_call 26; refine (next_calls A c w4 (HR.out.below B4.out) HC.out HL.out HE.out).mono ?_; rintro e w5 ⟨v, rfl, ho, hb⟩; obtain ⟨A5, c5, rfl⟩ := ho.slice; have HO5 := Aside0.mk ho; have n5 := (hb.block _ (blk_lt N4.out)).trans N4.out; have N5 := Aside0.mk n5; have k0 := Go.Lib.cell_of_heap n5 0; have k1 := Go.Lib.cell_of_heap n5 1; have k2 := Go.Lib.cell_of_heap n5 2; simp only [List.getElem?_toArray, List.getElem?_cons_succ, List.getElem?_cons_zero] at k0 k1 k2; have B5 := Aside0.mk (btrans B4.out hb); clear n5 hb ho) | (go_at_call 12; refine (asked_calls r n A c s op x y t w5 (HR.out.below B5.out) HC.out).mono ?_; rintro e w6 ⟨rfl, hb⟩; have HN5 := HO5.out.below hb; clear HO5; have HO5 := Aside0.mk HN5; clear HN5; have n6 := (hb.block _ (blk_lt N5.out)).trans N5.out; have N6 := Aside0.mk n6; have k0 := Go.Lib.cell_of_heap n6 0; have k1 := Go.Lib.cell_of_heap n6 1; have k2 := Go.Lib.cell_of_heap n6 2; simp only [List.getElem?_toArray, List.getElem?_cons_succ, List.getElem?_cons_zero] at k0 k1 k2; have B6 := Aside0.mk (btrans B5.out hb); rw [HP.out]; clear n6 hb) | (go_at_call 14; refine (HNX.out w6 (HR.out.below B6.out)).mono ?_; rintro e w7 ⟨v, rfl, ho, hb⟩; obtain ⟨A7, c7, rfl⟩ := ho.slice; have HO7 := Aside0.mk ho; have HN5 := HO5.out.below hb; clear HO5; have HO5 := Aside0.mk HN5; clear HN5; have n7 := (hb.block _ (blk_lt N6.out)).trans N6.out; have N7 := Aside0.mk n7; have k0 := Go.Lib.cell_of_heap n7 0; have k1 := Go.Lib.cell_of_heap n7 1; have k2 := Go.Lib.cell_of_heap n7 2; simp only [List.getElem?_toArray, List.getElem?_cons_succ, List.getElem?_cons_zero] at k0 k1 k2; have B7 := Aside0.mk (btrans B6.out hb); clear n7 hb ho) | (go_at_call 15; refine ((show Calls Tryz.prog 15 _ _ _ from ref_valid r n A7 c7 L w7 HO7.out.rd (own_cap HO7.out))).mono ?_; rintro e w8 ⟨rfl, qq, hw⟩; have hb : Below w7.heap.size w7 w8 := (by rw [hw]; exact pw_below_drewN (Below.refl w7.heap.size w7) qq); clear hw; have HN5 := HO5.out.below hb; clear HO5; have HO5 := Aside0.mk HN5; clear HN5; have HN7 := HO7.out.below hb; clear HO7; have HO7 := Aside0.mk HN7; clear HN7; have n8 := (hb.block _ (blk_lt N7.out)).trans N7.out; have N8 := Aside0.mk n8; have k0 := Go.Lib.cell_of_heap n8 0; have k1 := Go.Lib.cell_of_heap n8 1; have k2 := Go.Lib.cell_of_heap n8 2; simp only [List.getElem?_toArray, List.getElem?_cons_succ, List.getElem?_cons_zero] at k0 k1 k2; have B8 := Aside0.mk (btrans B7.out hb); rw [HV.out]; clear n8 hb) | (go_at_call 16; refine (same_at L L _ _ _ _ w8 HO5.out.rd HO7.out.rd).mono ?_; rintro e wz ⟨rfl, qz, hw⟩; rw [decide_eq_true (rfl : L = L)]; have BZ := Aside0.mk (show Below w.heap.size w wz from by rw [hw]; exact pw_below_drewN B8.out qz); clear hw))
        go_ret
        exact ⟨rfl, BZ.out⟩
theorem nexts_row (v : Value) (W : World) (h : ∃ r n A len cap zs op x y t q, Iscase6 W v r n A len cap zs op x y t q) :
    Calls Tryz.prog 8 #[v] W fun e w' => e = .returned (.bool true) ∧ Below W.heap.size W w' := by
  obtain ⟨r, n, A, len, cap, zs, op, x, y, t, q, rfl, hy, hrow⟩ := h
  obtain ⟨l0, rfl, hr0, hm0, hw0, hc0⟩ := ReadsInt.ofRowC hrow
  exact walk r n A cap l0 op x y t q W (Kd.C_of_reads (d := (0 : Int)) (h1 := fun _ => rfl) hr0) hc0 (by omega)
end Go.Proofs.YtiialjmpfeopjaaGreat.LwNexts
