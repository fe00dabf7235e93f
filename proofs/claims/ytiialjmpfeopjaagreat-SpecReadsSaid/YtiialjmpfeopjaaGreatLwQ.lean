/- Which calls never change a state: the law, walked: plain lemmas; no condition. -/
import Derived.Test.YtiialjmpfeopjaaGreatLwA
import Derived.Test.YtiialjmpfeopjaaGreatPwR
import Derived.Test.YtiialjmpfeopjaaGreatRfD
import Derived.BigQuiet
import Derived.Deep.QuietTactic
import Derived.Deep.RegionHeld3
import Derived.Deep.LoopGhost
namespace Go.Proofs.YtiialjmpfeopjaaGreat.LwReads
open Go.RowKit Go.Sort Go.Proofs.YtiialjmpfeopjaaGreat.Sp Go.Proofs.YtiialjmpfeopjaaGreatW.PrintWords Go.Proofs.YtiialjmpfeopjaaGreatW.PrintLast Go.Proofs.YtiialjmpfeopjaaGreatW.PrintMore
set_option linter.unusedVariables false
set_option linter.unusedSimpArgs false
set_option maxHeartbeats 8000000
set_option maxRecDepth 100000
theorem walk (r n : Int) (A : Option Addr) (c : Nat) (s : List Int) (op : ByteArray) (x y t : Int) (w : World) (hr : Rd w A s) (hc : s.length ≤ c) (hl : s.length ≤ 17592186044416) :
    Calls Tryz.prog 6 #[.agg #[.int .i64 r, .int .i64 n, .slice A s.length c, .string op, .int .i64 x, .int .i64 y, .int .i64 t]] w fun e w' => e = .returned (.bool true) ∧ Below w.heap.size w w' := by
  have b1 := al1 w (.cells #[.int .i64 r, .int .i64 n, .slice A s.length c, .string op, .int .i64 x, .int .i64 y, .int .i64 t] 49 (0, 0))
  have n1 := heap_alloc_new w (.cells #[.int .i64 r, .int .i64 n, .slice A s.length c, .string op, .int .i64 x, .int .i64 y, .int .i64 t] 49 (0, 0))
  have k := fun i => Go.Lib.cell_of_heap n1 i
  have k0 := (k 0).trans rfl
  have k1 := (k 1).trans rfl
  have k2 := (k 2).trans rfl
  have k3 := (k 3).trans rfl
  have k4 := (k 4).trans rfl
  have k5 := (k 5).trans rfl
  have k6 := (k 6).trans rfl
  skip
  have B1 := Aside0.mk b1
  have HR := Aside0.mk hr
  have HC := Aside0.mk hc
  have HL := Aside0.mk hl
  clear k n1 b1 hr hc hl
  obtain ⟨M, hM⟩ : ∃ M, M = mayR r op x y 0 := ⟨_, rfl⟩
  have HM0 := Aside0.mk hM.symm
  cases M with
  | false =>
    have HMT := Aside0.mk (fun t => (show mayR r op x y t = false from by
      cases h : mayR r op x y t with
      | false => rfl
      | true =>
        have h2 := (may_zero h).2
        rw [← hM] at h2
        exact absurd h2 (by decide)))
    have HRS := Aside0.mk (show readsS r op x y = (false, 1) from by rw [reads_eq, ← hM]; rfl)
    clear hM
    go_enter Tryz.func6, Tryz.ntmps6
    go_wp2
    generalize w.alloc (.cells #[.int .i64 r, .int .i64 n, .slice A s.length c, .string op, .int .i64 x, .int .i64 y, .int .i64 t] 49 (0, 0)) = W2 at *
    have d0 : W2.drew.cell? ⟨w.heap.size, 0, none⟩ = some (.int .i64 r) := k0
    have d1 : W2.drew.cell? ⟨w.heap.size, 1, none⟩ = some (.int .i64 n) := k1
    have d2 : W2.drew.cell? ⟨w.heap.size, 2, none⟩ = some (.slice A s.length c) := k2
    have d3 : W2.drew.cell? ⟨w.heap.size, 3, none⟩ = some (.string op) := k3
    have d4 : W2.drew.cell? ⟨w.heap.size, 4, none⟩ = some (.int .i64 x) := k4
    have d5 : W2.drew.cell? ⟨w.heap.size, 5, none⟩ = some (.int .i64 y) := k5
    have d6 : W2.drew.cell? ⟨w.heap.size, 6, none⟩ = some (.int .i64 t) := k6
    go_region_held3 (fun X => X.cell? ⟨w.heap.size, 0, none⟩ = some (.int .i64 r) ∧ X.cell? ⟨w.heap.size, 1, none⟩ = some (.int .i64 n) ∧ X.cell? ⟨w.heap.size, 2, none⟩ = some (.slice A s.length c) ∧ X.cell? ⟨w.heap.size, 3, none⟩ = some (.string op) ∧ X.cell? ⟨w.heap.size, 4, none⟩ = some (.int .i64 x) ∧ X.cell? ⟨w.heap.size, 5, none⟩ = some (.int .i64 y) ∧ X.cell? ⟨w.heap.size, 6, none⟩ = some (.int .i64 t)) (first | go_keep | exact ⟨d0, d1, d2, d3, d4, d5, d6⟩) (first | fail)
    have n3 := heap_alloc_new W2 (.cells #[.string op, .int .i64 x, .int .i64 y] 24 (0, 0))
    have N3 := Aside0.mk (show ((W2.alloc (.cells #[.string op, .int .i64 x, .int .i64 y] 24 (0, 0))).drew).heap[W2.heap.size]? = some (.cells #[.string op, .int .i64 x, .int .i64 y] 24 (0, 0)) from n3)
    have B3 := Aside0.mk (below_drew1 (B1.out.alloc B1.out.size (.cells #[.string op, .int .i64 x, .int .i64 y] 24 (0, 0))))
    clear n3 d0 k0 d1 k1 d2 k2 d3 k3 d4 k4 d5 k5 d6 k6
    generalize (W2.alloc (.cells #[.string op, .int .i64 x, .int .i64 y] 24 (0, 0))).drew = W3 at *
    generalize W2.heap.size = gb at *
    clear B1
    go_wp2_with (first | (go_at_call 10; refine (awake_calls W3).mono ?_; rintro e w4 ⟨rfl, hb⟩; have n4 := (hb.block _ (blk_lt N3.out)).trans N3.out; have N4 := Aside0.mk n4; have k0 := Go.Lib.cell_of_heap n4 0; have k1 := Go.Lib.cell_of_heap n4 1; have k2 := Go.Lib.cell_of_heap n4 2; simp only [List.getElem?_toArray, List.getElem?_cons_succ, List.getElem?_cons_zero] at k0 k1 k2; have B4 := Aside0.mk (btrans B3.out hb); clear n4 hb) | (go_at_call 22; refine (spec_reads r op x y w4).mono ?_; rintro e w5 ⟨rfl, hb⟩; have n5 := (hb.block _ (blk_lt N4.out)).trans N4.out; have N5 := Aside0.mk n5; have k0 := Go.Lib.cell_of_heap n5 0; have k1 := Go.Lib.cell_of_heap n5 1; have k2 := Go.Lib.cell_of_heap n5 2; simp only [List.getElem?_toArray, List.getElem?_cons_succ, List.getElem?_cons_zero] at k0 k1 k2; have B5 := Aside0.mk (btrans B4.out hb); rw [HRS.out]; clear n5 hb))
    go_loopg [10, 11] 4 (fun gg v10 v11 wr => ∃ m : Nat, m ≤ 4 ∧ 4 - m ≤ gg ∧ v11 = .int .i64 m ∧ v10 = .bool false ∧ Aside0 (wr.heap[gb]? = some (.cells #[.string op, .int .i64 x, .int .i64 y] 24 (0, 0))) ∧ Aside0 (Below w.heap.size w wr))
    case atStart => exact ⟨0, by omega, by omega, rfl, rfl, N5, B5⟩
    case round =>
      clear B3 N3 B4 N4 B5 N5 k0 k1 k2
      obtain ⟨m, hm, hgg, rfl, hv, N3, B3⟩ := hrel
      have n3 := N3.out; have k0 := Go.Lib.cell_of_heap n3 0; have k1 := Go.Lib.cell_of_heap n3 1; have k2 := Go.Lib.cell_of_heap n3 2; simp only [List.getElem?_toArray, List.getElem?_cons_succ, List.getElem?_cons_zero] at k0 k1 k2; clear n3
      subst hv
      by_cases hlt : m < 4
      · have hi : (m : Int) < 4 := by omega
        go_wp2_with (go_at_call 20; refine (ref_may r op x y (m : Int) wr).mono ?_; rintro e w4 ⟨rfl, hb⟩; have n4 := (hb.block _ (blk_lt N3.out)).trans N3.out; have N4 := Aside0.mk n4; have k0 := Go.Lib.cell_of_heap n4 0; have k1 := Go.Lib.cell_of_heap n4 1; have k2 := Go.Lib.cell_of_heap n4 2; simp only [List.getElem?_toArray, List.getElem?_cons_succ, List.getElem?_cons_zero] at k0 k1 k2; have B4 := Aside0.mk (btrans B3.out hb); rw [HMT.out (m : Int)]; clear n4 hb)
        go_roundg (4 - (m + 1))
        case measure => omega
        case rel => exact ⟨m + 1, by omega, by omega, by go_num, rfl, N4, B4⟩
      · have hi : ¬ (m : Int) < 4 := by omega
        go_wp2
        go_ret
        exact ⟨rfl, B3.out⟩
  | true =>
    have HRS0 := Aside0.mk (show readsS r op x y = (readsR r op, 0) from by rw [reads_eq, ← hM]; rfl)
    clear hM
    obtain ⟨RB, hRB⟩ : ∃ RB, RB = readsR r op := ⟨_, rfl⟩
    have HB := Aside0.mk hRB.symm
    have HRS := Aside0.mk (show readsS r op x y = (RB, 0) from by rw [hRB]; exact HRS0.out)
    clear HRS0
    cases RB with
    | false =>
      clear hRB
      go_enter Tryz.func6, Tryz.ntmps6
      go_wp2
      generalize w.alloc (.cells #[.int .i64 r, .int .i64 n, .slice A s.length c, .string op, .int .i64 x, .int .i64 y, .int .i64 t] 49 (0, 0)) = W2 at *
      have d0 : W2.drew.cell? ⟨w.heap.size, 0, none⟩ = some (.int .i64 r) := k0
      have d1 : W2.drew.cell? ⟨w.heap.size, 1, none⟩ = some (.int .i64 n) := k1
      have d2 : W2.drew.cell? ⟨w.heap.size, 2, none⟩ = some (.slice A s.length c) := k2
      have d3 : W2.drew.cell? ⟨w.heap.size, 3, none⟩ = some (.string op) := k3
      have d4 : W2.drew.cell? ⟨w.heap.size, 4, none⟩ = some (.int .i64 x) := k4
      have d5 : W2.drew.cell? ⟨w.heap.size, 5, none⟩ = some (.int .i64 y) := k5
      have d6 : W2.drew.cell? ⟨w.heap.size, 6, none⟩ = some (.int .i64 t) := k6
      go_region_held3 (fun X => X.cell? ⟨w.heap.size, 0, none⟩ = some (.int .i64 r) ∧ X.cell? ⟨w.heap.size, 1, none⟩ = some (.int .i64 n) ∧ X.cell? ⟨w.heap.size, 2, none⟩ = some (.slice A s.length c) ∧ X.cell? ⟨w.heap.size, 3, none⟩ = some (.string op) ∧ X.cell? ⟨w.heap.size, 4, none⟩ = some (.int .i64 x) ∧ X.cell? ⟨w.heap.size, 5, none⟩ = some (.int .i64 y) ∧ X.cell? ⟨w.heap.size, 6, none⟩ = some (.int .i64 t)) (first | go_keep | exact ⟨d0, d1, d2, d3, d4, d5, d6⟩) (first | fail)
      have n3 := heap_alloc_new W2 (.cells #[.string op, .int .i64 x, .int .i64 y] 24 (0, 0))
      have N3 := Aside0.mk (show ((W2.alloc (.cells #[.string op, .int .i64 x, .int .i64 y] 24 (0, 0))).drew).heap[W2.heap.size]? = some (.cells #[.string op, .int .i64 x, .int .i64 y] 24 (0, 0)) from n3)
      have B3 := Aside0.mk (below_drew1 (B1.out.alloc B1.out.size (.cells #[.string op, .int .i64 x, .int .i64 y] 24 (0, 0))))
      clear n3 d0 k0 d1 k1 d2 k2 d3 k3 d4 k4 d5 k5 d6 k6
      generalize (W2.alloc (.cells #[.string op, .int .i64 x, .int .i64 y] 24 (0, 0))).drew = W3 at *
      generalize W2.heap.size = gb at *
      clear B1
      go_wp2_with (first | (go_at_call 10; refine (awake_calls W3).mono ?_; rintro e w4 ⟨rfl, hb⟩; have n4 := (hb.block _ (blk_lt N3.out)).trans N3.out; have N4 := Aside0.mk n4; have k0 := Go.Lib.cell_of_heap n4 0; have k1 := Go.Lib.cell_of_heap n4 1; have k2 := Go.Lib.cell_of_heap n4 2; simp only [List.getElem?_toArray, List.getElem?_cons_succ, List.getElem?_cons_zero] at k0 k1 k2; have B4 := Aside0.mk (btrans B3.out hb); clear n4 hb) | (go_at_call 22; refine (spec_reads r op x y w4).mono ?_; rintro e w5 ⟨rfl, hb⟩; have n5 := (hb.block _ (blk_lt N4.out)).trans N4.out; have N5 := Aside0.mk n5; have k0 := Go.Lib.cell_of_heap n5 0; have k1 := Go.Lib.cell_of_heap n5 1; have k2 := Go.Lib.cell_of_heap n5 2; simp only [List.getElem?_toArray, List.getElem?_cons_succ, List.getElem?_cons_zero] at k0 k1 k2; have B5 := Aside0.mk (btrans B4.out hb); rw [HRS.out]; clear n5 hb))
      go_loopg [10, 11] 4 (fun gg v10 v11 wr => ∃ m : Nat, m ≤ 4 ∧ 4 - m ≤ gg ∧ v11 = .int .i64 m ∧ v10 = .bool (if m = 0 then false else true) ∧ Aside0 (wr.heap[gb]? = some (.cells #[.string op, .int .i64 x, .int .i64 y] 24 (0, 0))) ∧ Aside0 (Below w.heap.size w wr))
      case atStart => exact ⟨0, by omega, by omega, rfl, rfl, N5, B5⟩
      case round =>
        clear B3 N3 B4 N4 B5 N5 k0 k1 k2
        obtain ⟨m, hm, hgg, rfl, hv, N3, B3⟩ := hrel
        have n3 := N3.out; have k0 := Go.Lib.cell_of_heap n3 0; have k1 := Go.Lib.cell_of_heap n3 1; have k2 := Go.Lib.cell_of_heap n3 2; simp only [List.getElem?_toArray, List.getElem?_cons_succ, List.getElem?_cons_zero] at k0 k1 k2; clear n3
        by_cases h0 : m = 0
        · subst h0
          rw [if_pos rfl] at hv
          subst hv
          go_wp2_with (go_at_call 20; refine (ref_may r op x y 0 wr).mono ?_; rintro e w4 ⟨rfl, hb⟩; have n4 := (hb.block _ (blk_lt N3.out)).trans N3.out; have N4 := Aside0.mk n4; have k0 := Go.Lib.cell_of_heap n4 0; have k1 := Go.Lib.cell_of_heap n4 1; have k2 := Go.Lib.cell_of_heap n4 2; simp only [List.getElem?_toArray, List.getElem?_cons_succ, List.getElem?_cons_zero] at k0 k1 k2; have B4 := Aside0.mk (btrans B3.out hb); rw [HM0.out]; clear n4 hb)
          go_roundg (4 - 1)
          case measure => omega
          case rel => exact ⟨1, by omega, by omega, by go_num, rfl, N4, B4⟩
        · rw [if_neg h0] at hv
          subst hv
          by_cases hlt : m < 4
          · have hi : (m : Int) < 4 := by omega
            go_wp2
            go_roundg (4 - (m + 1))
            case measure => omega
            case rel => exact ⟨m + 1, by omega, by omega, by go_num, by rw [if_neg (by omega)], N3, B3⟩
          · have hi : ¬ (m : Int) < 4 := by omega
            go_wp2_with (first | (go_at_call 23; refine (ref_reads r op _).mono ?_; rintro e wq ⟨rfl, hw⟩; rw [hw, HB.out]; clear hw))
            go_ret
            exact ⟨rfl, B3.out⟩
    | true =>
      obtain ⟨p, hp⟩ : ∃ p, p = (validR r n s && mayR r op x y t) := ⟨_, rfl⟩
      have HP := Aside0.mk hp.symm
      cases p with
      | false =>
        clear hp hRB
        go_enter Tryz.func6, Tryz.ntmps6
        go_wp2
        generalize w.alloc (.cells #[.int .i64 r, .int .i64 n, .slice A s.length c, .string op, .int .i64 x, .int .i64 y, .int .i64 t] 49 (0, 0)) = W2 at *
        have d0 : W2.drew.cell? ⟨w.heap.size, 0, none⟩ = some (.int .i64 r) := k0
        have d1 : W2.drew.cell? ⟨w.heap.size, 1, none⟩ = some (.int .i64 n) := k1
        have d2 : W2.drew.cell? ⟨w.heap.size, 2, none⟩ = some (.slice A s.length c) := k2
        have d3 : W2.drew.cell? ⟨w.heap.size, 3, none⟩ = some (.string op) := k3
        have d4 : W2.drew.cell? ⟨w.heap.size, 4, none⟩ = some (.int .i64 x) := k4
        have d5 : W2.drew.cell? ⟨w.heap.size, 5, none⟩ = some (.int .i64 y) := k5
        have d6 : W2.drew.cell? ⟨w.heap.size, 6, none⟩ = some (.int .i64 t) := k6
        go_region_held3 (fun X => X.cell? ⟨w.heap.size, 0, none⟩ = some (.int .i64 r) ∧ X.cell? ⟨w.heap.size, 1, none⟩ = some (.int .i64 n) ∧ X.cell? ⟨w.heap.size, 2, none⟩ = some (.slice A s.length c) ∧ X.cell? ⟨w.heap.size, 3, none⟩ = some (.string op) ∧ X.cell? ⟨w.heap.size, 4, none⟩ = some (.int .i64 x) ∧ X.cell? ⟨w.heap.size, 5, none⟩ = some (.int .i64 y) ∧ X.cell? ⟨w.heap.size, 6, none⟩ = some (.int .i64 t)) (first | go_keep | exact ⟨d0, d1, d2, d3, d4, d5, d6⟩) (first | fail)
        have n3 := heap_alloc_new W2 (.cells #[.string op, .int .i64 x, .int .i64 y] 24 (0, 0))
        have N3 := Aside0.mk (show ((W2.alloc (.cells #[.string op, .int .i64 x, .int .i64 y] 24 (0, 0))).drew).heap[W2.heap.size]? = some (.cells #[.string op, .int .i64 x, .int .i64 y] 24 (0, 0)) from n3)
        have B3 := Aside0.mk (below_drew1 (B1.out.alloc B1.out.size (.cells #[.string op, .int .i64 x, .int .i64 y] 24 (0, 0))))
        clear n3 d0 k0 d1 k1 d2 k2 d3 k3 d4 k4 d5 k5 d6 k6
        generalize (W2.alloc (.cells #[.string op, .int .i64 x, .int .i64 y] 24 (0, 0))).drew = W3 at *
        generalize W2.heap.size = gb at *
        clear B1
        go_wp2_with (first | (go_at_call 10; refine (awake_calls W3).mono ?_; rintro e w4 ⟨rfl, hb⟩; have n4 := (hb.block _ (blk_lt N3.out)).trans N3.out; have N4 := Aside0.mk n4; have k0 := Go.Lib.cell_of_heap n4 0; have k1 := Go.Lib.cell_of_heap n4 1; have k2 := Go.Lib.cell_of_heap n4 2; simp only [List.getElem?_toArray, List.getElem?_cons_succ, List.getElem?_cons_zero] at k0 k1 k2; have B4 := Aside0.mk (btrans B3.out hb); clear n4 hb) | (go_at_call 22; refine (spec_reads r op x y w4).mono ?_; rintro e w5 ⟨rfl, hb⟩; have n5 := (hb.block _ (blk_lt N4.out)).trans N4.out; have N5 := Aside0.mk n5; have k0 := Go.Lib.cell_of_heap n5 0; have k1 := Go.Lib.cell_of_heap n5 1; have k2 := Go.Lib.cell_of_heap n5 2; simp only [List.getElem?_toArray, List.getElem?_cons_succ, List.getElem?_cons_zero] at k0 k1 k2; have B5 := Aside0.mk (btrans B4.out hb); rw [HRS.out]; clear n5 hb))
        go_loopg [10, 11] 4 (fun gg v10 v11 wr => ∃ m : Nat, m ≤ 4 ∧ 4 - m ≤ gg ∧ v11 = .int .i64 m ∧ v10 = .bool (if m = 0 then false else true) ∧ Aside0 (wr.heap[gb]? = some (.cells #[.string op, .int .i64 x, .int .i64 y] 24 (0, 0))) ∧ Aside0 (Below w.heap.size w wr))
        case atStart => exact ⟨0, by omega, by omega, rfl, rfl, N5, B5⟩
        case round =>
          clear B3 N3 B4 N4 B5 N5 k0 k1 k2
          obtain ⟨m, hm, hgg, rfl, hv, N3, B3⟩ := hrel
          have n3 := N3.out; have k0 := Go.Lib.cell_of_heap n3 0; have k1 := Go.Lib.cell_of_heap n3 1; have k2 := Go.Lib.cell_of_heap n3 2; simp only [List.getElem?_toArray, List.getElem?_cons_succ, List.getElem?_cons_zero] at k0 k1 k2; clear n3
          by_cases h0 : m = 0
          · subst h0
            rw [if_pos rfl] at hv
            subst hv
            go_wp2_with (go_at_call 20; refine (ref_may r op x y 0 wr).mono ?_; rintro e w4 ⟨rfl, hb⟩; have n4 := (hb.block _ (blk_lt N3.out)).trans N3.out; have N4 := Aside0.mk n4; have k0 := Go.Lib.cell_of_heap n4 0; have k1 := Go.Lib.cell_of_heap n4 1; have k2 := Go.Lib.cell_of_heap n4 2; simp only [List.getElem?_toArray, List.getElem?_cons_succ, List.getElem?_cons_zero] at k0 k1 k2; have B4 := Aside0.mk (btrans B3.out hb); rw [HM0.out]; clear n4 hb)
            go_roundg (4 - 1)
            case measure => omega
            case rel => exact ⟨1, by omega, by omega, by go_num, rfl, N4, B4⟩
          · rw [if_neg h0] at hv
            subst hv
            by_cases hlt : m < 4
            · have hi : (m : Int) < 4 := by omega
              go_wp2
              go_roundg (4 - (m + 1))
              case measure => omega
              case rel => exact ⟨m + 1, by omega, by omega, by go_num, by rw [if_neg (by omega)], N3, B3⟩
            · have hi : ¬ (m : Int) < 4 := by omega
              go_wp2_with (first | (go_at_call 23; refine (ref_reads r op _).mono ?_; rintro e wq ⟨rfl, hw⟩; rw [hw, HB.out]; clear hw) | (go_at_call 12; refine (asked_calls r n A c s op x y t wr (HR.out.below B3.out) HC.out).mono ?_; rintro e w4 ⟨rfl, hb⟩; have n4 := (hb.block _ (blk_lt N3.out)).trans N3.out; have N4 := Aside0.mk n4; have k0 := Go.Lib.cell_of_heap n4 0; have k1 := Go.Lib.cell_of_heap n4 1; have k2 := Go.Lib.cell_of_heap n4 2; simp only [List.getElem?_toArray, List.getElem?_cons_succ, List.getElem?_cons_zero] at k0 k1 k2; have B4 := Aside0.mk (btrans B3.out hb); rw [HP.out]; clear n4 hb))
              go_ret
              exact ⟨rfl, B4.out⟩
      | true =>
        obtain ⟨oo, hE⟩ := reads_keep hp.symm hRB.symm HL.out
        have HE := Aside0.mk hE
        clear hE hp hRB
        go_enter Tryz.func6, Tryz.ntmps6
        go_wp2
        generalize w.alloc (.cells #[.int .i64 r, .int .i64 n, .slice A s.length c, .string op, .int .i64 x, .int .i64 y, .int .i64 t] 49 (0, 0)) = W2 at *
        have d0 : W2.drew.cell? ⟨w.heap.size, 0, none⟩ = some (.int .i64 r) := k0
        have d1 : W2.drew.cell? ⟨w.heap.size, 1, none⟩ = some (.int .i64 n) := k1
        have d2 : W2.drew.cell? ⟨w.heap.size, 2, none⟩ = some (.slice A s.length c) := k2
        have d3 : W2.drew.cell? ⟨w.heap.size, 3, none⟩ = some (.string op) := k3
        have d4 : W2.drew.cell? ⟨w.heap.size, 4, none⟩ = some (.int .i64 x) := k4
        have d5 : W2.drew.cell? ⟨w.heap.size, 5, none⟩ = some (.int .i64 y) := k5
        have d6 : W2.drew.cell? ⟨w.heap.size, 6, none⟩ = some (.int .i64 t) := k6
        go_region_held3 (fun X => X.cell? ⟨w.heap.size, 0, none⟩ = some (.int .i64 r) ∧ X.cell? ⟨w.heap.size, 1, none⟩ = some (.int .i64 n) ∧ X.cell? ⟨w.heap.size, 2, none⟩ = some (.slice A s.length c) ∧ X.cell? ⟨w.heap.size, 3, none⟩ = some (.string op) ∧ X.cell? ⟨w.heap.size, 4, none⟩ = some (.int .i64 x) ∧ X.cell? ⟨w.heap.size, 5, none⟩ = some (.int .i64 y) ∧ X.cell? ⟨w.heap.size, 6, none⟩ = some (.int .i64 t)) (first | go_keep | exact ⟨d0, d1, d2, d3, d4, d5, d6⟩) (first | fail)
        have n3 := heap_alloc_new W2 (.cells #[.string op, .int .i64 x, .int .i64 y] 24 (0, 0))
        have N3 := Aside0.mk (show ((W2.alloc (.cells #[.string op, .int .i64 x, .int .i64 y] 24 (0, 0))).drew).heap[W2.heap.size]? = some (.cells #[.string op, .int .i64 x, .int .i64 y] 24 (0, 0)) from n3)
        have B3 := Aside0.mk (below_drew1 (B1.out.alloc B1.out.size (.cells #[.string op, .int .i64 x, .int .i64 y] 24 (0, 0))))
        clear n3 d0 k0 d1 k1 d2 k2 d3 k3 d4 k4 d5 k5 d6 k6
        generalize (W2.alloc (.cells #[.string op, .int .i64 x, .int .i64 y] 24 (0, 0))).drew = W3 at *
        generalize W2.heap.size = gb at *
        clear B1
        go_wp2_with (first | (go_at_call 10; refine (awake_calls W3).mono ?_; rintro e w4 ⟨rfl, hb⟩; have n4 := (hb.block _ (blk_lt N3.out)).trans N3.out; have N4 := Aside0.mk n4; have k0 := Go.Lib.cell_of_heap n4 0; have k1 := Go.Lib.cell_of_heap n4 1; have k2 := Go.Lib.cell_of_heap n4 2; simp only [List.getElem?_toArray, List.getElem?_cons_succ, List.getElem?_cons_zero] at k0 k1 k2; have B4 := Aside0.mk (btrans B3.out hb); clear n4 hb) | (go_at_call 22; refine (spec_reads r op x y w4).mono ?_; rintro e w5 ⟨rfl, hb⟩; have n5 := (hb.block _ (blk_lt N4.out)).trans N4.out; have N5 := Aside0.mk n5; have k0 := Go.Lib.cell_of_heap n5 0; have k1 := Go.Lib.cell_of_heap n5 1; have k2 := Go.Lib.cell_of_heap n5 2; simp only [List.getElem?_toArray, List.getElem?_cons_succ, List.getElem?_cons_zero] at k0 k1 k2; have B5 := Aside0.mk (btrans B4.out hb); rw [HRS.out]; clear n5 hb))
        go_loopg [10, 11] 4 (fun gg v10 v11 wr => ∃ m : Nat, m ≤ 4 ∧ 4 - m ≤ gg ∧ v11 = .int .i64 m ∧ v10 = .bool (if m = 0 then false else true) ∧ Aside0 (wr.heap[gb]? = some (.cells #[.string op, .int .i64 x, .int .i64 y] 24 (0, 0))) ∧ Aside0 (Below w.heap.size w wr))
        case atStart => exact ⟨0, by omega, by omega, rfl, rfl, N5, B5⟩
        case round =>
          clear B3 N3 B4 N4 B5 N5 k0 k1 k2
          obtain ⟨m, hm, hgg, rfl, hv, N3, B3⟩ := hrel
          have n3 := N3.out; have k0 := Go.Lib.cell_of_heap n3 0; have k1 := Go.Lib.cell_of_heap n3 1; have k2 := Go.Lib.cell_of_heap n3 2; simp only [List.getElem?_toArray, List.getElem?_cons_succ, List.getElem?_cons_zero] at k0 k1 k2; clear n3
          by_cases h0 : m = 0
          · subst h0
            rw [if_pos rfl] at hv
            subst hv
            go_wp2_with (go_at_call 20; refine (ref_may r op x y 0 wr).mono ?_; rintro e w4 ⟨rfl, hb⟩; have n4 := (hb.block _ (blk_lt N3.out)).trans N3.out; have N4 := Aside0.mk n4; have k0 := Go.Lib.cell_of_heap n4 0; have k1 := Go.Lib.cell_of_heap n4 1; have k2 := Go.Lib.cell_of_heap n4 2; simp only [List.getElem?_toArray, List.getElem?_cons_succ, List.getElem?_cons_zero] at k0 k1 k2; have B4 := Aside0.mk (btrans B3.out hb); rw [HM0.out]; clear n4 hb)
            go_roundg (4 - 1)
            case measure => omega
            case rel => exact ⟨1, by omega, by omega, by go_num, rfl, N4, B4⟩
          · rw [if_neg h0] at hv
            subst hv
            by_cases hlt : m < 4
            · have hi : (m : Int) < 4 := by omega
              go_wp2
              go_roundg (4 - (m + 1))
              case measure => omega
              case rel => exact ⟨m + 1, by omega, by omega, by go_num, by rw [if_neg (by omega)], N3, B3⟩
            · have hi : ¬ (m : Int) < 4 := by omega
              go_wp2_with (first | (go_at_call 23; refine (ref_reads r op _).mono ?_; rintro e wq ⟨rfl, hw⟩; rw [hw, HB.out]; clear hw) | (go_at_call 12; refine (asked_calls r n A c s op x y t wr (HR.out.below B3.out) HC.out).mono ?_; rintro e w4 ⟨rfl, hb⟩; have n4 := (hb.block _ (blk_lt N3.out)).trans N3.out; have N4 := Aside0.mk n4; have k0 := Go.Lib.cell_of_heap n4 0; have k1 := Go.Lib.cell_of_heap n4 1; have k2 := Go.Lib.cell_of_heap n4 2; simp only [List.getElem?_toArray, List.getElem?_cons_succ, List.getElem?_cons_zero] at k0 k1 k2; have B4 := Aside0.mk (btrans B3.out hb); rw [HP.out]; clear n4 hb) | (go_at_call 11; refine (do_calls A c w4 (HR.out.below B4.out) HC.out HL.out HE.out).mono ?_; rintro e w5 ⟨v, rfl, ho, hb⟩; obtain ⟨A5, c5, rfl⟩ := ho.slice; have HO5 := Aside0.mk ho; have n5 := (hb.block _ (blk_lt N4.out)).trans N4.out; have N5 := Aside0.mk n5; have k0 := Go.Lib.cell_of_heap n5 0; have k1 := Go.Lib.cell_of_heap n5 1; have k2 := Go.Lib.cell_of_heap n5 2; simp only [List.getElem?_toArray, List.getElem?_cons_succ, List.getElem?_cons_zero] at k0 k1 k2; have B5 := Aside0.mk (btrans B4.out hb); clear n5 hb ho) | (go_at_call 16; refine (same_at s s _ _ _ _ w5 HO5.out.rd (HR.out.below B5.out)).mono ?_; rintro e wz ⟨rfl, qz, hw⟩; rw [decide_eq_true (rfl : s = s)]; have BZ := Aside0.mk (show Below w.heap.size w wz from by rw [hw]; exact pw_below_drewN B5.out qz); clear hw))
              go_ret
              exact ⟨rfl, BZ.out⟩
theorem reads_row (v : Value) (W : World) (h : ∃ r n A len cap zs op x y t, Iscase5 W v r n A len cap zs op x y t) :
    Calls Tryz.prog 6 #[v] W fun e w' => e = .returned (.bool true) ∧ Below W.heap.size W w' := by
  obtain ⟨r, n, A, len, cap, zs, op, x, y, t, rfl, hy, hrow⟩ := h
  obtain ⟨l0, rfl, hr0, hm0, hw0, hc0⟩ := ReadsInt.ofRowC hrow
  exact walk r n A cap l0 op x y t W (Kd.C_of_reads (d := (0 : Int)) (h1 := fun _ => rfl) hr0) hc0 (by omega)
end Go.Proofs.YtiialjmpfeopjaaGreat.LwReads
