/- That Next is ok with each of Results and with no other number: the law, walked: plain lemmas; no condition. -/
import Derived.Test.YtiialjmpfeopjaaGreatLwA
import Derived.Test.YtiialjmpfeopjaaGreatPwR
import Derived.Test.YtiialjmpfeopjaaGreatRfD
import Derived.BigQuiet
import Derived.Deep.QuietTactic
import Derived.Deep.RegionHeld3
import Derived.Deep.LoopGhost
import Derived.Test.YtiialjmpfeopjaaGreatWTab
namespace Go.Proofs.YtiialjmpfeopjaaGreat.LwAgrees
open Go.RowKit Go.Sort Go.Proofs.YtiialjmpfeopjaaGreat.Sp Go.Proofs.YtiialjmpfeopjaaGreatW.PrintWords Go.Proofs.YtiialjmpfeopjaaGreatW.PrintLast Go.Proofs.YtiialjmpfeopjaaGreatW.PrintMore
set_option linter.unusedVariables false
set_option linter.unusedSimpArgs false
set_option maxHeartbeats 8000000
set_option maxRecDepth 100000
theorem own_cap {w : World} {b : Nat} {A : Option Addr} {n c : Nat} {s : List Int} (h : Own w b (.slice A n c) s) : s.length ≤ c := by
  have := Kd.R_reads' h.R
  omega
theorem next_any {r n : Int} {s : List Int} {op : ByteArray} {x y t : Int} {E : List Eff} (hE : effS r n s op x y t = some E) (hS : Small E) (o : Int) : ∃ l b f, nextS r n s op x y t o = some (l, b, f) := by
  unfold nextS
  rw [hE]
  simp only
  rw [if_pos hS.1]
  cases hi : idxE o E with
  | none => exact ⟨_, _, _, rfl⟩
  | some k =>
    have hk := idxE_lt hi
    have hLl : (E.getD k (0, [])).2.length ≤ 100000 := by
      rw [List.getD_eq_getElem?_getD, List.getElem?_eq_getElem hk]
      exact hS.2 _ (List.getElem_mem hk)
    simp only
    rw [if_pos (by omega)]
    split <;> exact ⟨_, _, _, rfl⟩
theorem next_not {r n : Int} {s : List Int} {op : ByteArray} {x y t : Int} {E : List Eff} (hE : effS r n s op x y t = some E) (hS : Small E) {o : Int} (h : o ∉ E.map (·.1)) : nextS r n s op x y t o = some ([], false, 0) := by
  have hi : idxE o E = none := by
    unfold idxE
    rw [List.findIdx?_eq_none_iff]
    intro e he
    simp only [beq_eq_false_iff_ne]
    exact fun e2 => h (List.mem_map.2 ⟨e, he, e2⟩)
  unfold nextS
  rw [hE]
  simp only
  rw [if_pos hS.1, hi]
theorem next_mem {r n : Int} {s : List Int} {op : ByteArray} {x y t : Int} {E : List Eff} (hE : effS r n s op x y t = some E) (hS : Small E) {o : Int} (h : o ∈ E.map (·.1)) : ∃ l b f, nextS r n s op x y t o = some (l, b, f) ∧ ((b = false ∧ f = 1) ∨ (b = true ∧ f = 0 ∧ validS r n l = true ∧ l.length ≤ 100000)) := by
  unfold nextS
  rw [hE]
  simp only
  rw [if_pos hS.1]
  cases hi : idxE o E with
  | none =>
    exfalso
    unfold idxE at hi
    rw [List.findIdx?_eq_none_iff] at hi
    obtain ⟨e, he, e2⟩ := List.mem_map.1 h
    have := hi e he
    simp only [beq_eq_false_iff_ne] at this
    exact this e2
  | some k =>
    have hk := idxE_lt hi
    have hLl : (E.getD k (0, [])).2.length ≤ 100000 := by
      rw [List.getD_eq_getElem?_getD, List.getElem?_eq_getElem hk]
      exact hS.2 _ (List.getElem_mem hk)
    simp only
    rw [if_pos (by omega)]
    by_cases hv : validS r n (E.getD k (0, [])).2 = true
    · rw [if_pos hv]; exact ⟨_, _, _, rfl, .inr ⟨rfl, rfl, hv, hLl⟩⟩
    · rw [if_neg hv]; exact ⟨_, _, _, rfl, .inl ⟨rfl, rfl⟩⟩
def T14 : Bool × List (List Nat × List Nat) := (true, [([], []), ([0], [0]), ([1], [1]), ([2], [2]), ([2], [2]), ([4, 2], [2, 4]), ([3, 5, 2], [2, 3, 5]), ([6, 2], [2, 6]), ([2], [2]), ([2], [2]), ([8, 9, 2], [2, 8, 9]), ([10, 2], [2, 10]), ([7, 11, 2], [2, 7, 11]), ([2, 12], [2, 12]), ([13, 2], [13]), ([14], [14]), ([14], [14]), ([16, 14], [14, 16]), ([15, 17, 14], [14, 15, 17]), ([14, 18], [14, 18]), ([19, 14], [19]), ([20], [20]), ([21, 20, 20], [20, 21]), ([22], [22]), ([22], [22]), ([22], [22]), ([23, 24, 25, 22, 22], [22, 23, 24, 25]), ([26, 22], [22, 26]), ([22, 27, 20], [20, 22, 27]), ([20, 28], [20, 28])])
def B14 : List Nat := [0, 1, 3, 7, 7, 23, 63, 127, 7, 7, 775, 1799, 4095, 8191, 16383, 32767, 32767, 98303, 262143, 524287, 1048575, 2097151, 4194303, 8388607, 8388607, 8388607, 67108863, 134217727, 268435455, 536870911]
theorem tab14 : rtab .any (opsOf Tryz.f9 14) = T14 := by kernel_rfl
theorem bits14 : waitsOk T14.2 B14 = true := by kernel_rfl
theorem walk (r n : Int) (A : Option Addr) (c : Nat) (s : List Int) (op : ByteArray) (x y t q : Int) (w : World) (hr : Rd w A s) (hc : s.length ≤ c) (hl : s.length ≤ 17592186044416) :
    Calls Tryz.prog 9 #[.agg #[.int .i64 r, .int .i64 n, .slice A s.length c, .string op, .int .i64 x, .int .i64 y, .int .i64 t, .int .i64 q]] w fun e w' => e = .returned (.bool true) ∧ Below w.heap.size w w' := by
  have b1 := al1 w (.cells #[.int .i64 r, .int .i64 n, .slice A s.length c, .string op, .int .i64 x, .int .i64 y, .int .i64 t, .int .i64 q] 62 (0, 0))
  have n1 := heap_alloc_new w (.cells #[.int .i64 r, .int .i64 n, .slice A s.length c, .string op, .int .i64 x, .int .i64 y, .int .i64 t, .int .i64 q] 62 (0, 0))
  have k := fun i => Go.Lib.cell_of_heap n1 i
  have k0 := (k 0).trans rfl
  have k1 := (k 1).trans rfl
  have k2 := (k 2).trans rfl
  have k3 := (k 3).trans rfl
  have k4 := (k 4).trans rfl
  have k5 := (k 5).trans rfl
  have k6 := (k 6).trans rfl
  have k7 := (k 7).trans rfl
  have B1 := Aside0.mk b1
  have HR := Aside0.mk hr
  have HC := Aside0.mk hc
  have HL := Aside0.mk hl
  clear k n1 b1 hr hc hl
  obtain ⟨p, hp⟩ : ∃ p, p = (validR r n s && mayR r op x y t) := ⟨_, rfl⟩
  have HP := Aside0.mk hp.symm
  cases p with
  | false =>
    have HE := Aside0.mk (show resultsS r n s op x y t = some ([], 1) from by unfold resultsS; rw [ask_no hp.symm])
    clear hp
    go_enter Tryz.func9, Tryz.ntmps9
    go_wp2
    generalize w.alloc (.cells #[.int .i64 r, .int .i64 n, .slice A s.length c, .string op, .int .i64 x, .int .i64 y, .int .i64 t, .int .i64 q] 62 (0, 0)) = W2 at *
    have d0 : W2.drew.cell? ⟨w.heap.size, 0, none⟩ = some (.int .i64 r) := k0
    have d1 : W2.drew.cell? ⟨w.heap.size, 1, none⟩ = some (.int .i64 n) := k1
    have d2 : W2.drew.cell? ⟨w.heap.size, 2, none⟩ = some (.slice A s.length c) := k2
    have d3 : W2.drew.cell? ⟨w.heap.size, 3, none⟩ = some (.string op) := k3
    have d4 : W2.drew.cell? ⟨w.heap.size, 4, none⟩ = some (.int .i64 x) := k4
    have d5 : W2.drew.cell? ⟨w.heap.size, 5, none⟩ = some (.int .i64 y) := k5
    have d6 : W2.drew.cell? ⟨w.heap.size, 6, none⟩ = some (.int .i64 t) := k6
    have d7 : W2.drew.cell? ⟨w.heap.size, 7, none⟩ = some (.int .i64 q) := k7
    go_region_held3 (fun X => X.cell? ⟨w.heap.size, 0, none⟩ = some (.int .i64 r) ∧ X.cell? ⟨w.heap.size, 1, none⟩ = some (.int .i64 n) ∧ X.cell? ⟨w.heap.size, 2, none⟩ = some (.slice A s.length c) ∧ X.cell? ⟨w.heap.size, 3, none⟩ = some (.string op) ∧ X.cell? ⟨w.heap.size, 4, none⟩ = some (.int .i64 x) ∧ X.cell? ⟨w.heap.size, 5, none⟩ = some (.int .i64 y) ∧ X.cell? ⟨w.heap.size, 6, none⟩ = some (.int .i64 t) ∧ X.cell? ⟨w.heap.size, 7, none⟩ = some (.int .i64 q)) (first | go_keep | exact ⟨d0, d1, d2, d3, d4, d5, d6, d7⟩) (first | fail)
    have n3 := heap_alloc_new W2 (.cells #[.string op, .int .i64 x, .int .i64 y] 24 (0, 0))
    have N3 := Aside0.mk (show ((W2.alloc (.cells #[.string op, .int .i64 x, .int .i64 y] 24 (0, 0))).drew).heap[W2.heap.size]? = some (.cells #[.string op, .int .i64 x, .int .i64 y] 24 (0, 0)) from n3)
    have B3 := Aside0.mk (below_drew1 (B1.out.alloc B1.out.size (.cells #[.string op, .int .i64 x, .int .i64 y] 24 (0, 0))))
    clear n3 d0 k0 d1 k1 d2 k2 d3 k3 d4 k4 d5 k5 d6 k6 d7 k7
    generalize (W2.alloc (.cells #[.string op, .int .i64 x, .int .i64 y] 24 (0, 0))).drew = W3 at *
    generalize W2.heap.size = gb at *
    clear B1
    go_wp2_with (first | (go_at_call 10; refine (awake_calls W3).mono ?_; rintro e w4 ⟨rfl, hb⟩; have n4 := (hb.block _ (blk_lt N3.out)).trans N3.out; have N4 := Aside0.mk n4; have k0 := Go.Lib.cell_of_heap n4 0; have k1 := Go.Lib.cell_of_heap n4 1; have k2 := Go.Lib.cell_of_heap n4 2; simp only [List.getElem?_toArray, List.getElem?_cons_succ, List.getElem?_cons_zero] at k0 k1 k2; have B4 := Aside0.mk (btrans B3.out hb); clear n4 hb) | (go_at_call 21; refine (results_calls A c w4 (HR.out.below B4.out) HC.out HL.out HE.out).mono ?_; rintro e w5 ⟨v, rfl, ho, hb⟩; obtain ⟨A5, c5, rfl⟩ := ho.slice; have HO5 := Aside0.mk ho; have n5 := (hb.block _ (blk_lt N4.out)).trans N4.out; have N5 := Aside0.mk n5; have k0 := Go.Lib.cell_of_heap n5 0; have k1 := Go.Lib.cell_of_heap n5 1; have k2 := Go.Lib.cell_of_heap n5 2; simp only [List.getElem?_toArray, List.getElem?_cons_succ, List.getElem?_cons_zero] at k0 k1 k2; have B5 := Aside0.mk (btrans B4.out hb); clear n5 hb ho) | (go_at_call 12; refine (asked_calls r n A c s op x y t w5 (HR.out.below B5.out) HC.out).mono ?_; rintro e w6 ⟨rfl, hb⟩; have HN5 := HO5.out.below hb; clear HO5; have HO5 := Aside0.mk HN5; clear HN5; have n6 := (hb.block _ (blk_lt N5.out)).trans N5.out; have N6 := Aside0.mk n6; have k0 := Go.Lib.cell_of_heap n6 0; have k1 := Go.Lib.cell_of_heap n6 1; have k2 := Go.Lib.cell_of_heap n6 2; simp only [List.getElem?_toArray, List.getElem?_cons_succ, List.getElem?_cons_zero] at k0 k1 k2; have B6 := Aside0.mk (btrans B5.out hb); rw [HP.out]; clear n6 hb))
    go_ret
    exact ⟨rfl, B6.out⟩
  | true =>
    obtain ⟨E, hE, h69, hasc, hS, hne⟩ := agrees_yes hp.symm
    clear hp
    obtain ⟨L, hL⟩ : ∃ L, L = E.map (·.1) := ⟨_, rfl⟩
    have HE := Aside0.mk (show resultsS r n s op x y t = some (L, 0) from by unfold resultsS; rw [hE]; simp only; rw [if_pos (by have := hS.1; omega), hL])
    have hlp : 0 < L.length := by rw [hL, List.length_map]; exact List.length_pos_iff.2 hne
    have hll : L.length ≤ 100000 := by rw [hL, List.length_map]; exact hS.1
    have hl0b : ((L.length : Int) == 0) = false := by simp; intro h; rw [h] at hlp; simp at hlp
    have HNX := Aside0.mk (fun o (h : o ∈ L) => next_mem hE hS (o := o) (by rw [← hL]; exact h))
    have HQX := Aside0.mk (next_any hE hS q)
    have HQN := Aside0.mk (fun (h : q ∉ L) => next_not hE hS (o := q) (by rw [← hL]; exact h))
    have HASC := Aside0.mk (fun i (h0 : 0 < i) (hi : i < L.length) => (show L.getD (i - 1) 0 < L.getD i 0 from by
      unfold Asc at hasc
      rw [← hL] at hasc
      have := List.pairwise_iff_getElem.1 hasc (i - 1) i (by omega) hi (by omega)
      rw [List.getD_eq_getElem?_getD, List.getD_eq_getElem?_getD, List.getElem?_eq_getElem hi, List.getElem?_eq_getElem (show i - 1 < L.length by omega)]
      exact this))
    have H69 := Aside0.mk (show L.length = 1 ∨ r = 6 ∨ r = 9 from by
      rcases h69 with h | h
      · exact .inl (by rw [hL, List.length_map]; exact h.len)
      · exact .inr h)
    clear hE h69 hasc hS hne hL
    go_enter Tryz.func9, Tryz.ntmps9
    go_wp2
    generalize w.alloc (.cells #[.int .i64 r, .int .i64 n, .slice A s.length c, .string op, .int .i64 x, .int .i64 y, .int .i64 t, .int .i64 q] 62 (0, 0)) = W2 at *
    have d0 : W2.drew.cell? ⟨w.heap.size, 0, none⟩ = some (.int .i64 r) := k0
    have d1 : W2.drew.cell? ⟨w.heap.size, 1, none⟩ = some (.int .i64 n) := k1
    have d2 : W2.drew.cell? ⟨w.heap.size, 2, none⟩ = some (.slice A s.length c) := k2
    have d3 : W2.drew.cell? ⟨w.heap.size, 3, none⟩ = some (.string op) := k3
    have d4 : W2.drew.cell? ⟨w.heap.size, 4, none⟩ = some (.int .i64 x) := k4
    have d5 : W2.drew.cell? ⟨w.heap.size, 5, none⟩ = some (.int .i64 y) := k5
    have d6 : W2.drew.cell? ⟨w.heap.size, 6, none⟩ = some (.int .i64 t) := k6
    have d7 : W2.drew.cell? ⟨w.heap.size, 7, none⟩ = some (.int .i64 q) := k7
    go_region_held3 (fun X => X.cell? ⟨w.heap.size, 0, none⟩ = some (.int .i64 r) ∧ X.cell? ⟨w.heap.size, 1, none⟩ = some (.int .i64 n) ∧ X.cell? ⟨w.heap.size, 2, none⟩ = some (.slice A s.length c) ∧ X.cell? ⟨w.heap.size, 3, none⟩ = some (.string op) ∧ X.cell? ⟨w.heap.size, 4, none⟩ = some (.int .i64 x) ∧ X.cell? ⟨w.heap.size, 5, none⟩ = some (.int .i64 y) ∧ X.cell? ⟨w.heap.size, 6, none⟩ = some (.int .i64 t) ∧ X.cell? ⟨w.heap.size, 7, none⟩ = some (.int .i64 q)) (first | go_keep | exact ⟨d0, d1, d2, d3, d4, d5, d6, d7⟩) (first | fail)
    have n3 := heap_alloc_new W2 (.cells #[.string op, .int .i64 x, .int .i64 y] 24 (0, 0))
    have N3 := Aside0.mk (show ((W2.alloc (.cells #[.string op, .int .i64 x, .int .i64 y] 24 (0, 0))).drew).heap[W2.heap.size]? = some (.cells #[.string op, .int .i64 x, .int .i64 y] 24 (0, 0)) from n3)
    have B3 := Aside0.mk (below_drew1 (B1.out.alloc B1.out.size (.cells #[.string op, .int .i64 x, .int .i64 y] 24 (0, 0))))
    clear n3 d0 k0 d1 k1 d2 k2 d3 k3 d4 k4 d5 k5 d6 k6 d7 k7
    generalize (W2.alloc (.cells #[.string op, .int .i64 x, .int .i64 y] 24 (0, 0))).drew = W3 at *
    generalize W2.heap.size = gb at *
    clear B1
    go_wp2_with (first | (go_at_call 10; refine (awake_calls W3).mono ?_; rintro e w4 ⟨rfl, hb⟩; have n4 := (hb.block _ (blk_lt N3.out)).trans N3.out; have N4 := Aside0.mk n4; have k0 := Go.Lib.cell_of_heap n4 0; have k1 := Go.Lib.cell_of_heap n4 1; have k2 := Go.Lib.cell_of_heap n4 2; simp only [List.getElem?_toArray, List.getElem?_cons_succ, List.getElem?_cons_zero] at k0 k1 k2; have B4 := Aside0.mk (btrans B3.out hb); clear n4 hb) | (go_at_call 21; refine (results_calls A c w4 (HR.out.below B4.out) HC.out HL.out HE.out).mono ?_; rintro e w5 ⟨v, rfl, ho, hb⟩; obtain ⟨A5, c5, rfl⟩ := ho.slice; have HO5 := Aside0.mk ho; have n5 := (hb.block _ (blk_lt N4.out)).trans N4.out; have N5 := Aside0.mk n5; have k0 := Go.Lib.cell_of_heap n5 0; have k1 := Go.Lib.cell_of_heap n5 1; have k2 := Go.Lib.cell_of_heap n5 2; simp only [List.getElem?_toArray, List.getElem?_cons_succ, List.getElem?_cons_zero] at k0 k1 k2; have B5 := Aside0.mk (btrans B4.out hb); clear n5 hb ho))
    have HRL := Aside0.mk HO5.out.rd
    obtain ⟨K, hK⟩ : ∃ K, K = L.length := ⟨_, rfl⟩
    go_loopg [11, 12] L.length (fun gg v11 v12 wr => ∃ i : Nat, i ≤ L.length ∧ L.length - i ≤ gg ∧ v12 = .int .i64 i ∧ v11 = .bool ((L.take i).any (fun z => z == q)) ∧ Aside0 (wr.heap[gb]? = some (.cells #[.string op, .int .i64 x, .int .i64 y] 24 (0, 0))) ∧ Aside0 (Below w.heap.size w wr) ∧ Aside0 (Rd wr A5 L))
    case atStart => exact ⟨0, by omega, by omega, rfl, rfl, N5, B5, HRL⟩
    case round =>
      clear B3 N3 B4 N4 B5 N5 k0 k1 k2 HRL HO5
      obtain ⟨i, hi, hgg, rfl, hv, N3, B3, HRL⟩ := hrel
      subst hv
      by_cases hlt : i < L.length
      · have hii : (i : Int) < (L.length : Int) := by omega
        obtain ⟨o, ho⟩ : ∃ o, o = L.getD i 0 := ⟨_, rfl⟩
        have hmem : o ∈ L := by rw [ho, List.getD_eq_getElem?_getD, List.getElem?_eq_getElem hlt]; exact List.getElem_mem hlt
        obtain ⟨l1, b1, f1, hn, hbf⟩ := HNX.out o hmem
        have HAN := Aside0.mk (show (L.take (i + 1)).any (fun z => z == q) = ((L.take i).any (fun z => z == q) || (o == q)) from by
          rw [List.take_add_one, List.any_append, List.getElem?_eq_getElem hlt]
          rw [ho, List.getD_eq_getElem?_getD, List.getElem?_eq_getElem hlt]
          simp)
        obtain ⟨ad, rfl, hc⟩ := HRL.out.at i hlt
        rw [← ho] at hc
        have HEN := Aside0.mk hn
        have HOO := Aside0.mk ho
        clear hn hmem ho
        generalize (L.take i).any (fun z => z == q) = fd at *
        obtain ⟨oq, hoq⟩ : ∃ oq, (o == q) = oq := ⟨_, rfl⟩
        rw [hoq] at HAN
        have n3 := N3.out; have k0 := Go.Lib.cell_of_heap n3 0; have k1 := Go.Lib.cell_of_heap n3 1; have k2 := Go.Lib.cell_of_heap n3 2; simp only [List.getElem?_toArray, List.getElem?_cons_succ, List.getElem?_cons_zero] at k0 k1 k2; clear n3
        have B3 := Aside0.mk (below_drew1 B3.out)
        have N3 := Aside0.mk (show wr.drew.heap[gb]? = some (.cells #[.string op, .int .i64 x, .int .i64 y] 24 (0, 0)) from N3.out)
        have HR3 := Aside0.mk (show Rd wr.drew (some ad) L from HRL.out)
        clear HRL
        by_cases h0 : 0 < i
        · have HPO := Aside0.mk (HASC.out i h0 hlt)
          obtain ⟨j, hj⟩ : ∃ j, j = i - 1 := ⟨_, rfl⟩
          obtain ⟨adp, ep, hcp⟩ := HR3.out.at j (by omega)
          injection ep with ep
          subst ep
          obtain ⟨p, hpp⟩ : ∃ p, p = L.getD j 0 := ⟨_, rfl⟩
          rw [← hpp] at hcp
          have hlo : ¬ p ≥ o := by
            have := HPO.out
            rw [← HOO.out, ← hj, ← hpp] at this
            omega
          have hwm : IntKind.i64.wrap ((i : Int) - 1) = (j : Int) := (IntWalk.i64_in _ (by omega)).trans (by omega)
          have hjl : (j : Int) < (L.length : Int) := by omega
          have h0i : (0 : Int) < (i : Int) := by omega
          clear hpp hj
          cases fd
          all_goals (
            rcases hbf with ⟨rfl, rfl⟩ | ⟨rfl, rfl, hvv, hl1⟩
            · go_wp2
              go_region_held3 (fun X => X.cell? ⟨gb, 0, none⟩ = some (.string op) ∧ X.cell? ⟨gb, 1, none⟩ = some (.int .i64 x) ∧ X.cell? ⟨gb, 2, none⟩ = some (.int .i64 y) ∧ X.cell? (ad.add i) = some (.int .i64 o)) (first | go_keep | exact ⟨k0, k1, k2, hc⟩) (first | (go_at_call 26; refine (next_calls A c wr.drew (HR.out.below B3.out) HC.out HL.out HEN.out).mono ?_; rintro e w4 ⟨v, rfl, ho, hb⟩; obtain ⟨A4, c4, rfl⟩ := ho.slice; have HO4 := Aside0.mk ho; have n4 := (hb.block _ (blk_lt N3.out)).trans N3.out; have N4 := Aside0.mk n4; have k0 := Go.Lib.cell_of_heap n4 0; have k1 := Go.Lib.cell_of_heap n4 1; have k2 := Go.Lib.cell_of_heap n4 2; simp only [List.getElem?_toArray, List.getElem?_cons_succ, List.getElem?_cons_zero] at k0 k1 k2; have B4 := Aside0.mk (btrans B3.out hb); have hc := (hb.cell (World.block_lt_of_cell? wr.drew _ hc)).trans hc; have hcp := (hb.cell (World.block_lt_of_cell? wr.drew _ hcp)).trans hcp; have HR4 := Aside0.mk (HR3.out.below hb); clear n4 hb ho))
              go_wp2
              have hge : ¬ o ≤ p := by omega
              have hgd : decide (o ≤ p) = false := decide_eq_false hge
              refine wp_region_quiet_lit (by kernel_rfl) (by kernel_rfl) ?_
              repeat (with_reducible refine wpQuiet_step (fun K hK => ?_); go_simp; (try (rw [if_neg ?hn]; (case hn => simp [undef]))); first | (with_reducible refine hK _ ?_; clear hK K) | (apply Exists.intro; refine ⟨fun _ => ?_, hK _ ?_⟩; (fail); clear hK K))
              with_reducible refine wpQuiet_nil ?_
              intro _ hw'
              obtain ⟨nq, hw''⟩ := hw'
              subst hw''
              all_goals (
                go_wp2
                go_roundg (L.length - (i + 1))
                case measure => omega
                case rel => exact ⟨i + 1, by omega, by omega, by go_num, by rw [HAN.out]; first | rfl | simp, ⟨N4.out⟩, ⟨pw_below_drewN B4.out _⟩, ⟨HR4.out⟩⟩)
            · have HVV := Aside0.mk hvv
              have HLL := Aside0.mk (show l1.length ≤ 17592186044416 by omega)
              clear hvv hl1
              go_wp2
              go_region_held3 (fun X => X.cell? ⟨gb, 0, none⟩ = some (.string op) ∧ X.cell? ⟨gb, 1, none⟩ = some (.int .i64 x) ∧ X.cell? ⟨gb, 2, none⟩ = some (.int .i64 y) ∧ X.cell? (ad.add i) = some (.int .i64 o)) (first | go_keep | exact ⟨k0, k1, k2, hc⟩) (first | (go_at_call 26; refine (next_calls A c wr.drew (HR.out.below B3.out) HC.out HL.out HEN.out).mono ?_; rintro e w4 ⟨v, rfl, ho, hb⟩; obtain ⟨A4, c4, rfl⟩ := ho.slice; have HO4 := Aside0.mk ho; have n4 := (hb.block _ (blk_lt N3.out)).trans N3.out; have N4 := Aside0.mk n4; have k0 := Go.Lib.cell_of_heap n4 0; have k1 := Go.Lib.cell_of_heap n4 1; have k2 := Go.Lib.cell_of_heap n4 2; simp only [List.getElem?_toArray, List.getElem?_cons_succ, List.getElem?_cons_zero] at k0 k1 k2; have B4 := Aside0.mk (btrans B3.out hb); have hc := (hb.cell (World.block_lt_of_cell? wr.drew _ hc)).trans hc; have hcp := (hb.cell (World.block_lt_of_cell? wr.drew _ hcp)).trans hcp; have HR4 := Aside0.mk (HR3.out.below hb); clear n4 hb ho))
              go_wp2
              have hge : ¬ o ≤ p := by omega
              have hgd : decide (o ≤ p) = false := decide_eq_false hge
              first
                | go_region_held3 (fun X => X.cell? (ad.add i) = some (.int .i64 o) ∧ X.cell? (ad.add j) = some (.int .i64 p)) (first | go_keep | exact ⟨hc, hcp⟩) (first | (go_at_call 24; refine (valid_calls r n A4 c4 l1 w4.drew (show Rd w4.drew A4 l1 from HO4.out.rd) (own_cap HO4.out) HLL.out).mono ?_; rintro e w5 ⟨rfl, hb⟩; rw [HVV.out]; have hc := (hb.cell (World.block_lt_of_cell? w4.drew _ hc)).trans hc; have hcp := (hb.cell (World.block_lt_of_cell? w4.drew _ hcp)).trans hcp; have n5 := (hb.block _ (blk_lt N4.out)).trans N4.out; have N5 := Aside0.mk n5; have B5 := Aside0.mk (btrans (below_drew1 B4.out) hb); have HR5 := Aside0.mk ((show Rd w4.drew (some ad) L from HR4.out).below hb); clear n5 hb))
                | fail
              all_goals (
                go_wp2
                go_roundg (L.length - (i + 1))
                case measure => omega
                case rel => exact ⟨i + 1, by omega, by omega, by go_num, by rw [HAN.out]; first | rfl | simp, N5, B5, HR5⟩))
        · obtain rfl : i = 0 := by omega
          rw [show ad.add 0 = ad from by simp [Addr.add]] at hc
          clear h0
          cases fd
          all_goals (
            rcases hbf with ⟨rfl, rfl⟩ | ⟨rfl, rfl, hvv, hl1⟩
            · go_wp2
              go_region_held3 (fun X => X.cell? ⟨gb, 0, none⟩ = some (.string op) ∧ X.cell? ⟨gb, 1, none⟩ = some (.int .i64 x) ∧ X.cell? ⟨gb, 2, none⟩ = some (.int .i64 y) ∧ X.cell? ad = some (.int .i64 o)) (first | go_keep | exact ⟨k0, k1, k2, hc⟩) (first | (go_at_call 26; refine (next_calls A c wr.drew (HR.out.below B3.out) HC.out HL.out HEN.out).mono ?_; rintro e w4 ⟨v, rfl, ho, hb⟩; obtain ⟨A4, c4, rfl⟩ := ho.slice; have HO4 := Aside0.mk ho; have n4 := (hb.block _ (blk_lt N3.out)).trans N3.out; have N4 := Aside0.mk n4; have k0 := Go.Lib.cell_of_heap n4 0; have k1 := Go.Lib.cell_of_heap n4 1; have k2 := Go.Lib.cell_of_heap n4 2; simp only [List.getElem?_toArray, List.getElem?_cons_succ, List.getElem?_cons_zero] at k0 k1 k2; have B4 := Aside0.mk (btrans B3.out hb); have hc := (hb.cell (World.block_lt_of_cell? wr.drew _ hc)).trans hc;  have HR4 := Aside0.mk (HR3.out.below hb); clear n4 hb ho))
              go_wp2
              refine wp_region_quiet_lit (by kernel_rfl) (by kernel_rfl) ?_
              repeat (with_reducible refine wpQuiet_step (fun K hK => ?_); go_simp; (try (rw [if_neg ?hn]; (case hn => simp [undef]))); first | (with_reducible refine hK _ ?_; clear hK K) | (apply Exists.intro; refine ⟨fun _ => ?_, hK _ ?_⟩; (fail); clear hK K))
              with_reducible refine wpQuiet_nil ?_
              intro _ hw'
              obtain ⟨nq, hw''⟩ := hw'
              subst hw''
              all_goals (
                go_wp2
                go_roundg (L.length - (0 + 1))
                case measure => omega
                case rel => exact ⟨0 + 1, by omega, by omega, by go_num, by rw [HAN.out]; first | rfl | simp, ⟨N4.out⟩, ⟨pw_below_drewN B4.out _⟩, ⟨HR4.out⟩⟩)
            · have HVV := Aside0.mk hvv
              have HLL := Aside0.mk (show l1.length ≤ 17592186044416 by omega)
              clear hvv hl1
              go_wp2
              go_region_held3 (fun X => X.cell? ⟨gb, 0, none⟩ = some (.string op) ∧ X.cell? ⟨gb, 1, none⟩ = some (.int .i64 x) ∧ X.cell? ⟨gb, 2, none⟩ = some (.int .i64 y) ∧ X.cell? ad = some (.int .i64 o)) (first | go_keep | exact ⟨k0, k1, k2, hc⟩) (first | (go_at_call 26; refine (next_calls A c wr.drew (HR.out.below B3.out) HC.out HL.out HEN.out).mono ?_; rintro e w4 ⟨v, rfl, ho, hb⟩; obtain ⟨A4, c4, rfl⟩ := ho.slice; have HO4 := Aside0.mk ho; have n4 := (hb.block _ (blk_lt N3.out)).trans N3.out; have N4 := Aside0.mk n4; have k0 := Go.Lib.cell_of_heap n4 0; have k1 := Go.Lib.cell_of_heap n4 1; have k2 := Go.Lib.cell_of_heap n4 2; simp only [List.getElem?_toArray, List.getElem?_cons_succ, List.getElem?_cons_zero] at k0 k1 k2; have B4 := Aside0.mk (btrans B3.out hb); have hc := (hb.cell (World.block_lt_of_cell? wr.drew _ hc)).trans hc;  have HR4 := Aside0.mk (HR3.out.below hb); clear n4 hb ho))
              go_wp2
              refine start_ (n := 30) (S := fun _ => True) (ds := []) #[false, false, false, false, false, false, false, false, false, false, false, false, false, false, false, false, false, false, false, false, false, false, false, false, false, false, false, false, false, false] (by kernel_rfl) rfl rfl trivial (fun hHeld => ?_); refine with_tabW tab14 bits14 (fun HT_ HW_ => ?_)
              refine pure_ (i := 0) (N := some 78) (v := ?_) (a' := ?_) #[true, false, false, false, false, false, false, false, false, false, false, false, false, false, false, false, false, false, false, false, false, false, false, false, false, false, false, false, false, false] rfl rfl (any_of HT_.out (by kernel_rfl)) (fun _ _ _ h => h) (Or.inl ⟨by rfl, ?_⟩) ?_ ?_
              rotate_left
              · intro w'
                go_simp
                with_reducible rfl
              rotate_left
              · simp only [Act.put, List.setIfInBounds_toArray, List.set_cons_zero, List.set_cons_succ, i64_w, i32_w]
                rfl
              refine pure_ (i := 1) (N := some 79) (v := ?_) (a' := ?_) #[true, true, false, false, false, false, false, false, false, false, false, false, false, false, false, false, false, false, false, false, false, false, false, false, false, false, false, false, false, false] rfl rfl (any_of HT_.out (by kernel_rfl)) (fun _ _ _ h => h) (Or.inl ⟨by rfl, ?_⟩) ?_ ?_
              rotate_left
              · intro w'
                go_simp
                with_reducible rfl
              rotate_left
              · simp only [Act.put, List.setIfInBounds_toArray, List.set_cons_zero, List.set_cons_succ, i64_w, i32_w]
                rfl
              refine pure_ (i := 2) (N := some 80) (v := ?_) (a' := ?_) #[true, true, true, false, false, false, false, false, false, false, false, false, false, false, false, false, false, false, false, false, false, false, false, false, false, false, false, false, false, false] rfl rfl (any_of HT_.out (by kernel_rfl)) (fun _ _ _ h => h) (Or.inl ⟨by rfl, ?_⟩) ?_ ?_
              rotate_left
              · intro w'
                go_simp
                with_reducible rfl
              rotate_left
              · simp only [Act.put, List.setIfInBounds_toArray, List.set_cons_zero, List.set_cons_succ, i64_w, i32_w]
                rfl
              refine pure_ (i := 3) (N := some 81) (v := undef) (a' := ?_) #[true, true, true, true, false, false, false, false, false, false, false, false, false, false, false, false, false, false, false, false, false, false, false, false, false, false, false, false, false, false] rfl rfl (any_of HT_.out (by kernel_rfl)) (fun _ _ _ h => h) (Or.inr ⟨by rfl, rfl⟩) ?_ ?_
              rotate_left
              · simp only [Act.put, List.setIfInBounds_toArray, List.set_cons_zero, List.set_cons_succ, i64_w, i32_w]
                rfl
              refine pure_ (i := 4) (N := some 82) (v := undef) (a' := ?_) #[true, true, true, true, true, false, false, false, false, false, false, false, false, false, false, false, false, false, false, false, false, false, false, false, false, false, false, false, false, false] rfl rfl (any_of HT_.out (by kernel_rfl)) (fun _ _ _ h => h) (Or.inr ⟨by rfl, rfl⟩) ?_ ?_
              rotate_left
              · simp only [Act.put, List.setIfInBounds_toArray, List.set_cons_zero, List.set_cons_succ, i64_w, i32_w]
                rfl
              refine pure_ (i := 5) (N := some 83) (v := undef) (a' := ?_) #[true, true, true, true, true, true, false, false, false, false, false, false, false, false, false, false, false, false, false, false, false, false, false, false, false, false, false, false, false, false] rfl rfl (any_of HT_.out (by kernel_rfl)) (fun _ _ _ h => h) (Or.inr ⟨by rfl, rfl⟩) ?_ ?_
              rotate_left
              · simp only [Act.put, List.setIfInBounds_toArray, List.set_cons_zero, List.set_cons_succ, i64_w, i32_w]
                rfl
              refine pure_ (i := 6) (N := some 84) (v := undef) (a' := ?_) #[true, true, true, true, true, true, true, false, false, false, false, false, false, false, false, false, false, false, false, false, false, false, false, false, false, false, false, false, false, false] rfl rfl (any_of HT_.out (by kernel_rfl)) (fun _ _ _ h => h) (Or.inr ⟨by rfl, rfl⟩) ?_ ?_
              rotate_left
              · simp only [Act.put, List.setIfInBounds_toArray, List.set_cons_zero, List.set_cons_succ, i64_w, i32_w]
                rfl
              refine pure_ (i := 7) (N := some 85) (v := undef) (a' := ?_) #[true, true, true, true, true, true, true, true, false, false, false, false, false, false, false, false, false, false, false, false, false, false, false, false, false, false, false, false, false, false] rfl rfl (any_of HT_.out (by kernel_rfl)) (fun _ _ _ h => h) (Or.inr ⟨by rfl, rfl⟩) ?_ ?_
              rotate_left
              · simp only [Act.put, List.setIfInBounds_toArray, List.set_cons_zero, List.set_cons_succ, i64_w, i32_w]
                rfl
              refine pure_ (i := 8) (N := some 86) (v := undef) (a' := ?_) #[true, true, true, true, true, true, true, true, true, false, false, false, false, false, false, false, false, false, false, false, false, false, false, false, false, false, false, false, false, false] rfl rfl (any_of HT_.out (by kernel_rfl)) (fun _ _ _ h => h) (Or.inr ⟨by rfl, rfl⟩) ?_ ?_
              rotate_left
              · simp only [Act.put, List.setIfInBounds_toArray, List.set_cons_zero, List.set_cons_succ, i64_w, i32_w]
                rfl
              refine pure_ (i := 9) (N := some 87) (v := undef) (a' := ?_) #[true, true, true, true, true, true, true, true, true, true, false, false, false, false, false, false, false, false, false, false, false, false, false, false, false, false, false, false, false, false] rfl rfl (any_of HT_.out (by kernel_rfl)) (fun _ _ _ h => h) (Or.inr ⟨by rfl, rfl⟩) ?_ ?_
              rotate_left
              · simp only [Act.put, List.setIfInBounds_toArray, List.set_cons_zero, List.set_cons_succ, i64_w, i32_w]
                rfl
              refine pure_ (i := 10) (N := some 88) (v := undef) (a' := ?_) #[true, true, true, true, true, true, true, true, true, true, true, false, false, false, false, false, false, false, false, false, false, false, false, false, false, false, false, false, false, false] rfl rfl (any_of HT_.out (by kernel_rfl)) (fun _ _ _ h => h) (Or.inr ⟨by rfl, rfl⟩) ?_ ?_
              rotate_left
              · simp only [Act.put, List.setIfInBounds_toArray, List.set_cons_zero, List.set_cons_succ, i64_w, i32_w]
                rfl
              refine pure_ (i := 11) (N := some 89) (v := undef) (a' := ?_) #[true, true, true, true, true, true, true, true, true, true, true, true, false, false, false, false, false, false, false, false, false, false, false, false, false, false, false, false, false, false] rfl rfl (any_of HT_.out (by kernel_rfl)) (fun _ _ _ h => h) (Or.inr ⟨by rfl, rfl⟩) ?_ ?_
              rotate_left
              · simp only [Act.put, List.setIfInBounds_toArray, List.set_cons_zero, List.set_cons_succ, i64_w, i32_w]
                rfl
              refine pure_ (i := 12) (N := some 90) (v := undef) (a' := ?_) #[true, true, true, true, true, true, true, true, true, true, true, true, true, false, false, false, false, false, false, false, false, false, false, false, false, false, false, false, false, false] rfl rfl (any_of HT_.out (by kernel_rfl)) (fun _ _ _ h => h) (Or.inr ⟨by rfl, rfl⟩) ?_ ?_
              rotate_left
              · simp only [Act.put, List.setIfInBounds_toArray, List.set_cons_zero, List.set_cons_succ, i64_w, i32_w]
                rfl
              refine pure_ (i := 13) (N := some 91) (v := ?_) (a' := ?_) #[true, true, true, true, true, true, true, true, true, true, true, true, true, true, false, false, false, false, false, false, false, false, false, false, false, false, false, false, false, false] rfl rfl (any_of HT_.out (by kernel_rfl)) (fun _ _ _ h => h) (Or.inl ⟨by rfl, ?_⟩) ?_ ?_
              rotate_left
              · intro w'
                go_simp
                with_reducible rfl
              rotate_left
              · simp only [Act.put, List.setIfInBounds_toArray, List.set_cons_zero, List.set_cons_succ, i64_w, i32_w]
                rfl
              refine pure_ (i := 14) (N := some 92) (v := ?_) (a' := ?_) #[true, true, true, true, true, true, true, true, true, true, true, true, true, true, true, false, false, false, false, false, false, false, false, false, false, false, false, false, false, false] rfl rfl (any_of HT_.out (by kernel_rfl)) (fun _ _ _ h => h) (Or.inl ⟨by rfl, ?_⟩) ?_ ?_
              rotate_left
              · intro w'
                go_simp
                with_reducible rfl
              rotate_left
              · simp only [Act.put, List.setIfInBounds_toArray, List.set_cons_zero, List.set_cons_succ, i64_w, i32_w]
                rfl
              refine pure_ (i := 15) (N := some 93) (v := ?_) (a' := ?_) #[true, true, true, true, true, true, true, true, true, true, true, true, true, true, true, true, false, false, false, false, false, false, false, false, false, false, false, false, false, false] rfl rfl (any_of HT_.out (by kernel_rfl)) (fun _ _ _ h => h) (Or.inl ⟨by rfl, ?_⟩) ?_ ?_
              rotate_left
              · intro w'
                go_simp
                with_reducible rfl
              rotate_left
              · simp only [Act.put, List.setIfInBounds_toArray, List.set_cons_zero, List.set_cons_succ, i64_w, i32_w]
                rfl
              refine pure_ (i := 16) (N := some 94) (v := ?_) (a' := ?_) #[true, true, true, true, true, true, true, true, true, true, true, true, true, true, true, true, true, false, false, false, false, false, false, false, false, false, false, false, false, false] rfl rfl (any_of HT_.out (by kernel_rfl)) (fun _ _ _ h => h) (Or.inl ⟨by rfl, ?_⟩) ?_ ?_
              rotate_left
              · intro w'
                go_simp
                with_reducible rfl
              rotate_left
              · simp only [Act.put, List.setIfInBounds_toArray, List.set_cons_zero, List.set_cons_succ, i64_w, i32_w]
                rfl
              refine pure_ (i := 17) (N := some 95) (v := ?_) (a' := ?_) #[true, true, true, true, true, true, true, true, true, true, true, true, true, true, true, true, true, true, false, false, false, false, false, false, false, false, false, false, false, false] rfl rfl (any_of HT_.out (by kernel_rfl)) (fun _ _ _ h => h) (Or.inl ⟨by rfl, ?_⟩) ?_ ?_
              rotate_left
              · intro w'
                go_simp
                with_reducible rfl
              rotate_left
              · simp only [Act.put, List.setIfInBounds_toArray, List.set_cons_zero, List.set_cons_succ, i64_w, i32_w]
                rfl
              refine pure_ (i := 18) (N := some 96) (v := ?_) (a' := ?_) #[true, true, true, true, true, true, true, true, true, true, true, true, true, true, true, true, true, true, true, false, false, false, false, false, false, false, false, false, false, false] rfl rfl (any_of HT_.out (by kernel_rfl)) (fun _ _ _ h => h) (Or.inl ⟨by rfl, ?_⟩) ?_ ?_
              rotate_left
              · intro w'
                go_simp
                with_reducible rfl
              rotate_left
              · simp only [Act.put, List.setIfInBounds_toArray, List.set_cons_zero, List.set_cons_succ, i64_w, i32_w]
                rfl
              refine pure_ (i := 19) (N := some 97) (v := ?_) (a' := ?_) #[true, true, true, true, true, true, true, true, true, true, true, true, true, true, true, true, true, true, true, true, false, false, false, false, false, false, false, false, false, false] rfl rfl (any_of HT_.out (by kernel_rfl)) (fun _ _ _ h => h) (Or.inl ⟨by rfl, ?_⟩) ?_ ?_
              rotate_left
              · intro w'
                go_simp
                with_reducible rfl
              rotate_left
              · simp only [Act.put, List.setIfInBounds_toArray, List.set_cons_zero, List.set_cons_succ, i64_w, i32_w]
                rfl
              refine pure_ (i := 20) (N := some 98) (v := ?_) (a' := ?_) #[true, true, true, true, true, true, true, true, true, true, true, true, true, true, true, true, true, true, true, true, true, false, false, false, false, false, false, false, false, false] rfl rfl (any_of HT_.out (by kernel_rfl)) (fun _ _ _ h => h) (Or.inl ⟨by rfl, ?_⟩) ?_ ?_
              rotate_left
              · intro w'
                go_simp
                with_reducible rfl
              rotate_left
              · simp only [Act.put, List.setIfInBounds_toArray, List.set_cons_zero, List.set_cons_succ, i64_w, i32_w]
                rfl
              refine pure_ (i := 21) (N := some 99) (v := ?_) (a' := ?_) #[true, true, true, true, true, true, true, true, true, true, true, true, true, true, true, true, true, true, true, true, true, true, false, false, false, false, false, false, false, false] rfl rfl (any_of HT_.out (by kernel_rfl)) (fun _ _ _ h => h) (Or.inl ⟨by rfl, ?_⟩) ?_ ?_
              rotate_left
              · intro w'
                go_simp
                with_reducible rfl
              rotate_left
              · simp only [Act.put, List.setIfInBounds_toArray, List.set_cons_zero, List.set_cons_succ, i64_w, i32_w]
                rfl
              refine pure_ (i := 22) (N := some 100) (v := ?_) (a' := ?_) #[true, true, true, true, true, true, true, true, true, true, true, true, true, true, true, true, true, true, true, true, true, true, true, false, false, false, false, false, false, false] rfl rfl (any_of HT_.out (by kernel_rfl)) (fun _ _ _ h => h) (Or.inl ⟨by rfl, ?_⟩) ?_ ?_
              rotate_left
              · intro w'
                go_simp
                with_reducible rfl
              rotate_left
              · simp only [Act.put, List.setIfInBounds_toArray, List.set_cons_zero, List.set_cons_succ, i64_w, i32_w]
                rfl
              refine pure_ (i := 23) (N := some 101) (v := ?_) (a' := ?_) #[true, true, true, true, true, true, true, true, true, true, true, true, true, true, true, true, true, true, true, true, true, true, true, true, false, false, false, false, false, false] rfl rfl (any_of HT_.out (by kernel_rfl)) (fun _ _ _ h => h) (Or.inl ⟨by rfl, ?_⟩) ?_ ?_
              rotate_left
              · intro w'
                go_simp
                with_reducible rfl
              rotate_left
              · simp only [Act.put, List.setIfInBounds_toArray, List.set_cons_zero, List.set_cons_succ, i64_w, i32_w]
                rfl
              refine pure_ (i := 24) (N := some 102) (v := ?_) (a' := ?_) #[true, true, true, true, true, true, true, true, true, true, true, true, true, true, true, true, true, true, true, true, true, true, true, true, true, false, false, false, false, false] rfl rfl (any_of HT_.out (by kernel_rfl)) (fun _ _ _ h => h) (Or.inl ⟨by rfl, ?_⟩) ?_ ?_
              rotate_left
              · intro w'
                go_simp
                with_reducible rfl
              rotate_left
              · simp only [Act.put, List.setIfInBounds_toArray, List.set_cons_zero, List.set_cons_succ, i64_w, i32_w]
                rfl
              refine pure_ (i := 25) (N := some 103) (v := ?_) (a' := ?_) #[true, true, true, true, true, true, true, true, true, true, true, true, true, true, true, true, true, true, true, true, true, true, true, true, true, true, false, false, false, false] rfl rfl (any_of HT_.out (by kernel_rfl)) (fun _ _ _ h => h) (Or.inl ⟨by rfl, ?_⟩) ?_ ?_
              rotate_left
              · intro w'
                go_simp
                with_reducible rfl
              rotate_left
              · simp only [Act.put, List.setIfInBounds_toArray, List.set_cons_zero, List.set_cons_succ, i64_w, i32_w]
                rfl
              refine one_ (i := 26) (N := some 104) #[true, true, true, true, true, true, true, true, true, true, true, true, true, true, true, true, true, true, true, true, true, true, true, true, true, true, true, false, false, false] rfl rfl (one_of HT_.out (by kernel_rfl)) (by decide) (fun K hK => ?_)
              refine goes_ Tryz.func24 (by kernel_rfl) rfl #[.int .i64 r, .int .i64 n, .slice A4 l1.length c4] (by rfl) rfl rfl (by (try simp only [List.map_toArray, List.map_cons, List.map_nil]); first | done | rfl) ?_
              refine (valid_calls r n A4 c4 l1 w4.drew (show Rd w4.drew A4 l1 from HO4.out.rd) (own_cap HO4.out) HLL.out).mono ?_
              rintro e w5 ⟨rfl, hb⟩
              rw [HVV.out]
              refine ⟨_, rfl, ?_⟩
              have n5 := (hb.block _ (blk_lt N4.out)).trans N4.out
              have N5 := Aside0.mk n5
              have B5 := Aside0.mk (btrans (below_drew1 B4.out) hb)
              have HR5 := Aside0.mk ((show Rd w4.drew (some ad) L from HR4.out).below hb)
              replace hc := (hb.cell (World.block_lt_of_cell? w4.drew _ hc)).trans hc
              clear n5 hb
              refine hK.out _ _ trivial (fun hHeld => ?_)
              clear hK K
              refine norm_ (a' := ?_) ?_ ?_
              rotate_left
              · show Act.put _ (some 104) _ = _
                simp only [Act.put, List.setIfInBounds_toArray, List.set_cons_zero, List.set_cons_succ, i64_w, i32_w]
                rfl
              refine pure_ (i := 27) (N := some 105) (v := ?_) (a' := ?_) #[true, true, true, true, true, true, true, true, true, true, true, true, true, true, true, true, true, true, true, true, true, true, true, true, true, true, true, true, false, false] rfl rfl (any_of HT_.out (by kernel_rfl)) (fun _ _ _ h => h) (Or.inl ⟨by rfl, ?_⟩) ?_ ?_
              rotate_left
              · intro w'
                go_simp
                with_reducible rfl
              rotate_left
              · simp only [Act.put, List.setIfInBounds_toArray, List.set_cons_zero, List.set_cons_succ, i64_w, i32_w]
                rfl
              refine pure_ (i := 28) (N := some 106) (v := ?_) (a' := ?_) #[true, true, true, true, true, true, true, true, true, true, true, true, true, true, true, true, true, true, true, true, true, true, true, true, true, true, true, true, true, false] rfl rfl (any_of HT_.out (by kernel_rfl)) (fun _ _ _ h => h) (Or.inl ⟨by rfl, ?_⟩) ?_ ?_
              rotate_left
              · intro w'
                go_simp
                with_reducible rfl
              rotate_left
              · simp only [Act.put, List.setIfInBounds_toArray, List.set_cons_zero, List.set_cons_succ, i64_w, i32_w]
                rfl
              refine pure_ (i := 29) (N := some 107) (v := ?_) (a' := ?_) #[true, true, true, true, true, true, true, true, true, true, true, true, true, true, true, true, true, true, true, true, true, true, true, true, true, true, true, true, true, true] rfl rfl (any_of HT_.out (by kernel_rfl)) (fun _ _ _ h => h) (Or.inl ⟨by rfl, ?_⟩) ?_ ?_
              rotate_left
              · intro w'
                go_simp
                with_reducible rfl
              rotate_left
              · simp only [Act.put, List.setIfInBounds_toArray, List.set_cons_zero, List.set_cons_succ, i64_w, i32_w]
                rfl
              refine done_ (done_of HT_.out (by kernel_rfl)) ?_
              all_goals (
                go_wp2
                go_roundg (L.length - (0 + 1))
                case measure => omega
                case rel => exact ⟨0 + 1, by omega, by omega, by go_num, by rw [HAN.out]; first | rfl | simp, N5, B5, HR5⟩))
      · have hii : ¬ (i : Int) < (L.length : Int) := by omega
        have hfd : (L.take i).any (fun z => z == q) = L.any (fun z => z == q) := by rw [List.take_of_length_le (by omega)]
        rw [hfd]
        have n3 := N3.out; have k0 := Go.Lib.cell_of_heap n3 0; have k1 := Go.Lib.cell_of_heap n3 1; have k2 := Go.Lib.cell_of_heap n3 2; simp only [List.getElem?_toArray, List.getElem?_cons_succ, List.getElem?_cons_zero] at k0 k1 k2; clear n3
        cases hfa : L.any (fun z => z == q) with
        | true =>
          obtain ⟨l1, b1, f1, hn⟩ := HQX.out
          have HEN := Aside0.mk hn
          clear hn hfa
          rcases H69.out with h1 | rfl | rfl
          · by_cases h6 : r = 6
            · subst h6
              go_wp2_with (first | (go_at_call 26; refine (next_calls A c wr (HR.out.below B3.out) HC.out HL.out HEN.out).mono ?_; rintro e w4 ⟨v, rfl, ho, hb⟩; obtain ⟨A4, c4, rfl⟩ := ho.slice; have HO4 := Aside0.mk ho; have n4 := (hb.block _ (blk_lt N3.out)).trans N3.out; have N4 := Aside0.mk n4; have k0 := Go.Lib.cell_of_heap n4 0; have k1 := Go.Lib.cell_of_heap n4 1; have k2 := Go.Lib.cell_of_heap n4 2; simp only [List.getElem?_toArray, List.getElem?_cons_succ, List.getElem?_cons_zero] at k0 k1 k2; have B4 := Aside0.mk (btrans B3.out hb); clear n4 hb ho))
              go_ret
              exact ⟨rfl, B4.out⟩
            · by_cases h9 : r = 9
              · subst h9
                go_wp2_with (first | (go_at_call 26; refine (next_calls A c wr (HR.out.below B3.out) HC.out HL.out HEN.out).mono ?_; rintro e w4 ⟨v, rfl, ho, hb⟩; obtain ⟨A4, c4, rfl⟩ := ho.slice; have HO4 := Aside0.mk ho; have n4 := (hb.block _ (blk_lt N3.out)).trans N3.out; have N4 := Aside0.mk n4; have k0 := Go.Lib.cell_of_heap n4 0; have k1 := Go.Lib.cell_of_heap n4 1; have k2 := Go.Lib.cell_of_heap n4 2; simp only [List.getElem?_toArray, List.getElem?_cons_succ, List.getElem?_cons_zero] at k0 k1 k2; have B4 := Aside0.mk (btrans B3.out hb); clear n4 hb ho))
                go_ret
                exact ⟨rfl, B4.out⟩
              · have h6i : (r == (6 : Int)) = false := by simp; exact h6
                have h9i : (r == (9 : Int)) = false := by simp; exact h9
                have h1i : ((L.length : Int) == 1) = true := by simp; omega
                go_wp2_with (first | (go_at_call 26; refine (next_calls A c wr (HR.out.below B3.out) HC.out HL.out HEN.out).mono ?_; rintro e w4 ⟨v, rfl, ho, hb⟩; obtain ⟨A4, c4, rfl⟩ := ho.slice; have HO4 := Aside0.mk ho; have n4 := (hb.block _ (blk_lt N3.out)).trans N3.out; have N4 := Aside0.mk n4; have k0 := Go.Lib.cell_of_heap n4 0; have k1 := Go.Lib.cell_of_heap n4 1; have k2 := Go.Lib.cell_of_heap n4 2; simp only [List.getElem?_toArray, List.getElem?_cons_succ, List.getElem?_cons_zero] at k0 k1 k2; have B4 := Aside0.mk (btrans B3.out hb); clear n4 hb ho))
                go_ret
                exact ⟨rfl, B4.out⟩
          · go_wp2_with (first | (go_at_call 26; refine (next_calls A c wr (HR.out.below B3.out) HC.out HL.out HEN.out).mono ?_; rintro e w4 ⟨v, rfl, ho, hb⟩; obtain ⟨A4, c4, rfl⟩ := ho.slice; have HO4 := Aside0.mk ho; have n4 := (hb.block _ (blk_lt N3.out)).trans N3.out; have N4 := Aside0.mk n4; have k0 := Go.Lib.cell_of_heap n4 0; have k1 := Go.Lib.cell_of_heap n4 1; have k2 := Go.Lib.cell_of_heap n4 2; simp only [List.getElem?_toArray, List.getElem?_cons_succ, List.getElem?_cons_zero] at k0 k1 k2; have B4 := Aside0.mk (btrans B3.out hb); clear n4 hb ho))
            go_ret
            exact ⟨rfl, B4.out⟩
          · go_wp2_with (first | (go_at_call 26; refine (next_calls A c wr (HR.out.below B3.out) HC.out HL.out HEN.out).mono ?_; rintro e w4 ⟨v, rfl, ho, hb⟩; obtain ⟨A4, c4, rfl⟩ := ho.slice; have HO4 := Aside0.mk ho; have n4 := (hb.block _ (blk_lt N3.out)).trans N3.out; have N4 := Aside0.mk n4; have k0 := Go.Lib.cell_of_heap n4 0; have k1 := Go.Lib.cell_of_heap n4 1; have k2 := Go.Lib.cell_of_heap n4 2; simp only [List.getElem?_toArray, List.getElem?_cons_succ, List.getElem?_cons_zero] at k0 k1 k2; have B4 := Aside0.mk (btrans B3.out hb); clear n4 hb ho))
            go_ret
            exact ⟨rfl, B4.out⟩
        | false =>
          have HEN := Aside0.mk (HQN.out (fun h => by
            have := List.any_eq_false.1 hfa q h
            simp at this))
          clear hfa
          rcases H69.out with h1 | rfl | rfl
          · by_cases h6 : r = 6
            · subst h6
              go_wp2_with (first | (go_at_call 26; refine (next_calls A c wr (HR.out.below B3.out) HC.out HL.out HEN.out).mono ?_; rintro e w4 ⟨v, rfl, ho, hb⟩; obtain ⟨A4, c4, rfl⟩ := ho.slice; have HO4 := Aside0.mk ho; have n4 := (hb.block _ (blk_lt N3.out)).trans N3.out; have N4 := Aside0.mk n4; have k0 := Go.Lib.cell_of_heap n4 0; have k1 := Go.Lib.cell_of_heap n4 1; have k2 := Go.Lib.cell_of_heap n4 2; simp only [List.getElem?_toArray, List.getElem?_cons_succ, List.getElem?_cons_zero] at k0 k1 k2; have B4 := Aside0.mk (btrans B3.out hb); clear n4 hb ho))
              go_ret
              exact ⟨rfl, B4.out⟩
            · by_cases h9 : r = 9
              · subst h9
                go_wp2_with (first | (go_at_call 26; refine (next_calls A c wr (HR.out.below B3.out) HC.out HL.out HEN.out).mono ?_; rintro e w4 ⟨v, rfl, ho, hb⟩; obtain ⟨A4, c4, rfl⟩ := ho.slice; have HO4 := Aside0.mk ho; have n4 := (hb.block _ (blk_lt N3.out)).trans N3.out; have N4 := Aside0.mk n4; have k0 := Go.Lib.cell_of_heap n4 0; have k1 := Go.Lib.cell_of_heap n4 1; have k2 := Go.Lib.cell_of_heap n4 2; simp only [List.getElem?_toArray, List.getElem?_cons_succ, List.getElem?_cons_zero] at k0 k1 k2; have B4 := Aside0.mk (btrans B3.out hb); clear n4 hb ho))
                go_ret
                exact ⟨rfl, B4.out⟩
              · have h6i : (r == (6 : Int)) = false := by simp; exact h6
                have h9i : (r == (9 : Int)) = false := by simp; exact h9
                have h1i : ((L.length : Int) == 1) = true := by simp; omega
                go_wp2_with (first | (go_at_call 26; refine (next_calls A c wr (HR.out.below B3.out) HC.out HL.out HEN.out).mono ?_; rintro e w4 ⟨v, rfl, ho, hb⟩; obtain ⟨A4, c4, rfl⟩ := ho.slice; have HO4 := Aside0.mk ho; have n4 := (hb.block _ (blk_lt N3.out)).trans N3.out; have N4 := Aside0.mk n4; have k0 := Go.Lib.cell_of_heap n4 0; have k1 := Go.Lib.cell_of_heap n4 1; have k2 := Go.Lib.cell_of_heap n4 2; simp only [List.getElem?_toArray, List.getElem?_cons_succ, List.getElem?_cons_zero] at k0 k1 k2; have B4 := Aside0.mk (btrans B3.out hb); clear n4 hb ho))
                go_ret
                exact ⟨rfl, B4.out⟩
          · go_wp2_with (first | (go_at_call 26; refine (next_calls A c wr (HR.out.below B3.out) HC.out HL.out HEN.out).mono ?_; rintro e w4 ⟨v, rfl, ho, hb⟩; obtain ⟨A4, c4, rfl⟩ := ho.slice; have HO4 := Aside0.mk ho; have n4 := (hb.block _ (blk_lt N3.out)).trans N3.out; have N4 := Aside0.mk n4; have k0 := Go.Lib.cell_of_heap n4 0; have k1 := Go.Lib.cell_of_heap n4 1; have k2 := Go.Lib.cell_of_heap n4 2; simp only [List.getElem?_toArray, List.getElem?_cons_succ, List.getElem?_cons_zero] at k0 k1 k2; have B4 := Aside0.mk (btrans B3.out hb); clear n4 hb ho))
            go_ret
            exact ⟨rfl, B4.out⟩
          · go_wp2_with (first | (go_at_call 26; refine (next_calls A c wr (HR.out.below B3.out) HC.out HL.out HEN.out).mono ?_; rintro e w4 ⟨v, rfl, ho, hb⟩; obtain ⟨A4, c4, rfl⟩ := ho.slice; have HO4 := Aside0.mk ho; have n4 := (hb.block _ (blk_lt N3.out)).trans N3.out; have N4 := Aside0.mk n4; have k0 := Go.Lib.cell_of_heap n4 0; have k1 := Go.Lib.cell_of_heap n4 1; have k2 := Go.Lib.cell_of_heap n4 2; simp only [List.getElem?_toArray, List.getElem?_cons_succ, List.getElem?_cons_zero] at k0 k1 k2; have B4 := Aside0.mk (btrans B3.out hb); clear n4 hb ho))
            go_ret
            exact ⟨rfl, B4.out⟩
theorem agrees_row (v : Value) (W : World) (h : ∃ r n A len cap zs op x y t q, Iscase6 W v r n A len cap zs op x y t q) :
    Calls Tryz.prog 9 #[v] W fun e w' => e = .returned (.bool true) ∧ Below W.heap.size W w' := by
  obtain ⟨r, n, A, len, cap, zs, op, x, y, t, q, rfl, hy, hrow⟩ := h
  obtain ⟨l0, rfl, hr0, hm0, hw0, hc0⟩ := ReadsInt.ofRowC hrow
  exact walk r n A cap l0 op x y t q W (Kd.C_of_reads (d := (0 : Int)) (h1 := fun _ => rfl) hr0) hc0 (by omega)
end Go.Proofs.YtiialjmpfeopjaaGreat.LwAgrees
