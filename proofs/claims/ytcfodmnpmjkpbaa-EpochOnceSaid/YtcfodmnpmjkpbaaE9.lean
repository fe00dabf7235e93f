/- slices.Repeat, and New, Copy of an epoch manager: plain lemmas; no condition. -/
import Derived.Test.YtcfodmnpmjkpbaaE8
import Derived.Test.YtcfodmnpmjkpbaaShelf
import Derived.Deep.RegionLaw
import Derived.Laws.CopyOwn
namespace Go.Proofs.Ytcfodmnpmjkpbaa.Ep
open Go.RowKit Go.Proofs.YtcfodmnpmjkpbaaW.PrintWords Go.Proofs.YtcfodmnpmjkpbaaW.PrintLast Go.Proofs.YtcfodmnpmjkpbaaW.PrintMore
set_option linter.unusedVariables false
set_option linter.unusedSimpArgs false
set_option maxHeartbeats 8000000
set_option maxRecDepth 100000
theorem mul_one (m : Nat) (hm : m ≤ 100) (w : World) : Calls Try.prog 44 #[.int .u64 1, .int .u64 (m : Int)] w fun e w' => e = .returned (.tuple #[.int .u64 0, .int .u64 (m : Int)]) ∧ w' = w := by
  refine (Try.bits_Mul 1 m (by omega) (by omega) w).mono ?_
  rintro e w' ⟨rfl, rfl⟩
  have e1 : 1 * m / 18446744073709551616 = 0 := by omega
  have e2 : 1 * m % 18446744073709551616 = m := by omega
  rw [e1, e2]
  exact ⟨rfl, rfl⟩
/-- make([]int, m), the row's cells told. -/
theorem make_row (m : Nat) {o : Oper} {ops : Array Oper} {rest : List Oper} {a : Act} {W w0 : World} {Q : Exit → Act → World → Prop} (base : Nat) (hgd : o.guard = none) (x y : Operand) (ho : o.op = .makeSlice 41 x y) (hx : a.eval x = .int .i64 (m : Nat)) (hy : a.eval y = .int .i64 (m : Nat))
    (hl : m ≤ 1000) (HB : Below base w0 W) (hbase : base ≤ W.heap.size)
    (h : ∀ g w1, Aside0 (w1.heap[g]? = some (.cells (List.replicate m (Value.int .i64 0)).toArray 3 (0, 0))) → base ≤ g → Below base w0 w1 → wpList Try.prog ops Q rest (a.put o.dst (.slice (some ⟨g, 0, none⟩) m m)) w1) : wpList Try.prog ops Q (o :: rest) a W := by
  obtain ⟨i0, hi, hzz⟩ := Option.map_eq_some_iff.1 info3
  simp only [Prod.mk.injEq] at hzz
  obtain ⟨hz0, hz1, hz2⟩ := hzz
  have hr := run_make (P := Try.prog) W 41 3 i0 _ Try.underlying41 hi hz0 .i64 .i64 (m : Int) (m : Int) (by omega) (by omega) (by rw [hz2]; omega) (by omega)
  simp only [Int.toNat_natCast] at hr
  rw [hz1] at hr
  have e : madeCells (Value.cells (.int .i64 0)) (m * 1) = (List.replicate m (Value.int .i64 0)).toArray := by
    apply Array.ext
    · simp [size_madeCells]
    · intro i h1 h2
      simp [madeCells, Value.cells, Nat.mod_one]
  rw [e] at hr
  clear e
  generalize List.replicate m (Value.int .i64 0) = Z at hr h
  refine Kd.event_run (w1 := W.alloc (.cells Z.toArray 3)) (v := .slice (some ⟨W.heap.size, 0, none⟩) m m) hgd (by simp [execOp, ho, hx, hy, hr]) ?_
  exact h _ _ ⟨heap_alloc_new _ _⟩ hbase (HB.alloc hbase _)
def repeatI.f (l0 : List Int) (a1 : Int) : Option (List Int) := if l0.length = 1 ∧ 0 ≤ a1 ∧ a1 ≤ 100 then some (List.replicate a1.toNat (rd l0 0)) else none
/-- the row when n elements are set -/
def partRow (t : Int) (n m : Nat) : List Value := List.replicate n (.int .i64 t) ++ List.replicate (m - n) (.int .i64 0)
theorem partRow_zero (t : Int) (m : Nat) : partRow t 0 m = List.replicate m (.int .i64 0) := by simp [partRow]
theorem partRow_len (t : Int) (n m : Nat) (h : n ≤ m) : (partRow t n m).length = m := by simp [partRow]; omega
theorem partRow_splice (t : Int) (n m k : Nat) (h : n + k ≤ m) : splice (partRow t n m) n (List.replicate k (.int .i64 t)) = partRow t (n + k) m := by
  unfold splice partRow
  have e1 : (List.replicate n (Value.int .i64 t) ++ List.replicate (m - n) (Value.int .i64 0)).take n = List.replicate n (.int .i64 t) := by
    rw [List.take_append_of_le_length (by simp)]; simp
  have e2 : (List.replicate n (Value.int .i64 t) ++ List.replicate (m - n) (Value.int .i64 0)).drop (n + (List.replicate k (Value.int .i64 t)).length) = List.replicate (m - (n + k)) (.int .i64 0) := by
    rw [List.length_replicate, List.drop_append]
    simp
    omega
  rw [e1, e2, ← List.append_assoc, List.replicate_append_replicate]
theorem partRow_cell {t : Int} {n m : Nat} {w : World} {g : Nat} (h : w.heap[g]? = some (.cells (partRow t n m).toArray 3 (0, 0))) (j : Nat) (hj : j < n) : w.cell? ⟨g, j, none⟩ = some (.int .i64 t) := by
  rw [Go.Lib.cell_of_heap h]
  simp [partRow, List.getElem?_append, hj]
theorem repeatI.calls (A0 : Option Addr) (c0 : Nat) (l0 : List Int) (a1 : Int) (r : List Int) (w : World) (hr0 : Kd.C (Kd.int .i64) w A0 l0.length l0) (hc0 : l0.length ≤ c0) (h : repeatI.f l0 a1 = some r) :
    Calls Try.prog 31 #[.slice A0 l0.length c0, .int .i64 a1] w fun e w' => ∃ v0_ : Value, e = .returned (v0_) ∧ Kd.R (Kd.int .i64) 3 w' w.heap.size (fun _ => True) v0_ r ∧ Below w.heap.size w w' := by
  unfold repeatI.f at h
  split at h
  case isFalse => exact absurd h (by simp)
  case isTrue hc =>
  obtain ⟨h1, h2, h3⟩ := hc
  obtain rfl := Option.some.inj h
  clear h
  obtain ⟨m, rfl⟩ := Int.eq_ofNat_of_zero_le h2
  have hm : m ≤ 100 := by omega
  clear h2 h3
  rw [Int.toNat_natCast]
  obtain ⟨ad, rfl, hcell⟩ := Kd.at_int hr0 0 (by omega) (by omega)
  simp only [Int.toNat_zero] at hcell
  rw [h1] at hc0 ⊢
  generalize ht : rd l0 0 = t at hcell ⊢
  clear hr0 ht h1
  have hmul : ∀ W, Calls Try.prog 44 #[.int .u64 1, .int .u64 (m : Int)] W fun e w' => e = .returned (.tuple #[.int .u64 0, .int .u64 (m : Int)]) ∧ w' = W := fun W => mul_one m (by omega) W
  have HB := Aside0.mk (Below.refl w.heap.size w)
  have hneg : decide ((m : Int) < 0) = false := by simp
  have hbig : decide ((9223372036854775807 : Int) < (m : Int)) = false := by simp; omega
  have hw1 : IntKind.u64.wrap (m : Int) = m := by rw [IntKind.wrap_u64]; omega
  have hw2 : IntKind.i64.wrap (m : Int) = m := by rw [IntKind.wrap_i64]; omega
  obtain ⟨Z, hZ⟩ : ∃ Z, Z = List.replicate m (Value.int .i64 0) := ⟨_, rfl⟩
  obtain ⟨cs, hcs⟩ : ∃ cs : List Value, cs = List.replicate (min 1 m) (Value.int .i64 t) := ⟨_, rfl⟩
  have HZ := Aside0.mk hZ
  have HC := Aside0.mk hcs
  have hcl : cs.length = min 1 m := by rw [hcs]; simp
  have hZl : Z.length = m := by rw [hZ]; simp
  have hone : ∀ v ∈ cs, v.oneCell' = true := by
    intro v hv
    rw [hcs] at hv
    rw [List.eq_of_mem_replicate hv]
    rfl
  have hsrc : ∀ w1, Below w.heap.size w w1 → ∀ j v, cs[j]? = some v → w1.cell? (ad.add j) = some v := by
    intro w1 hB j v hj
    have hj1 : j < cs.length := (List.getElem?_eq_some_iff.1 hj).1
    have : j = 0 := by omega
    subst this
    rw [hcs] at hj
    obtain rfl := List.eq_of_mem_replicate (List.mem_of_getElem? hj)
    exact (hB.cell (World.block_lt_of_cell? w _ hcell)).trans hcell
  have HN := Aside0.mk hone
  have HS := Aside0.mk hsrc
  clear hZ hcs hcell hone hsrc
  go_enter Try.func31, Try.ntmps31
  go_wp2_with (first
    | (go_at_call 44; (with_reducible refine (hmul _).mono ?_); rintro e w' ⟨rfl, hw⟩; rw [hw]; clear hw)
    | ((with_reducible refine gate_ (.makeSlice 41 (.tmp 29) (.tmp 29)) rfl ?_); refine make_row m (w0 := w) w.heap.size rfl (.tmp 29) (.tmp 29) rfl rfl rfl (by omega) ?mB ?mS ?_; (case mB => exact (by repeat (first | exact HB.out | apply pw_below_drewN | apply below_drew1))); (case mS => exact (below_size (by repeat (first | exact HB.out | apply pw_below_drewN | apply below_drew1)))); intro g w1 hg hBg HB1; rw [← HZ.out] at hg)
    | ((with_reducible refine gate_builtin (b := .copy) (xs := #[.tmp 31, .tmp 32]) rfl ?_); refine wpList_copy_splice rfl (.tmp 31) (.tmp 32) 41 41 rfl 3 Try.underlying41 size3 _ _ _ _ _ _ rfl rfl g 0 Z 3 hg.out cs hcl ?cP ?cF ?cO w.heap.size w HB1 hBg ?_; (case cP => exact (fun h0 => ⟨rfl, ad, rfl, fun j v hj => HS.out _ HB1 j v hj⟩)); (case cF => exact (by rw [hcl, hZl]; omega)); (case cO => exact HN.out); intro w2 hg2 HB2; replace hg2 := Aside0.mk hg2.out; rw [hcl] at *))
  have HR0 : Aside0 (w2.heap[g]? = some (.cells (partRow t (min 1 m) m).toArray 3 (0, 0))) := by
    constructor
    have := partRow_splice t 0 m (min 1 m) (by omega)
    rw [partRow_zero, ← HZ.out, ← HC.out, Nat.zero_add] at this
    rw [← this]
    exact hg2.out
  clear HZ HC hg hg2 hZl HN HS hcl HB HB1 hneg hbig hw1 hw2 hmul hc0
  go_wp2
  go_loopg [8] m (fun gg s8 wr => ∃ n : Nat, n ≤ m ∧ (0 < m → 0 < n) ∧ m - n ≤ gg ∧ s8 = .int .i64 n ∧ Aside0 (wr.heap[g]? = some (.cells (partRow t n m).toArray 3 (0, 0))) ∧ Aside0 (Below w.heap.size w wr))
  case atStart => exact ⟨min 1 m, by omega, by omega, by omega, by go_num, HR0, ⟨HB2⟩⟩
  case round =>
    clear HR0 HB2
    obtain ⟨n, hnm, hn0, hgg, rfl, HR, HB⟩ := hrel
    by_cases hlt : n < m
    · have hpos := hn0 (by omega)
      obtain ⟨q, hq⟩ : ∃ q, q = min (m - n) n := ⟨_, rfl⟩
      have hqm : q = Nat.min n (m - n) := by rw [hq]; exact Nat.min_comm _ _
      have hq1 : n + q ≤ m := by omega
      have hq2 : 0 < q := by omega
      have hq3 : q ≤ n := by omega
      clear hq
      obtain ⟨cs, hcs⟩ : ∃ cs : List Value, cs = List.replicate (q) (Value.int .i64 t) := ⟨_, rfl⟩
      obtain ⟨cur, hcur⟩ : ∃ cur : List Value, cur = partRow t n m := ⟨_, rfl⟩
      have hcl : cs.length = q := by rw [hcs]; simp
      have hone : ∀ v ∈ cs, v.oneCell' = true := by
        intro v hv
        rw [hcs] at hv
        rw [List.eq_of_mem_replicate hv]
        rfl
      have hcurl : cur.length = m := by rw [hcur, partRow_len t n m hnm]
      rw [← hcur] at HR
      have hsrc : ∀ w1 : World, w1.heap[g]? = some (.cells cur.toArray 3 (0, 0)) → ∀ j v, cs[j]? = some v → w1.cell? (Addr.add ⟨g, 0, none⟩ j) = some v := by
        intro w1 hB j v hj
        have hj1 : j < cs.length := (List.getElem?_eq_some_iff.1 hj).1
        rw [hcs] at hj
        obtain rfl := List.eq_of_mem_replicate (List.mem_of_getElem? hj)
        rw [hcur] at hB
        have hc := partRow_cell hB j (by omega)
        by_cases j0 : j = 0
        · subst j0; exact hc
        · simpa [Addr.add, j0] using hc
      have HC := Aside0.mk hcs
      have HU := Aside0.mk hcur
      clear hcs hcur
      go_wp2
      have hne : ¬ (m = n) := by omega
      have hcl2 : cs.length = Nat.min n (m - n) := by rw [hcl]; exact hqm
      go_region_law (refine step_copy_splice rfl (.tmp 41) (.tmp 44) 41 41 rfl 3 Try.underlying41 size3 (some ⟨g, n, none⟩) (some ⟨g, 0, none⟩) (m - n) (m - n) n m (by simp [Act.eval, Act.put, hne]) (by simp [Act.eval, Act.put]) g n cur 3 HR.out cs hcl2 ?cP ?cF hone w.heap.size w ?cB hBg ?_; (case cP => exact (fun h0 => ⟨rfl, _, rfl, fun j v hj => hsrc _ HR.out j v hj⟩)); (case cF => omega); (case cB => exact (by repeat (first | exact HB.out | apply pw_below_drewN | apply below_drew1))); intro w4 hg4 HB4; replace hg4 := Aside0.mk hg4.out; rw [hcl]; clear hsrc hone hcl hcl2 hqm hne)
      have HR4 : Aside0 (w4.heap[g]? = some (.cells (partRow t (n + q) m).toArray 3 (0, 0))) := by
        constructor
        have := partRow_splice t n m (q) (by omega)
        rw [← HC.out, ← HU.out] at this
        rw [← this]
        exact hg4.out
      clear HC HU hg4 HR HB
      go_wp2
      go_roundg (m - (n + q))
      case measure => omega
      case rel => exact ⟨n + q, by omega, by omega, by omega, congrArg (Value.int .i64) (by rw [IntKind.wrap_i64]; omega), HR4, ⟨HB4⟩⟩
    · go_wp2
      go_ret
      have hnm' : n = m := by omega
      subst hnm'
      refine ⟨_, rfl, ?_, HB.out⟩
      refine Kd.R_of_own (h1 := fun _ => rfl) ⟨by simp [encs], .inr ⟨g, n, _, ?_, hBg, HR.out, by simp, by simp [maxLen]; omega, ?_, ?_⟩⟩ (fun _ _ => trivial)
      · simp
      · simp [partRow]
      · simp [partRow, encs]

end Go.Proofs.Ytcfodmnpmjkpbaa.Ep
