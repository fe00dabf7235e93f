/- The reference's manager: New: plain lemmas; no condition. -/
import Derived.Test.YtgdadefobhfkcaaHyL4
import Derived.Deep.RegionLaw
namespace Go.Proofs.Ytgdadefobhfkcaa.Hy
open Go.RowKit Go.Proofs.YtgdadefobhfkcaaW.PrintWords Go.Proofs.YtgdadefobhfkcaaW.PrintLast Go.Proofs.YtgdadefobhfkcaaW.PrintMore
set_option linter.unusedVariables false
set_option linter.unusedSimpArgs false
set_option maxHeartbeats 8000000
set_option maxRecDepth 100000
theorem rnew_bad (t : Int) (w : World) (h : t < 1 ∨ 4 < t) : Calls Try.prog 18 #[.int .i64 t] w fun e w' => e = .returned (.tuple #[.pointer none, .int .i64 1]) ∧ w' = w := by
  have hc : t < 1 ∨ (1 ≤ t ∧ 4 < t) := by omega
  clear h
  rcases hc with hc | ⟨hc, hc2⟩
  all_goals
    go_enter Try.func18, Try.ntmps18
    go_wp2
    go_ret2
    exact ⟨rfl, rfl⟩
theorem new_top {wr wn : World} {g n B : Nat} {hv iv : Value} {qs : List (Nat × Nat)} {hs : List Int} {o : Obj} (ht : wr.heap[g]? = some (.cells #[.int .i64 n, hv, iv] 64 (0, 0))) (hl : HL wr B hv qs hs) (hlt : g < wr.heap.size) (hg : (wr.alloc o).drew.grownBy wn hv.ownBlock) : wn.heap[g]? = some (.cells #[.int .i64 n, hv, iv] 64 (0, 0)) := by
  have hb := (Below.refl wr.heap.size wr).alloc (Nat.le_refl _) o
  have h1 : (wr.alloc o).drew.heap[g]? = some (.cells #[.int .i64 n, hv, iv] 64 (0, 0)) := (hb.block g hlt).trans ht
  refine (hg.block g (blk_lt h1) (fun e => ?_)).trans h1
  obtain ⟨c, hc⟩ := Kd.R_typed hl.top g e.symm
  exact ne_of_tag ht hc (by decide) rfl
theorem new_store {wn : World} {g n B : Nat} {hv iv v1 : Value} {qs : List (Nat × Nat)} {hs : List Int} (ht : wn.heap[g]? = some (.cells #[.int .i64 n, hv, iv] 64 (0, 0))) (hl : HL wn B v1 qs hs) :
    (wn.setCell ⟨g, 1, none⟩ v1).heap[g]? = some (.cells #[.int .i64 n, v1, iv] 64 (0, 0)) ∧ HL (wn.setCell ⟨g, 1, none⟩ v1) B v1 qs hs := by
  refine ⟨by rw [blk_set ht 1 v1]; rfl, hl.move (fun k hk => Below.heap_setCell wn ⟨g, 1, none⟩ v1 k (fun e => ?_))⟩
  rw [show k = g from e] at hk
  rcases hk with hk | hk
  · obtain ⟨c, hc⟩ := Kd.R_typed hl.top g hk
    exact ne_of_tag ht hc (by decide) rfl
  · obtain ⟨tt, htt, e⟩ := mem_rows hk
    obtain ⟨c, hc⟩ := Kd.R_typed (hl.row tt htt) _ rfl
    exact ne_of_tag ht hc (by decide) e.symm
theorem rnew_calls (n : Nat) (w : World) (h1 : 1 ≤ n) (h4 : n ≤ 4) : Calls Try.prog 18 #[.int .i64 n] w fun e w' => ∃ g hv qs, e = .returned (.tuple #[.pointer (some ⟨g, 0, none⟩), .int .i64 0]) ∧ Ref w.heap.size w' g hv (.slice none 0 0) qs (newM n) ∧ Below w.heap.size w w' := by
  have hmk := make3
  have HT0 := Aside0.mk (heap_alloc_new w (.cells #[.int .i64 n, .slice none 0 0, .slice none 0 0] 64 (0, 0)))
  have HB0 := Aside0.mk ((Below.refl w.heap.size w).alloc (Nat.le_refl _) (.cells #[.int .i64 n, .slice none 0 0, .slice none 0 0] 64 (0, 0)))
  have HS0 := Aside0.mk (alloc_size w (.cells #[.int .i64 n, .slice none 0 0, .slice none 0 0] 64 (0, 0)))
  go_enter Try.func18, Try.ntmps18
  go_wp2
  go_loopg [5] n (fun gg v5 wr => ∃ (kk : Nat) (hv : Value) (qs : List (Nat × Nat)), kk ≤ n ∧ n - kk ≤ gg ∧ v5 = .int .i64 kk ∧ qs.length = kk ∧ w.heap.size < wr.heap.size ∧ Aside0 (wr.heap[w.heap.size]? = some (.cells #[.int .i64 n, hv, .slice none 0 0] 64 (0, 0))) ∧ Aside0 (HL wr w.heap.size hv qs (newM n).hs) ∧ Aside0 (Below w.heap.size w wr))
  case atStart => exact ⟨0, _, [], Nat.zero_le _, by omega, rfl, rfl, by rw [HS0.out]; omega, HT0, ⟨HL.nil _ _ _⟩, HB0⟩
  case round =>
    clear HT0 HB0 HS0
    obtain ⟨kk, hv, qs, hkk, hgg, rfl, hql, hszr, HT, HL0, HB⟩ := hrel
    by_cases hlt : kk < n
    · obtain ⟨A0, c0, rfl⟩ := HL0.out.slice
      have c1 : wr.cell? ⟨w.heap.size, 1, none⟩ = some (.slice A0 qs.length c0) := by rw [Go.Lib.cell_of_heap HT.out]; rfl
      have c1a : ∀ o, (wr.alloc o).cell? ⟨w.heap.size, 1, none⟩ = some (.slice A0 qs.length c0) := fun o => (((Below.refl wr.heap.size wr).alloc (Nat.le_refl _) o).cell (World.block_lt_of_cell? wr _ c1)).trans c1
      have c1b : ∀ o o', ((wr.alloc o).alloc o').cell? ⟨w.heap.size, 1, none⟩ = some (.slice A0 qs.length c0) := fun o o' => ((((Below.refl wr.heap.size wr).alloc (Nat.le_refl _) o).alloc (by rw [alloc_size]; omega) o').cell (World.block_lt_of_cell? wr _ c1)).trans c1
      have hlim : (qs.length + 1) * 24 ≤ 140737488355328 := by omega
      have HQL := Aside0.mk hql
      have hsz := HB.out.size
      clear hql
      go_wp2
      go_region_law (refine Kd.R_append_step kdP (w0 := w) (W := (wr.alloc (.cells #[.int .i64 0, .int .i64 0, .int .i64 0] 3 (0, 0))).drew) w.heap.size ?hw (.tmp 24) (.tmp 26) 28 29 (.slice none 0 0) 24 rfl Try.underlying28 info29 rfl (by decide) (by omega) (.slice A0 qs.length c0) qs (wr.heap.size, 3) [encP (wr.heap.size, 3)] (fun _ => True) (fun _ => False) ?hs ?hx rfl (fun _ hk => hk.elim) (fun _ _ => trivial) (Kd.R_drew (Kd.R_alloc HL0.out.top _)) (below_drew (HB.out.alloc hsz _)) (by show w.heap.size ≤ (wr.alloc _).heap.size; rw [alloc_size]; omega) hlim ?_; (case hw => exact (by simp [Region.wanted])); (case hs => exact (by simp [Act.eval, Act.put])); (case hx => exact (by simp [Act.eval, Act.put])); intro v1 wn ho hb hg hat; have htop := new_top HT.out HL0.out hszr hg; have cn1 : wn.cell? ⟨w.heap.size, 1, none⟩ = some (.slice A0 qs.length c0) := (by rw [Go.Lib.cell_of_heap htop]; rfl); have fn1 : wn.frozen? ⟨w.heap.size, 1, none⟩ = false := blk_frozen htop 1; obtain ⟨A1, c1', rfl⟩ := Kd.R_slice ho; have hsn := HL.snoc ((HL0.out.grow ((Below.refl _ _).alloc (Nat.le_refl _) _)).grow (below_drew (Below.refl _ _))) ho hg (by rw [HQL.out, show three (newM n).hs kk = [0, 0, 0] from three_zero n kk hlt]; exact Kd.R_drew (row_new wr _ hsz)) (HL0.out.fresh _ (Nat.le_refl _)); have HSN := Aside0.mk (new_store htop hsn); have HBN := Aside0.mk (hb.setCell (p := ⟨w.heap.size, 1, none⟩) (Nat.le_refl _) (.slice A1 (qs ++ [(wr.heap.size, 3)]).length c1')); have HSZ := Aside0.mk (Nat.lt_of_lt_of_le (by show w.heap.size < (wr.alloc _).heap.size; rw [alloc_size]; omega) hg.size); have hLN : (qs ++ [(wr.heap.size, 3)]).length = qs.length + 1 := (by simp); rw [hLN] at HSN HBN ⊢; clear ho hb hg hat htop hsn hLN)
      all_goals
        go_wp2
        go_roundg (n - (kk + 1))
        case measure => omega
        case rel => exact ⟨kk + 1, _, qs ++ [(wr.heap.size, 3)], by omega, by omega, by go_num, by rw [List.length_append, HQL.out]; rfl, by rw [World.size_setCell]; exact HSZ.out, ⟨HSN.out.1⟩, ⟨HSN.out.2⟩, HBN⟩
    · have hkn : kk = n := by omega
      subst hkn
      go_wp2
      go_ret2
      exact ⟨w.heap.size, hv, qs, rfl, ⟨by show (List.replicate (kk * 3) (0 : Int)).length = kk * 3; rw [List.length_replicate], h4, Nat.le_refl _, HT.out, HL0.out, hql, Kd.R_nil _ _ _ _ _⟩, HB.out⟩
end Go.Proofs.Ytgdadefobhfkcaa.Hy
