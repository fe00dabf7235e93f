/- slices.Equal of rows; slices.CompactFunc of a slice of rows, walked: plain lemmas; no condition. -/
import Derived.Test.YtgfbgbclpeihdaaLiE
namespace Go.Proofs.Ytgfbgbclpeihdaa.Li
open Go.RowKit Go.Sort Go.Lib Go.Proofs.YtgfbgbclpeihdaaW.PrintWords Go.Proofs.YtgfbgbclpeihdaaW.PrintLast Go.Proofs.YtgfbgbclpeihdaaW.PrintMore
set_option linter.unusedVariables false
set_option linter.unusedSimpArgs false
set_option maxHeartbeats 8000000
set_option maxRecDepth 100000
theorem equal_calls (p q : RowE) (w : World) (hp : RdE w p) (hq : RdE w q) : Calls Try.prog 43 #[encE p, encE q] w fun e w' => e = .returned (.bool (decide (p.2.2 = q.2.2))) ∧ ∃ n, w' = w.drewN n := by
  have := Try.slices_Equal_int p.1 0 p.2.2.length p.2.1 q.1 0 q.2.2.length q.2.1 p.2.2 q.2.2 w (Nat.le_refl _) (Nat.le_refl _) (by have := hp.2; omega) (by have := hq.2; omega) (fun j hj => by rw [Nat.zero_add]; exact hp.1 j hj) (fun j hj => by rw [Nat.zero_add]; exact hq.1 j hj)
  refine this.mono ?_
  rintro e w' ⟨rfl, h⟩
  refine ⟨?_, h⟩
  rw [List.take_length, List.take_length]
  congr 2
  cases h : decide (p.2.2 = q.2.2) with
  | true => rw [decide_eq_true_eq] at h; simp [h]
  | false => rw [decide_eq_false_iff_not] at h; simpa using h
def dE : RowE := (0, 0, [])
/-- What is kept of the first k. -/
def keepE (es : List RowE) : Nat → List RowE
  | 0 => []
  | k + 1 => keepE es k ++ (if k = 0 ∨ (es.getD k dE).2.2 ≠ (es.getD (k - 1) dE).2.2 then [es.getD k dE] else [])
theorem Top.cell {w : World} {base g cap : Nat} {es : List RowE} (h : Top w base g cap es) (j : Nat) (hj : j < es.length) : w.cell? ⟨g, j, none⟩ = some (encE (es.getD j dE)) ∧ w.frozen? ⟨g, j, none⟩ = false := by
  obtain ⟨cur, hb, hh, hn, hc, hs, ht⟩ := h.parts
  refine ⟨?_, blk_frozen hh j⟩
  rw [Go.Lib.cell_of_heap hh]
  have h1 : (cur.toList.take es.length)[j]? = (es.map encE)[j]? := by rw [ht]
  rw [List.getElem?_take_of_lt hj, Array.getElem?_toList] at h1
  rw [h1]
  simp [hj]
theorem Top.same {w w1 : World} {base g cap : Nat} {es : List RowE} (h : Top w base g cap es) (e : w1.heap[g]? = w.heap[g]?) : Top w1 base g cap es := by
  obtain ⟨cur, hb, hh, hn, hc, hs, ht⟩ := h.parts
  exact Top.make hb (e.trans hh) hn hc hs ht
theorem Top.put {w : World} {base g cap : Nat} {es : List RowE} (h : Top w base g cap es) (i : Nat) (hi : i < es.length) (x : RowE) : Top (w.setCell ⟨g, i, none⟩ (encE x)) base g cap (es.set i x) := by
  obtain ⟨cur, hb, hh, hn, hc, hs, ht⟩ := h.parts
  refine Top.make hb (blk_set hh i (encE x)) (by simpa using hn) hc (by simpa using hs) ?_
  rw [List.length_set, List.map_set, ← ht, Array.toList_setIfInBounds, List.take_set]
theorem Top.take {w : World} {base g cap : Nat} {es : List RowE} (h : Top w base g cap es) (i : Nat) (hi : i ≤ es.length) : Top w base g cap (es.take i) := by
  obtain ⟨cur, hb, hh, hn, hc, hs, ht⟩ := h.parts
  have hl : (es.take i).length = i := by simp; omega
  refine Top.make hb hh (by omega) hc hs ?_
  rw [hl, List.map_take, ← ht, List.take_take, Nat.min_eq_left (by omega)]
theorem info46 : (Try.prog.info? 46).map (fun i => (i.zero, i.size, i.bytes)) = some (some (.slice none 0 0), 1, 24) := by kernel_rfl
theorem zero46 (w : World) : (zeroValue 46).run Try.prog w = .ok (.slice none 0 0) w := by
  obtain ⟨i0, hi, hzz⟩ := Option.map_eq_some_iff.1 info46
  simp only [Prod.mk.injEq] at hzz
  obtain ⟨hz0, hz1, hz2⟩ := hzz
  simp [zeroValue, typeInfo, hi, hz0]
/-- clear(s): the rest of the row is set to nil. -/
theorem wpList_clear {o : Oper} {ops : Array Oper} {rest : List Oper} {a : Act} {W : World} {Q : Exit → Act → World → Prop} (hgd : o.guard = none) (x : Operand) (ho : o.op = .call { callee := .builtin .clear, args := #[x], argTypes := #[33] })
    (base g i n c cap : Nat) (es : List RowE) (hx : a.eval x = .slice (some ⟨g, i, none⟩) n c) (hn : 0 < n) (hR : Top W base g cap es) (hi : i + n = es.length)
    (h : ∀ W2, Top W2 base g cap (es.take i) → W.grownBy W2 (some g) → wpList Try.prog ops Q rest (a.put o.dst (.tuple #[])) W2) : wpList Try.prog ops Q (o :: rest) a W := by
  obtain ⟨cur, hb, hh, hnn, hc, hs, ht⟩ := hR.parts
  have hzc : (Builtin.zeroCells (Value.cells (.slice none 0 0)) n).toList = List.replicate n (.slice none 0 0) := by
    apply List.ext_getElem
    · simp [Builtin.zeroCells, Value.cells]
    · intro j g1 g2
      simp [Builtin.zeroCells, Value.cells, Nat.mod_one]
  have hst := run_storeCells_cells (P := Try.prog) g i (List.replicate n (.slice none 0 0)) 0 W
    (fun j hj => by
      have hj : j < n := by simpa using hj
      rw [Go.Lib.cell_of_heap hh]
      have : i + 0 + j < cur.size := by omega
      rw [Array.getElem?_eq_getElem this]; rfl)
    (fun j hj => blk_frozen hh _) (by intro v hv; rw [List.eq_of_mem_replicate hv]; rfl)
  simp only [Nat.add_zero] at hst
  obtain ⟨cur', r1, r2, r3⟩ := setCells_row (g := g) (e := 46) (List.replicate n (.slice none 0 0)) i W cur hh (by simp; omega)
  obtain ⟨s1, s2, s3, s4⟩ := setCells_same g (List.replicate n (.slice none 0 0)) i W
  have far := fun k hk => setCells_far (g := g) (List.replicate n (.slice none 0 0)) i (w := W) k hk
  generalize W.setCells g i (List.replicate n (.slice none 0 0)) = W2 at *
  have hrun : (Builtin.clear_ #[33] o.type #[.slice (some ⟨g, i, none⟩) n c]).run Try.prog W = .ok (.tuple #[]) W2 := by
    obtain ⟨m, rfl⟩ : ∃ m, n = m + 1 := ⟨n - 1, by omega⟩
    simp [Builtin.clear_, run_underlying Try.underlying33, zero46, hzc, hst]
  refine wpList_plain hgd fun K hK => ?_
  unfold Oper.wp
  simp [execOp, ho, resolve, invoke, builtin, hx, hrun, Result.andThen]
  have hl : (es.take i).length = i := by simp; omega
  refine hK _ _ (h W2 (Top.make hb r1 (by omega) hc (r2.trans hs) ?_) ⟨s1, s2, s3, by omega, fun k hk hne => far k (fun e => hne (by rw [e]))⟩)
  rw [hl, r3, List.append_assoc, List.take_append_of_le_length (by simp; omega), List.take_take, Nat.min_self, List.map_take, ← ht, List.take_take, Nat.min_eq_left (by omega)]
end Go.Proofs.Ytgfbgbclpeihdaa.Li
