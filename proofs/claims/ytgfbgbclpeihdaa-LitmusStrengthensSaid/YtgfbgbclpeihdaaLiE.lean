/- A slice of rows, sorted by the library: plain lemmas; no condition. -/
import Derived.Test.YtgfbgbclpeihdaaLiD
import Derived.Sort.OwnSorted
namespace Go.Proofs.Ytgfbgbclpeihdaa.Li
open Go.RowKit Go.Sort Go.Lib Go.Proofs.YtgfbgbclpeihdaaW.PrintWords Go.Proofs.YtgfbgbclpeihdaaW.PrintLast Go.Proofs.YtgfbgbclpeihdaaW.PrintMore
set_option linter.unusedVariables false
set_option linter.unusedSimpArgs false
set_option maxHeartbeats 8000000
set_option maxRecDepth 100000
theorem cmpL_ntrans {a b c : List Int} (h1 : ¬ cmpL a b < 0) (h2 : ¬ cmpL b c < 0) : ¬ cmpL a c < 0 := by
  intro h
  have e1 := cmpL_neg a b
  have e2 := cmpL_neg b c
  by_cases h3 : cmpL b a < 0
  · exact h2 (cmpL_trans h3 h)
  · have hz : cmpL a b = 0 := by omega
    rw [cmpL_zero hz] at h
    exact h2 h
section
variable {α : Type} [Inhabited α] {enc : α → Value} {w : World} {g n : Nat} {os : Array Obj}
theorem sw_block {cur : Array Value} {e : TypeId} {fr : Nat × Nat} (d : Array α) (hb : w.heap[g]? = some (.cells cur e fr)) :
    (sortWorld enc w g 0 n d os).heap[g]? = some (.cells (putCells enc 0 d cur) e fr) := by
  have hg : g < w.heap.size := (Array.getElem?_eq_some_iff.1 hb).1
  unfold sortWorld
  rw [heap_grow_old _ _ (by simpa using hg)]
  simp [putRow, mapBlock, Sort.ahead, Array.getElem?_modify, hb, onCells]
theorem sw_grown (d : Array α) : w.grownBy (sortWorld enc w g 0 n d os) (some g) := by
  unfold sortWorld
  refine ⟨rfl, rfl, rfl, by simp, fun k hk hne => ?_⟩
  rw [heap_grow_old _ _ (by simpa using hk)]
  have : g ≠ k := fun e => hne (by rw [e])
  simp [putRow, mapBlock, Sort.ahead, Array.getElem?_modify, this]
theorem sw_take (cur : Array Value) (ts : List α) (h : ts.length ≤ cur.size) : (putCells enc 0 ts.toArray cur).toList.take ts.length = ts.map enc := by
  apply List.ext_getElem?
  intro j
  by_cases hj : j < ts.length
  · rw [List.getElem?_take_of_lt hj, Array.getElem?_toList]
    simp [putCells, hj, show j < cur.size by omega]
  · rw [List.getElem?_take_eq_none (by omega), List.getElem?_eq_none (by simp; omega)]
end
def Top (w : World) (base g cap : Nat) (es : List RowE) : Prop := w.ownsRow base 46 1 (.slice (some ⟨g, 0, none⟩) es.length cap) es.length (es.map encE)
theorem Top.parts {w : World} {base g cap : Nat} {es : List RowE} (h : Top w base g cap es) : ∃ cur, base ≤ g ∧ w.heap[g]? = some (.cells cur 46 (0, 0)) ∧ es.length ≤ cap ∧ cap ≤ maxLen ∧ cur.size = cap ∧ cur.toList.take es.length = es.map encE := by
  rcases h.2 with ⟨h0, _⟩ | ⟨g', cap', cur, hv, hg, hh, hn, hc, hs, ht⟩
  · cases h0
  · cases hv
    exact ⟨cur, hg, hh, hn, hc, by simpa using hs, by simpa using ht⟩
theorem Top.make {w : World} {base g cap : Nat} {es : List RowE} {cur : Array Value} (h1 : base ≤ g) (h2 : w.heap[g]? = some (.cells cur 46 (0, 0))) (h3 : es.length ≤ cap) (h4 : cap ≤ maxLen) (h5 : cur.size = cap) (h6 : cur.toList.take es.length = es.map encE) : Top w base g cap es :=
  ⟨by simp, .inr ⟨g, cap, cur, rfl, h1, h2, h3, h4, by simpa using h5, by simpa using h6⟩⟩
theorem sort_calls {w : World} {base g cap : Nat} {es : List RowE} (hown : Top w base g cap es) (hpos : 0 < es.length) (hr : ∀ e ∈ es, RdE w e ∧ e.1 ≠ g ∧ e.1 < w.heap.size) (hlen : es.length ≤ 1000000000000) :
    Calls Try.prog 40 #[.slice (some ⟨g, 0, none⟩) es.length cap, .func (.func 41) #[] #[]] w fun e w' => e = .returned (.tuple #[]) ∧ ∃ es', Top w' base g cap es' ∧ es'.length = es.length ∧ (∀ x, x ∈ es' ↔ x ∈ es) ∧ es'.Pairwise (fun a b => ¬ cmpL b.2.2 a.2.2 < 0) ∧ w.grownBy w' (some g) := by
  obtain ⟨cur, hb, hh, hn, hc, hs, ht⟩ := hown.parts
  have eg : ∀ args w, (callFunc 41 args).run Try.prog w = .ok (.enter 41 args) w := enters_of Try.func41 (by kernel_rfl) rfl
  haveI : Inhabited {e : RowE // e ∈ es} := ⟨⟨es[0], List.getElem_mem hpos⟩⟩
  have hgl : g < w.heap.size := (Array.getElem?_eq_some_iff.1 hh).1
  have hsz : es.attach.toArray.size = es.length := by simp
  have hH : Holds (fun p : {e : RowE // e ∈ es} => encE p.1) w g 0 es.attach.toArray := by
    intro j hj
    have hj' : j < es.length := by simpa using hj
    refine ⟨?_, by simp [World.frozen?, hh]⟩
    have h1 : (cur.toList.take es.length)[j]? = (es.map encE)[j]? := by rw [ht]
    rw [List.getElem?_take_of_lt hj'] at h1
    simp only [World.cell?, hh, Nat.zero_add]
    simp only [Option.isSome_none, Bool.false_eq_true, if_false]
    rw [← Array.getElem?_toList, h1]
    simp [hj']
  have hcmp : CmpReads Try.prog 41 #[] (fun p : {e : RowE // e ∈ es} => encE p.1) (fun x y => cmpL x.1.2.2 y.1.2.2) g 0 es.attach.toArray.size w := by
    intro m os dk hdk x y
    have key : ∀ x : {e : RowE // e ∈ es}, RdE (sortWorld (fun p : {e : RowE // e ∈ es} => encE p.1) w g 0 m dk os) x.1 := fun x => by
      obtain ⟨h1, h2, h3⟩ := hr x.1 x.2
      exact h1.same ((sw_grown dk).block _ h3 (by intro e; injection e with e; exact h2 e))
    refine (compare_calls x.1 y.1 _ (key x) (key y)).mono ?_
    rintro e w' ⟨rfl, hw⟩
    exact ⟨rfl, 0, by rw [hw]; rfl⟩
  have hO : SWO (ltOf (fun x y : {e : RowE // e ∈ es} => cmpL x.1.2.2 y.1.2.2)) := by
    refine ⟨fun x => ?_, fun x y z h1 h2 => ?_, fun x y z h1 h2 => ?_⟩
    · unfold ltOf; rw [decide_eq_false_iff_not]; intro h; have h2 : cmpL x.1.2.2 x.1.2.2 < 0 := h; rw [cmpL_self] at h2; omega
    · unfold ltOf at *; rw [decide_eq_true_eq] at *; exact cmpL_trans h1 h2
    · unfold ltOf at *; rw [decide_eq_false_iff_not] at *; exact cmpL_ntrans h1 h2
  have hcon := Try.slices_SortFunc (fun p : {e : RowE // e ∈ es} => encE p.1) (fun _ => rfl) (fun x y => cmpL x.1.2.2 y.1.2.2) hO 41 #[] g 0 cap es.attach.toArray w eg hcmp.lays hH hgl (by rw [hsz]; omega)
  rw [hsz] at hcon
  refine hcon.mono ?_
  rintro e w' ⟨rfl, d', n, os, hp, hs', rfl⟩
  have hd : d'.size = es.length := hp.1.trans hsz
  have hperm : d'.toList.Perm es.attach := by
    have := hp.2.2
    rw [Array.extract_eq_self_of_le (by rw [hd]; exact Nat.le_refl _), Array.extract_eq_self_of_le (by rw [hsz]; exact Nat.le_refl _)] at this
    simpa using this
  refine ⟨rfl, d'.toList.map (·.1), ?_, by simp [hd], fun x => ?_, ?_, sw_grown d'⟩
  · refine Top.make hb (sw_block d' hh) (by simp [hd]; omega) hc (by simp [putCells, hs]) ?_
    have := sw_take (enc := fun p : {e : RowE // e ∈ es} => encE p.1) cur d'.toList (by rw [Array.length_toList, hd]; omega)
    rw [Array.toArray_toList, Array.length_toList] at this
    rw [List.length_map, Array.length_toList, this, List.map_map]
    rfl
  · have h1 : x ∈ d'.toList.map (·.1) ↔ x ∈ es.attach.map (·.1) := (hperm.map (·.1)).mem_iff
    rw [h1]
    simp
  · rw [List.pairwise_iff_getElem]
    intro i j hi hj hij
    simp only [List.length_map, Array.length_toList] at hi hj
    have := hs' i j (Nat.zero_le _) hij (by rw [← hd]; exact hj)
    unfold ltOf at this
    rw [decide_eq_false_iff_not] at this
    rw [getElem!_pos d' i hi, getElem!_pos d' j hj] at this
    simpa using this
end Go.Proofs.Ytgfbgbclpeihdaa.Li
