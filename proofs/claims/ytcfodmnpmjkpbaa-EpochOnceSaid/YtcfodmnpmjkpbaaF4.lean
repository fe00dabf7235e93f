/- Free and Sweep of the reference: plain lemmas; no condition. -/
import Derived.Test.YtcfodmnpmjkpbaaF3
import Derived.Deep.QuietTactic
import Derived.BigQuiet
namespace Go.Proofs.Ytcfodmnpmjkpbaa.Ep
open Go.RowKit Go.Proofs.YtcfodmnpmjkpbaaW.PrintWords Go.Proofs.YtcfodmnpmjkpbaaW.PrintLast Go.Proofs.YtcfodmnpmjkpbaaW.PrintMore
set_option linter.unusedVariables false
set_option linter.unusedSimpArgs false
set_option maxHeartbeats 8000000
set_option maxRecDepth 100000
theorem info80 : (Try.prog.info? 80).map (fun i => (i.zero, i.size, i.bytes)) = some (some (.agg #[.int .i64 0, .int .i64 0, .int .i64 0, .int .i64 0, .bool false, .bool false, .bool false, .bool false]), 8, 40) := by kernel_rfl
def rgoes (now : Int) (p : P3) : Bool := decide (p.2.2 ≤ now - 2)
def swept (m : RM) : RM := { m with its := m.its.filter fun x => !rgoes m.now x }
def sweptBack (m : RM) : List Int := (m.its.filter (rgoes m.now)).map (·.1)
def itemV (p : P3) : Value := .agg #[.int .i64 p.1, .int .i64 p.2.1, .int .i64 p.2.2, .int .i64 0, .bool false, .bool false, .bool false, .bool false]
section
variable {B : Nat} {w : World} {r : Nat} {iv : Value} {m : RM}
theorem free_calls (r : Nat) (now : Int) (k1 : w.cell? ⟨r, 1, none⟩ = some (.int .i64 2)) (k3 : w.cell? ⟨r, 3, none⟩ = some (.int .i64 now)) (h0 : 0 ≤ now) (h1 : now ≤ 1000000) (a t e : Int) :
    Calls Try.prog 59 #[.pointer (some ⟨r, 0, none⟩), .agg #[.int .i64 a, .int .i64 t, .int .i64 e, .int .i64 0, .bool false, .bool false, .bool false, .bool false]] w fun e' w' => e' = .returned (.bool (rgoes now (a, t, e))) ∧ Below w.heap.size w w' := by
  have hbe := (Below.refl w.heap.size w).alloc (Nat.le_refl _) (.cells #[.int .i64 a, .int .i64 t, .int .i64 e, .int .i64 0, .bool false, .bool false, .bool false, .bool false] 80 (0, 0))
  have j1 := (hbe.cell (p := ⟨r, 1, none⟩) (World.block_lt_of_cell? w _ k1)).trans k1
  have j3 := (hbe.cell (p := ⟨r, 3, none⟩) (World.block_lt_of_cell? w _ k3)).trans k3
  have hw2 : IntKind.i64.wrap (now - 2) = now - 2 := IntWalk.i64_in _ (by omega)
  have HBE := Aside0.mk hbe
  clear hbe k1 k3
  by_cases h : e ≤ now - 2
  · have e1 : rgoes now (a, t, e) = true := decide_eq_true h
    rw [e1]
    have hd := decide_eq_true h
    clear e1
    go_enter Try.func59, Try.ntmps59
    go_wp2
    go_quiet (fail)
    go_wp2
    go_ret
    exact ⟨rfl, pw_below_drewN HBE.out _⟩
  · have e1 : rgoes now (a, t, e) = false := decide_eq_false h
    rw [e1]
    have hd := decide_eq_false h
    clear e1 h
    go_enter Try.func59, Try.ntmps59
    go_wp2
    go_quiet (fail)
    go_wp2
    go_ret
    exact ⟨rfl, pw_below_drewN HBE.out _⟩
theorem R_other {W W1 : World} {base b n : Nat} {e : TypeId} {s : Nat} {v u : Value} {xs : List Int} {ys : List Value} (h : Kd.R (Kd.int .i64) 3 W base (fun _ => True) v xs) (ho : W.ownsRow b e s u n ys) (hne : 3 ≠ e) (hg : W.grownBy W1 u.ownBlock) : Kd.R (Kd.int .i64) 3 W1 base (fun _ => True) v xs := by
  have h1 := Kd.own_of_R h
  exact Kd.R_of_own (h1 := fun _ => rfl) (own_other h1 hg (own_type_ne h1 ho hne)) (fun _ _ => trivial)
theorem put_its {cur : Array Value} {iv iv' : Value} {m m' : RM} (h : RefB cur iv m) (hn : m'.n = m.n) (hnow : m'.now = m.now) (hins : m'.ins = m.ins) (hlo : m'.lo = m.lo) : RefB (cur.setIfInBounds 28 iv') iv' m' := by
  have hs := h.size
  have g : ∀ j, j ≠ 28 → (cur.setIfInBounds 28 iv')[j]? = cur[j]? := fun j hj => by
    rw [Array.getElem?_setIfInBounds, if_neg (fun e => hj e.symm)]
  refine ⟨by simpa using hs, ?_, ?_, ?_, ?_, fun j j1 j2 => ?_, fun t ht => ?_, fun t ht => ?_, fun t ht => ?_, ?_, ?_⟩
  · rw [g _ (by omega)]; exact h.k0
  · rw [g _ (by omega)]; exact h.k1
  · rw [g _ (by omega), hn]; exact h.k2
  · rw [g _ (by omega), hnow]; exact h.k3
  · rw [g _ (by omega)]; exact h.hs j j1 j2
  · rw [g _ (by omega), hins]; exact h.ins t ht
  · rw [g _ (by omega), hlo]; exact h.lo t ht
  · rw [g _ (by omega)]; exact h.hi t ht
  · rw [Array.getElem?_setIfInBounds, if_pos rfl, if_pos (by omega)]
  · rw [g _ (by omega)]; exact h.born
theorem rR_deed {w' : World} {base : Nat} {v : Value} {xs : List Int} (h : Kd.R (Kd.int .i64) 3 w base (fun _ => True) v xs) (hr : Ref B w r iv m) (hk : Kept w w' (rfoot r iv)) : Kd.R (Kd.int .i64) 3 w' base (fun _ => True) v xs := by
  refine Kd.R_mono (Kd.R_step (Kd.R_bound h) (fun k hk1 hlt => hk.2 k hlt (fun hf => ?_))) (fun _ _ => trivial)
  obtain ⟨_, hb, _, q, hq, cells, hc⟩ := hk1
  have hq3 : q = 3 := by simpa [Kd.int, Kd.scalar] using hq
  subst hq3
  rcases hf with rfl | hf
  · obtain ⟨cur, c1, _⟩ := hr.top
    exact ne_of_tag hc c1 (by decide) rfl
  · obtain ⟨c, hc2⟩ := own_tag hr.own k hf
    exact ne_of_tag hc2 hc (by decide) rfl
theorem filt_snoc (p : P3 → Bool) (l : List P3) (j : Nat) (hj : j < l.length) : (l.take (j + 1)).filter p = (l.take j).filter p ++ (if p (l.getD j (0, 0, 0)) then [l.getD j (0, 0, 0)] else []) := by
  rw [List.take_succ_eq_append_getElem hj, List.filter_append]
  congr 1
  have : l.getD j (0, 0, 0) = l[j] := by simp [hj]
  rw [this]
  cases h : p l[j] <;> simp [h]
theorem sweep_calls (hr : Ref B w r iv m) (hB : B ≤ w.heap.size) (hl : m.its.length ≤ 100000) (h0 : 0 ≤ m.now) (h1 : m.now ≤ 1000000) :
    Calls Try.prog 46 #[.pointer (some ⟨r, 0, none⟩), .int .i64 (-1)] w fun e w' => ∃ v, e = .returned v ∧ Kd.R (Kd.int .i64) 3 w' w.heap.size (fun _ => True) v (sweptBack m) ∧ RAfter B w r iv (swept m) w' := by
  obtain ⟨cur2, c1, c2⟩ := hr.top
  obtain ⟨A, c, hiv⟩ := own_form hr.own
  subst hiv
  have k1 : w.cell? ⟨r, 1, none⟩ = some (.int .i64 2) := by rw [Go.Lib.cell_of_heap c1]; exact c2.k1
  have k3 : w.cell? ⟨r, 3, none⟩ = some (.int .i64 m.now) := by rw [Go.Lib.cell_of_heap c1]; exact c2.k3
  have k8 : w.cell? ⟨r, 28, none⟩ = some (.slice A m.its.length c) := by rw [Go.Lib.cell_of_heap c1]; exact c2.its
  have hrl := hr.lt
  have HR := Aside0.mk hr
  have HC1 := Aside0.mk c1
  have HC2 := Aside0.mk c2
  clear hr c1 c2
  have HB := Aside0.mk (Below.refl w.heap.size w)
  go_enter Try.func46, Try.ntmps46
  go_wp2
  go_loopg [5, 6, 7, 8] m.its.length (fun gg v5 v6 v7 v8 wr => ∃ kk : Nat, kk ≤ m.its.length ∧ m.its.length - kk ≤ gg ∧ v7 = .int .i64 kk ∧ Aside0 (Kd.R (Kd.int .i64) 3 wr w.heap.size (fun _ => True) v6 (((m.its.take kk).filter (rgoes m.now)).map (·.1))) ∧ Aside0 (wr.ownsRow w.heap.size 80 8 v5 ((m.its.take kk).filter (fun x => !rgoes m.now x)).length (flat8 ((m.its.take kk).filter (fun x => !rgoes m.now x)))) ∧ Aside0 (Below w.heap.size w wr))
  case atStart => exact ⟨0, Nat.zero_le _, by omega, rfl, ⟨by simpa using Kd.R_nil _ _ _ _ _⟩, ⟨own_nil _ _ _ _⟩, HB⟩
  case round =>
    clear HB
    obtain ⟨kk, hkk, hgg, rfl, HO, HL, HB⟩ := hrel
    replace k1 := (HB.out.cell (p := ⟨r, 1, none⟩) hrl).trans k1
    replace k3 := (HB.out.cell (p := ⟨r, 3, none⟩) hrl).trans k3
    replace k8 := (HB.out.cell (p := ⟨r, 28, none⟩) hrl).trans k8
    by_cases hlt : kk < m.its.length
    · obtain ⟨b, cap, cur3, e, hb1, hb2, hcell⟩ := item_cell (l := m.its) HR.out.own kk hlt
      injection e with e1 _ e2
      subst e1; subst e2
      have hc : ∀ i, i < 8 → wr.cell? ⟨b, kk * 8 + i, none⟩ = (item8 (m.its.getD kk (0, 0, 0)))[i]? := fun i hi => (HB.out.cell (p := ⟨b, kk * 8 + i, none⟩) (blk_lt hb2)).trans (hcell i hi)
      have hs1 := filt_snoc (rgoes m.now) m.its kk hlt
      have hs2 := filt_snoc (fun x => !rgoes m.now x) m.its kk hlt
      have hn1 : ((m.its.take kk).filter (rgoes m.now)).length ≤ 100000 := Nat.le_trans (List.length_filter_le _ _) (by rw [List.length_take]; omega)
      have hn2 : ((m.its.take kk).filter (fun x => !rgoes m.now x)).length ≤ 100000 := Nat.le_trans (List.length_filter_le _ _) (by rw [List.length_take]; omega)
      obtain ⟨p, hp⟩ : ∃ p, p = m.its.getD kk (0, 0, 0) := ⟨_, rfl⟩
      rw [← hp] at hc hs1 hs2
      obtain ⟨pa, pt, pe⟩ := p
      have q0 : wr.cell? ⟨b, kk * 8, none⟩ = some (.int .i64 pa) := hc 0 (by omega)
      have q1 : wr.cell? ⟨b, kk * 8 + 1, none⟩ = some (.int .i64 pt) := hc 1 (by omega)
      have q2 : wr.cell? ⟨b, kk * 8 + 2, none⟩ = some (.int .i64 pe) := hc 2 (by omega)
      have q3 : wr.cell? ⟨b, kk * 8 + 3, none⟩ = some (.int .i64 0) := hc 3 (by omega)
      have q4 : wr.cell? ⟨b, kk * 8 + 4, none⟩ = some (.bool false) := hc 4 (by omega)
      have q5 : wr.cell? ⟨b, kk * 8 + 5, none⟩ = some (.bool false) := hc 5 (by omega)
      have q6 : wr.cell? ⟨b, kk * 8 + 6, none⟩ = some (.bool false) := hc 6 (by omega)
      have q7 : wr.cell? ⟨b, kk * 8 + 7, none⟩ = some (.bool false) := hc 7 (by omega)
      clear hc hcell hp hb2
      have hbe := (Below.refl wr.heap.size wr).alloc (Nat.le_refl _) (.cells #[.int .i64 pa, .int .i64 pt, .int .i64 pe, .int .i64 0, .bool false, .bool false, .bool false, .bool false] 80 (0, 0))
      have j1 := (hbe.cell (p := ⟨r, 1, none⟩) (World.block_lt_of_cell? _ _ k1)).trans k1
      have j3 := (hbe.cell (p := ⟨r, 3, none⟩) (World.block_lt_of_cell? _ _ k3)).trans k3
      have hfree := free_calls r m.now j1 j3 h0 h1 pa pt pe
      have hnew := heap_alloc_new wr (.cells #[.int .i64 pa, .int .i64 pt, .int .i64 pe, .int .i64 0, .bool false, .bool false, .bool false, .bool false] 80 (0, 0))
      have HBE := Aside0.mk hbe
      have HN := Aside0.mk hnew
      clear hbe hnew
      cases hq : rgoes m.now (pa, pt, pe) with
      | true =>
        rw [hq] at hfree
        rw [hq, if_pos rfl] at hs1
        rw [hq, if_neg (by decide), List.append_nil] at hs2
        have hlim : (((((m.its.take kk).filter (rgoes m.now)).map (·.1))).length + 1) * 8 ≤ 140737488355328 := by rw [List.length_map]; omega
        have HS1 : Aside0 (((m.its.take (kk + 1)).filter (rgoes m.now)).map (·.1) = ((m.its.take kk).filter (rgoes m.now)).map (·.1) ++ [pa]) := ⟨by rw [hs1, List.map_append]; rfl⟩
        have HS2 := Aside0.mk hs2
        clear hs1 hs2 hq hn1 hn2
        generalize ((m.its.take kk).filter (rgoes m.now)).map (·.1) = L1 at *
        generalize (m.its.take kk).filter (fun x => !rgoes m.now x) = L2 at *
        go_wp2_with (first
          | (go_at_call 59; refine hfree.mono ?_; rintro e w1 ⟨rfl, hb⟩; have HB1 := Aside0.mk (btrans HBE.out hb); have x0 : w1.cell? ⟨wr.heap.size, 0, none⟩ = some (.int .i64 pa) := (by rw [Go.Lib.cell_of_heap ((hb.block _ (blk_lt HN.out)).trans HN.out)]; rfl); have HO1 := Aside0.mk (Kd.R_below HO.out HB1.out); have HL1 := Aside0.mk (pw_own_below HL.out HB1.out); have HBB := Aside0.mk (btrans HB.out HB1.out); clear hb HO HL HB hfree)
          | ((with_reducible refine gate_builtin (b := .append) (xs := #[.tmp 39, .tmp 42]) rfl ?_); at_builtin; refine Kd.R_append (Kd.int .i64) (w0 := w) w.heap.size rfl (.tmp 39) (.tmp 42) 41 3 (.int .i64 0) 8 rfl Try.underlying41 info3 rfl (by decide) (by omega) u6 L1 pa [.int .i64 pa] (fun _ => True) (fun _ => False) rfl rfl ?aP (fun _ hk => hk.elim) (fun _ _ => trivial) HO1.out HBB.out HBB.out.size hlim ?_; (case aP => exact rfl); intro v1 wn ho hb hg hat; have HO2 := Aside0.mk ho; have HB2 := Aside0.mk hb; have HL2 := Aside0.mk (own_other HL1.out hg (own_type_ne HL1.out (Kd.own_of_R HO1.out) (by decide))); clear ho hb hg hat))
        go_roundg (m.its.length - (kk + 1))
        case measure => omega
        case rel => exact ⟨kk + 1, by omega, by omega, by go_num, by rw [HS1.out]; exact HO2, by rw [HS2.out]; exact HL2, HB2⟩
      | false =>
        rw [hq] at hfree
        rw [hq, if_neg (by decide), List.append_nil] at hs1
        rw [hq, if_pos (by decide)] at hs2
        have hlim : (((m.its.take kk).filter (fun x => !rgoes m.now x)).length + 1) * 40 ≤ 140737488355328 := by omega
        have HS1 : Aside0 (((m.its.take (kk + 1)).filter (rgoes m.now)).map (·.1) = ((m.its.take kk).filter (rgoes m.now)).map (·.1)) := ⟨by rw [hs1]⟩
        have HS2 : Aside0 (((m.its.take (kk + 1)).filter (fun x => !rgoes m.now x)).length = ((m.its.take kk).filter (fun x => !rgoes m.now x)).length + 1 ∧ flat8 ((m.its.take (kk + 1)).filter (fun x => !rgoes m.now x)) = flat8 ((m.its.take kk).filter (fun x => !rgoes m.now x)) ++ [.int .i64 pa, .int .i64 pt, .int .i64 pe, .int .i64 0, .bool false, .bool false, .bool false, .bool false]) := ⟨by rw [hs2, List.length_append]; rfl, by rw [hs2, flat8_append]; rfl⟩
        have hone : ∀ u ∈ [Value.int .i64 pa, .int .i64 pt, .int .i64 pe, .int .i64 0, .bool false, .bool false, .bool false, .bool false], u.oneCell' = true := by
          intro u hu
          simp at hu
          rcases hu with rfl | rfl | rfl | rfl | rfl <;> rfl
        have HONE := Aside0.mk hone
        clear hs1 hs2 hq hn1 hn2 hone
        generalize ((m.its.take kk).filter (rgoes m.now)).map (·.1) = L1b at *
        generalize (m.its.take kk).filter (fun x => !rgoes m.now x) = L2 at *
        go_wp2_with (first
          | (go_at_call 59; refine hfree.mono ?_; rintro e w1 ⟨rfl, hb⟩; have HB1 := Aside0.mk (btrans HBE.out hb); have hx := ((hb.block _ (blk_lt HN.out)).trans HN.out); have x0 : w1.cell? ⟨wr.heap.size, 0, none⟩ = some (.int .i64 pa) := (by rw [Go.Lib.cell_of_heap hx]; rfl); have x1 : w1.cell? ⟨wr.heap.size, 1, none⟩ = some (.int .i64 pt) := (by rw [Go.Lib.cell_of_heap hx]; rfl); have x2 : w1.cell? ⟨wr.heap.size, 2, none⟩ = some (.int .i64 pe) := (by rw [Go.Lib.cell_of_heap hx]; rfl); have x3 : w1.cell? ⟨wr.heap.size, 3, none⟩ = some (.int .i64 0) := (by rw [Go.Lib.cell_of_heap hx]; rfl); have x4 : w1.cell? ⟨wr.heap.size, 4, none⟩ = some (.bool false) := (by rw [Go.Lib.cell_of_heap hx]; rfl); have x5 : w1.cell? ⟨wr.heap.size, 5, none⟩ = some (.bool false) := (by rw [Go.Lib.cell_of_heap hx]; rfl); have x6 : w1.cell? ⟨wr.heap.size, 6, none⟩ = some (.bool false) := (by rw [Go.Lib.cell_of_heap hx]; rfl); have x7 : w1.cell? ⟨wr.heap.size, 7, none⟩ = some (.bool false) := (by rw [Go.Lib.cell_of_heap hx]; rfl); have HO1 := Aside0.mk (Kd.R_below HO.out HB1.out); have HL1 := Aside0.mk (pw_own_below HL.out HB1.out); have HBB := Aside0.mk (btrans HB.out HB1.out); clear hb hx HO HL HB hfree)
          | ((with_reducible refine gate_builtin (b := .append) (xs := #[.tmp 44, .tmp 46]) rfl ?_); at_builtin; refine print_append_cells (w0 := w) w.heap.size rfl (.tmp 44) (.tmp 46) 35 80 (.agg #[.int .i64 0, .int .i64 0, .int .i64 0, .int .i64 0, .bool false, .bool false, .bool false, .bool false]) 8 40 rfl Try.underlying35 info80 rfl (by decide) (by decide) u5 L2.length (flat8 L2) [.int .i64 pa, .int .i64 pt, .int .i64 pe, .int .i64 0, .bool false, .bool false, .bool false, .bool false] rfl rfl rfl HONE.out HL1.out HBB.out HBB.out.size hlim ?_; intro v1 wn ho hb hg hat; have HL2 := Aside0.mk ho; have HB2 := Aside0.mk hb; have HO2 := Aside0.mk (R_other HO1.out HL1.out (by decide) hg); clear ho hb hg hat))
        go_roundg (m.its.length - (kk + 1))
        case measure => omega
        case rel =>
          refine ⟨kk + 1, by omega, by omega, by go_num, ?_, ?_, HB2⟩
          · rw [HS1.out]; exact HO2
          · rw [HS2.out.1, HS2.out.2]; exact HL2
    · have hkl : kk = m.its.length := by omega
      subst hkl
      have hO := HO.out
      have hL := HL.out
      rw [List.take_length] at hO hL
      have hsb : ((m.its.filter (rgoes m.now)).map (·.1)) = sweptBack m := rfl
      have hsw : (m.its.filter (fun x => !rgoes m.now x)) = (swept m).its := rfl
      rw [hsb] at hO
      rw [hsw] at hL
      have hsl : (sweptBack m).length ≤ 100000 := by unfold sweptBack; rw [List.length_map]; exact Nat.le_trans (List.length_filter_le _ _) hl
      have hcr := (HB.out.block r hrl).trans HC1.out
      have f8 := blk_frozen hcr 28
      have hR2 : Ref B (wr.setCell ⟨r, 28, none⟩ u5) r u5 (swept m) := by
        refine ⟨HR.out.small, HR.out.br, ⟨_, blk_set hcr 28 u5, put_its HC2.out rfl rfl rfl rfl⟩, ?_⟩
        have h2 : wr.ownsRow B 80 8 u5 (swept m).its.length (flat8 (swept m).its) := by
          obtain ⟨p1, p2⟩ := hL
          refine ⟨p1, p2.imp_right ?_⟩
          rintro ⟨b, cap, cur, e, h3, h5⟩
          exact ⟨b, cap, cur, e, Nat.le_trans hB h3, h5⟩
        exact own_setCell h2 (p := ⟨r, 28, none⟩) (fun e => by
          obtain ⟨c, hc⟩ := own_tag h2 r e.symm
          exact ne_of_tag hcr hc (by decide) rfl) u5
      have hO2 : Kd.R (Kd.int .i64) 3 (wr.setCell ⟨r, 28, none⟩ u5) w.heap.size (fun _ => True) u6 (sweptBack m) := R_same hO (fun k hk _ => Below.heap_setCell wr ⟨r, 28, none⟩ u5 k (fun e => by simp at e; omega))
      have hK : Kept w (wr.setCell ⟨r, 28, none⟩ u5) (rfoot r (.slice A m.its.length c)) := (Kept.of_below HB.out _).setCell (p := ⟨r, 28, none⟩) (.inl (.inl rfl)) u5
      have hBl : Below B w (wr.setCell ⟨r, 28, none⟩ u5) := (HB.out.mono hB).setCell (p := ⟨r, 28, none⟩) HR.out.br u5
      have hW : ∀ k, u5.ownBlock = some k → (Value.slice A m.its.length c).ownBlock = some k ∨ w.heap.size ≤ k := fun k hk => .inr (own_base hL k hk)
      obtain ⟨A6, c6, h6⟩ := Kd.R_slice hO2
      subst h6
      obtain ⟨A5, c5, h5⟩ := own_form hL
      subst h5
      have HR2 := Aside0.mk hR2
      have HO2 := Aside0.mk hO2
      have HK := Aside0.mk hK
      have HBl := Aside0.mk hBl
      have HW := Aside0.mk hW
      clear hR2 hO2 hK hBl hW hcr hO hL HO HL HB hsb hsw
      go_wp2
      generalize wr.setCell ⟨r, 28, none⟩ (.slice A5 (swept m).its.length c5) = W at *
      have HH := Aside0.mk (RHold.refl HR2.out)
      go_loopg [9] (sweptBack m).length (fun gg v9 wq => ∃ jj : Nat, jj ≤ (sweptBack m).length ∧ (sweptBack m).length - jj ≤ gg ∧ v9 = .int .i64 jj ∧ Aside0 (RHold B W r (.slice A5 (swept m).its.length c5) (swept m) wq))
      case atStart => exact ⟨0, Nat.zero_le _, by omega, rfl, HH⟩
      case round =>
        clear HH k1 k3 k8 f8
        obtain ⟨jj, hjj, hg2, rfl, HH⟩ := hrel
        have hr3 := rR_deed HO2.out HR2.out HH.out.2.1
        by_cases hj : jj < (sweptBack m).length
        · obtain ⟨ad, rfl, hcd⟩ := reads_R hr3 jj hj
          have hbear := rbear_calls HH.out.1 ((sweptBack m).getD jj 0)
          generalize (sweptBack m).getD jj 0 = y at *
          have HBe := Aside0.mk hbear
          clear hbear hr3
          go_wp2_with (go_at_call 47; refine (HBe.out).mono ?_; rintro e w5 ⟨rfl, hh⟩; have H5 : Aside0 (RHold B W r (.slice A5 (swept m).its.length c5) (swept m) w5) := ⟨⟨hh.1, HH.out.2.1.then_ hh.2.1 (fun k hk => .inl hk), HH.out.2.2.trans hh.2.2⟩⟩; clear hh)
          go_roundg ((sweptBack m).length - (jj + 1))
          case measure => omega
          case rel => exact ⟨jj + 1, by omega, by omega, by go_num, H5⟩
        · have HR3 := Aside0.mk hr3
          clear hr3
          go_wp2
          go_ret
          exact ⟨_, rfl, HR3.out, RAfter.then_ HK.out HBl.out HW.out HH.out.after⟩
end
end Go.Proofs.Ytcfodmnpmjkpbaa.Ep
