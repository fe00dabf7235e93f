/- The reference's manager: scan: plain lemmas; no condition. -/
import Derived.Test.YtgdadefobhfkcaaHyL1
namespace Go.Proofs.Ytgdadefobhfkcaa.Hy
open Go.RowKit Go.Proofs.YtgdadefobhfkcaaW.PrintWords Go.Proofs.YtgdadefobhfkcaaW.PrintLast Go.Proofs.YtgdadefobhfkcaaW.PrintMore
set_option linter.unusedVariables false
set_option linter.unusedSimpArgs false
set_option maxHeartbeats 8000000
set_option maxRecDepth 100000
theorem info74 : (Try.prog.info? 74).map (fun i => (i.zero, i.size, i.bytes)) = some (some (.agg #[.int .i64 0, .int .i64 0]), 2, 16) := by kernel_rfl
theorem filter_snocD {α : Type} (p : α → Bool) (l : List α) (k : Nat) (d : α) (hk : k < l.length) : (l.take (k + 1)).filter p = (l.take k).filter p ++ (if p (l.getD k d) then [l.getD k d] else []) := by
  rw [List.take_succ_eq_append_getElem hk, List.filter_append]
  congr 1
  have : l.getD k d = l[k] := by simp [hk]
  rw [this]
  cases h : p l[k] <;> simp [h]
section
variable {B : Nat} {w w' : World} {g : Nat} {hv iv : Value} {ps : List (Nat × Nat)} {m : HM}
theorem ref_items {iv' : Value} {ws' : List (Int × Int)} (h : Ref B w g hv iv ps m) (hi : kdI.R 74 w B (fun _ => True) iv' ws') : Ref B (w.setCell ⟨g, 2, none⟩ iv') g hv iv' ps { m with ws := ws' } := by
  refine ⟨h.len, h.small, h.bg, ?_, h.hl.move (fun k hk => Below.heap_setCell w ⟨g, 2, none⟩ iv' k (fun e => ?_)), h.pl, Kd.R_set hi h.top (by decide) _ _⟩
  · rw [blk_set h.top 2 iv']; rfl
  · rw [show k = g from e] at hk
    rcases hk with hk | hk
    · obtain ⟨c, hc⟩ := Kd.R_typed h.hl.top g hk
      exact ne_of_tag h.top hc (by decide) rfl
    · obtain ⟨t, ht, e⟩ := mem_rows hk
      obtain ⟨c, hc⟩ := Kd.R_typed (h.hl.row t ht) _ rfl
      exact ne_of_tag h.top hc (by decide) e.symm
/-- What scan leaves: its cells and the items alone are changed. -/
def ScanPost (B : Nat) (w : World) (g : Nat) (hv : Value) (ps : List (Nat × Nat)) (m' : HM) (bs : List Int) (e : Ending) (w' : World) : Prop :=
  ∃ v iv', e = .returned v ∧ Kd.R (Kd.int .i64) 3 w' w.heap.size (fun _ => True) v bs ∧ Ref B w' g hv iv' ps m' ∧ Kept w w' (fun k => k = g) ∧ Below B w w' ∧ ∀ k, iv'.ownBlock = some k → w.heap.size ≤ k
theorem rscan_calls (h : Ref B w g hv iv ps m) (hB : B ≤ w.heap.size) (hl : m.ws.length ≤ 100000) (t : Int) :
    Calls Try.prog 46 #[.pointer (some ⟨g, 0, none⟩), .int .i64 t] w (ScanPost B w g hv ps (scanned m t) (backs m t)) := by
  have c2 := h.c2
  have hlt2 := World.block_lt_of_cell? w _ c2
  obtain ⟨Ai, ci, rfl⟩ := Kd.R_slice h.it
  have HI := Aside0.mk h.it
  have HF := Aside0.mk h
  have C2 := Aside0.mk (fun (W : World) (hb : Below w.heap.size w W) => (hb.cell hlt2).trans c2)
  have HB := Aside0.mk (Below.refl w.heap.size w)
  have HHELD := Aside0.mk (fun (W : World) (hb : Below w.heap.size w W) (a : Int) => rheld_calls (h.grow hb) a)
  obtain ⟨p, hp⟩ : ∃ p, p = goes m.hs t := ⟨_, rfl⟩
  obtain ⟨P, hP⟩ : ∃ P, P = fun x => !goes m.hs t x := ⟨_, rfl⟩
  have hpx : ∀ x : Int × Int, p x = ((x.1 == t) && !(m.hs.contains x.2)) := fun x => by rw [hp]; rfl
  have hPx : ∀ x : Int × Int, P x = !((x.1 == t) && !(m.hs.contains x.2)) := fun x => by rw [hP]; rfl
  have HP := Aside0.mk hp
  have HPP := Aside0.mk hP
  have HPX := Aside0.mk hpx
  have HPPX := Aside0.mk hPx
  have HS := Aside0.mk (fun k hk => filter_snocD p m.ws k (0, 0) hk)
  have HSS := Aside0.mk (fun k hk => filter_snocD P m.ws k (0, 0) hk)
  have hlen : ∀ k, ((m.ws.take k).filter p).length ≤ 100000 ∧ ((m.ws.take k).filter P).length ≤ 100000 := fun k =>
    ⟨Nat.le_trans (List.length_filter_le _ _) (by rw [List.length_take]; omega), Nat.le_trans (List.length_filter_le _ _) (by rw [List.length_take]; omega)⟩
  have HLEN := Aside0.mk hlen
  have HE := Aside0.mk (show ((m.ws.take m.ws.length).filter p).map (·.2) = backs m t by rw [List.take_length, hp]; rfl)
  have HEE := Aside0.mk (show (m.ws.take m.ws.length).filter P = (scanned m t).ws by rw [List.take_length, hP]; rfl)
  obtain ⟨L, hL⟩ : ∃ L, L = m.ws.length := ⟨_, rfl⟩
  rw [← hL] at hl HS HSS HE HEE c2 C2 HI HF
  have HLL := Aside0.mk hL
  clear h hp hP hpx hPx hlen hL hlt2
  go_enter Try.func46, Try.ntmps46
  go_wp2
  go_loopg [5, 6, 7] L (fun gg v5 v6 v7 wr => ∃ kk : Nat, kk ≤ L ∧ L - kk ≤ gg ∧ v7 = .int .i64 kk ∧ Aside0 (Kd.R (Kd.int .i64) 3 wr w.heap.size (fun _ => True) v5 (((m.ws.take kk).filter p).map (·.2))) ∧ Aside0 (kdI.R 74 wr w.heap.size (fun _ => True) v6 ((m.ws.take kk).filter P)) ∧ Aside0 (Below w.heap.size w wr))
  case atStart => exact ⟨0, Nat.zero_le _, by omega, rfl, ⟨by simpa using Kd.R_nil _ _ _ _ _⟩, ⟨by simpa using Kd.R_nil _ _ _ _ _⟩, HB⟩
  case round =>
    clear HB c2
    obtain ⟨kk, hkk, hgg, rfl, HO, HQ, HB⟩ := hrel
    have c2 := C2.out wr HB.out
    by_cases hlt : kk < L
    · obtain ⟨gi, rfl, hgi, hx, hy⟩ := item_cells HI.out kk (by rw [← HLL.out]; exact hlt)
      replace hx := (HB.out.cell (p := ⟨gi, kk * 2, none⟩) hgi).trans hx
      replace hy := (HB.out.cell (p := ⟨gi, kk * 2 + 1, none⟩) hgi).trans hy
      have hs1 := HS.out kk hlt
      have hs2 := HSS.out kk hlt
      have hq1 := HPX.out (m.ws.getD kk (0, 0))
      have hq2 := HPPX.out (m.ws.getD kk (0, 0))
      obtain ⟨hl1, hl2⟩ := HLEN.out kk
      generalize m.ws.getD kk (0, 0) = x at *
      obtain ⟨xt, xa⟩ := x
      simp only at hx hy hq1 hq2
      have hlim1 : ((((m.ws.take kk).filter p).map (·.2)).length + 1) * 8 ≤ 140737488355328 := by rw [List.length_map]; omega
      have hlim2 : (((m.ws.take kk).filter P).length + 1) * 16 ≤ 140737488355328 := by omega
      generalize (m.ws.take kk).filter p = L1 at *
      generalize (m.ws.take kk).filter P = L2 at *
      have HS1 := Aside0.mk hs1
      have HS2 := Aside0.mk hs2
      generalize p (xt, xa) = b1 at *
      generalize P (xt, xa) = b2 at *
      clear hs1 hs2 hl1 hl2
      by_cases hxt : xt = t
      · subst hxt
        have HHC := Aside0.mk (HHELD.out (wr.alloc (.cells #[.int .i64 xa, .int .i64 xt] 74 (0, 0))) (HB.out.alloc HB.out.size _) xa)
        cases hc : m.hs.contains xa with
        | true =>
          rw [hc] at hq1 hq2 HHC
          have HB1 := Aside0.mk (show b1 = false by rw [hq1]; simp)
          have HB2 := Aside0.mk (show b2 = true by rw [hq2]; simp)
          clear hq1 hq2 hc
          go_wp2_with (first
            | (go_at_call 54; refine (HHC.out).mono ?_; rintro e w6 ⟨rfl, hw⟩; rw [hw]; clear hw)
            | ((with_reducible refine gate_builtin (b := .append) (xs := #[.tmp 41, .tmp 43]) rfl ?_); at_builtin; refine Kd.R_append kdI (w0 := w) w.heap.size rfl (.tmp 41) (.tmp 43) 62 74 (.agg #[.int .i64 0, .int .i64 0]) 16 rfl Try.underlying62 info74 rfl (by decide) (by omega) u6 L2 (xt, xa) [.int .i64 xa, .int .i64 xt] (fun _ => True) (fun _ => False) rfl (by rw [alloc_size]; rfl) ⟨[.int .i64 xa], [.int .i64 xt], rfl, rfl, rfl⟩ (fun _ hk => hk.elim) (fun _ _ => trivial) (Kd.R_alloc HQ.out _) (HB.out.alloc HB.out.size _) (by rw [alloc_size]; exact Nat.le_succ_of_le HB.out.size) hlim2 ?_; intro v1 wn ho hb hg hat; have HN := Aside0.mk ho; have HBN := Aside0.mk hb; have HON := Aside0.mk (Kd.R_over' (Kd.R_alloc HO.out _) (fun k hk => Kd.R_typed (Kd.R_alloc HQ.out _) k hk) (by decide) hg); clear ho hb hg hat))
          go_roundg (L - (kk + 1))
          case measure => omega
          case rel => exact ⟨kk + 1, by omega, by omega, by go_num, by rw [HS1.out, HB1.out, if_neg (by decide), List.append_nil]; exact HON, by rw [HS2.out, HB2.out, if_pos rfl]; exact HN, HBN⟩
  
        | false =>
          rw [hc] at hq1 hq2 HHC
          have HB1 := Aside0.mk (show b1 = true by rw [hq1]; simp)
          have HB2 := Aside0.mk (show b2 = false by rw [hq2]; simp)
          clear hq1 hq2 hc
          go_wp2_with (first
            | (go_at_call 54; refine (HHC.out).mono ?_; rintro e w6 ⟨rfl, hw⟩; rw [hw]; clear hw)
            | ((with_reducible refine gate_builtin (b := .append) (xs := #[.tmp 36, .tmp 39]) rfl ?_); at_builtin; refine Kd.R_append (Kd.int .i64) (w0 := w) w.heap.size rfl (.tmp 36) (.tmp 39) 29 3 (.int .i64 0) 8 rfl Try.underlying29 info3 rfl (by decide) (by omega) u5 (L1.map (·.2)) xa [.int .i64 xa] (fun _ => True) (fun _ => False) rfl (by rw [alloc_size]; rfl) rfl (fun _ hk => hk.elim) (fun _ _ => trivial) (Kd.R_alloc HO.out _) (HB.out.alloc HB.out.size _) (by rw [alloc_size]; exact Nat.le_succ_of_le HB.out.size) hlim1 ?_; intro v1 wn ho hb hg hat; have HN := Aside0.mk ho; have HBN := Aside0.mk hb; have HQN := Aside0.mk (Kd.R_over' (Kd.R_alloc HQ.out _) (fun k hk => Kd.R_typed (Kd.R_alloc HO.out _) k hk) (by decide) hg); clear ho hb hg hat))
          go_roundg (L - (kk + 1))
          case measure => omega
          case rel => exact ⟨kk + 1, by omega, by omega, by go_num, by rw [HS1.out, HB1.out, if_pos rfl, List.map_append]; exact HN, by rw [HS2.out, HB2.out, if_neg (by decide), List.append_nil]; exact HQN, HBN⟩
  
      · have hne : (xt == t) = false := by simpa using hxt
        rw [hne] at hq1 hq2
        have HB1 := Aside0.mk (show b1 = false by rw [hq1]; rfl)
        have HB2 := Aside0.mk (show b2 = true by rw [hq2]; rfl)
        have HHC := Aside0.mk trivial
        clear hq1 hq2 hxt
        go_wp2_with (first
          | ((with_reducible refine gate_builtin (b := .append) (xs := #[.tmp 41, .tmp 43]) rfl ?_); at_builtin; refine Kd.R_append kdI (w0 := w) w.heap.size rfl (.tmp 41) (.tmp 43) 62 74 (.agg #[.int .i64 0, .int .i64 0]) 16 rfl Try.underlying62 info74 rfl (by decide) (by omega) u6 L2 (xt, xa) [.int .i64 xa, .int .i64 xt] (fun _ => True) (fun _ => False) rfl (by rw [alloc_size]; rfl) ⟨[.int .i64 xa], [.int .i64 xt], rfl, rfl, rfl⟩ (fun _ hk => hk.elim) (fun _ _ => trivial) (Kd.R_alloc HQ.out _) (HB.out.alloc HB.out.size _) (by rw [alloc_size]; exact Nat.le_succ_of_le HB.out.size) hlim2 ?_; intro v1 wn ho hb hg hat; have HN := Aside0.mk ho; have HBN := Aside0.mk hb; have HON := Aside0.mk (Kd.R_over' (Kd.R_alloc HO.out _) (fun k hk => Kd.R_typed (Kd.R_alloc HQ.out _) k hk) (by decide) hg); clear ho hb hg hat))
        go_roundg (L - (kk + 1))
        case measure => omega
        case rel => exact ⟨kk + 1, by omega, by omega, by go_num, by rw [HS1.out, HB1.out, if_neg (by decide), List.append_nil]; exact HON, by rw [HS2.out, HB2.out, if_pos rfl]; exact HN, HBN⟩

    · have hkl : kk = L := by omega
      have hfr : wr.frozen? ⟨g, 2, none⟩ = false := blk_frozen ((HF.out.grow HB.out).top) 2
      obtain ⟨A6, c6, rfl⟩ := Kd.R_slice HQ.out
      go_wp2
      go_ret
      rw [hkl, HE.out] at HO
      rw [hkl, HEE.out] at HQ
      have hsz := HB.out.size
      have hit := ref_items (HF.out.grow HB.out) (Kd.R_lower HQ.out hB)
      have hgl : g < w.heap.size := blk_lt HF.out.top
      rw [hkl, HEE.out] at *
      exact ⟨_, _, rfl, Kd.R_set HO.out ((HF.out.grow HB.out).top) (by decide) _ _, hit, (Kept.of_below HB.out (fun k => k = g)).setCell (p := ⟨g, 2, none⟩) (.inl rfl) _, (HB.out.mono hB).setCell (p := ⟨g, 2, none⟩) HF.out.bg _, fun k hk => Kd.R_base HQ.out k hk⟩
end
end Go.Proofs.Ytgdadefobhfkcaa.Hy
