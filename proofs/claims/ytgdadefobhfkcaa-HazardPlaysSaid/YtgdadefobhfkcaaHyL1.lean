/- The reference's manager: Out, what waits, held: plain lemmas; no condition. -/
import Derived.Test.YtgdadefobhfkcaaHyL0
namespace Go.Proofs.Ytgdadefobhfkcaa.Hy
open Go.RowKit Go.Proofs.YtgdadefobhfkcaaW.PrintWords Go.Proofs.YtgdadefobhfkcaaW.PrintLast Go.Proofs.YtgdadefobhfkcaaW.PrintMore
set_option linter.unusedVariables false
set_option linter.unusedSimpArgs false
set_option maxHeartbeats 8000000
set_option maxRecDepth 100000
section
variable {B : Nat} {w w' : World} {g : Nat} {hv iv : Value} {ps : List (Nat × Nat)} {m : HM}
theorem ref_putRow {gh c : Nat} (h : Ref B w g (.slice (some ⟨gh, 0, none⟩) ps.length c) iv ps m) (t : Nat) (ht : t < m.n) :
    Ref B ((w.setCell ⟨gh, t, none⟩ (encP (w.heap.size, 3))).alloc (.cells #[.int .i64 0, .int .i64 0, .int .i64 0] 3 (0, 0))) g (.slice (some ⟨gh, 0, none⟩) ps.length c) iv (ps.set t (w.heap.size, 3)) (outed m t) := by
  have hpl := h.pl
  have hlen := h.len
  obtain ⟨cells, hty⟩ := Kd.R_typed h.hl.top gh rfl
  have hgl : gh < w.heap.size := Kd.R_lt h.hl.top gh rfl
  have hB : B ≤ w.heap.size := Nat.le_trans h.bg (Nat.le_of_lt (blk_lt h.top))
  have hput := (h.hl.grow ((Below.refl _ w).alloc (Nat.le_refl _) (.cells #[.int .i64 0, .int .i64 0, .int .i64 0] 3 (0, 0)))).putRow t w.heap.size 3 (by omega) (by omega) (row_new w B hB) (h.hl.fresh _ (Nat.le_refl _))
  rw [World.setCell_alloc_past _ _ _ _ hgl, List.length_set] at hput
  refine ⟨by show (((m.hs.set _ _).set _ _).set _ _).length = m.n * 3; rw [List.length_set, List.length_set, List.length_set, h.len], h.small, h.bg, ?_, hput, by rw [List.length_set]; exact hpl, ?_⟩
  · have h1 := (Below.heap_setCell w ⟨gh, t, none⟩ (encP (w.heap.size, 3)) g (ne_of_tag h.top hty (by decide))).trans h.top
    exact (((Below.refl _ _).alloc (Nat.le_refl _) _).block g (blk_lt h1)).trans h1
  · exact Kd.R_alloc (Kd.R_set h.it hty (by decide) _ _) _
theorem rout_calls (h : Ref B w g hv iv ps m) (hB : B ≤ w.heap.size) (t : Int) : Calls Try.prog 32 #[.pointer (some ⟨g, 0, none⟩), .int .i64 t] w (ToldR B w g hv iv ps (outD m t)) := by
  have HT := Aside0.mk (isThread_calls h t)
  unfold outD
  cases hb : bad m t with
  | true =>
    rw [if_pos rfl]
    have H := Aside0.mk (toldR_same h hB 1)
    rw [hb] at HT
    clear h hb
    go_enter Try.func32, Try.ntmps32
    go_wp2_with (go_at_call 45; refine (HT.out).mono ?_; rintro e w' ⟨rfl, rfl⟩)
    go_ret2
    exact H.out
  | false =>
    rw [if_neg (by simp)]
    rw [hb] at HT
    simp only [bad, Bool.or_eq_false_iff, decide_eq_false_iff_not] at hb
    obtain ⟨tn, rfl⟩ := Int.eq_ofNat_of_zero_le (show 0 ≤ t by omega)
    have htn : tn < m.n := by omega
    have hpl := h.pl
    obtain ⟨A, c, rfl⟩ := h.hl.slice
    obtain ⟨gh, rfl, hbg, hgl, hc1, hf1⟩ := h.hl.cell tn (by omega)
    have HP := Aside0.mk (ref_putRow h tn htn)
    have cc1 := h.c1
    have hgl2 := blk_lt h.top
    have cc1a : ∀ o, (w.alloc o).cell? ⟨g, 1, none⟩ = some (.slice (some ⟨gh, 0, none⟩) ps.length c) := fun o => (((Below.refl w.heap.size w).alloc (Nat.le_refl _) o).cell (World.block_lt_of_cell? w _ cc1)).trans cc1
    have hmk := make3
    have HPL := Aside0.mk hpl
    have htl : (tn : Int) < ps.length := by omega
    generalize ps.getD tn (0, 0) = q at hc1
    obtain ⟨q1, q2⟩ := q
    simp only [encP] at hc1
    clear h hpl hb
    rw [Int.toNat_natCast]
    go_enter Try.func32, Try.ntmps32
    go_wp2_with (go_at_call 45; refine (HT.out).mono ?_; rintro e w' ⟨rfl, rfl⟩)
    go_region
    go_wp2
    go_ret2
    refine ⟨_, rfl, Kd.R_nil _ _ _ _ _, _, _, _, HP.out.grow (below_drew (Below.refl _ _)), ?_, ?_, fun k hk => ?_⟩
    · exact ((((Kept.refl _ _).setCell (p := ⟨gh, tn, none⟩) (.inl (.inr (.inl rfl))) _).alloc _).drew)
    · exact below_drew (((Below.refl _ _).setCell (p := ⟨gh, tn, none⟩) hbg _).alloc (by rw [World.size_setCell]; exact hB) _)
    · rcases hk with h | h | h | h
      · exact .inl (.inl h)
      · exact .inl (.inr (.inl h))
      · exact .inl (.inr (.inr (.inl h)))
      · obtain ⟨p, hp, rfl⟩ := List.mem_map.1 h
        rcases List.mem_or_eq_of_mem_set hp with hp | rfl
        · exact .inl (.inr (.inr (.inr (List.mem_map.2 ⟨p, hp, rfl⟩))))
        · exact .inr (Nat.le_refl _)
/-- An item's cells. -/
theorem item_cells {A : Option Addr} {n c : Nat} {l : List (Int × Int)} (h : kdI.R 74 w B (fun _ => True) (.slice A n c) l) (j : Nat) (hj : j < l.length) :
    ∃ gi, A = some ⟨gi, 0, none⟩ ∧ gi < w.heap.size ∧ w.cell? ⟨gi, j * 2, none⟩ = some (.int .i64 (l.getD j (0, 0)).2) ∧ w.cell? ⟨gi, j * 2 + 1, none⟩ = some (.int .i64 (l.getD j (0, 0)).1) := by
  obtain ⟨gi, cap, e, hb, hlt, _⟩ := Kd.R_form h (by omega)
  injection e with e1 e2 e3
  subst e1; subst e2; subst e3
  obtain ⟨cs, hcl, ⟨c0, c1, e, h0, h1⟩, hc, _⟩ := Kd.R_elem h (0, 0) (j : Int) (by omega) (by omega)
  have h0' : c0 = [.int .i64 (l.getD j (0, 0)).2] := h0
  have h1' : c1 = [.int .i64 (l.getD j (0, 0)).1] := h1
  subst h0'; subst h1'
  subst e
  rw [Int.toNat_natCast] at hc
  exact ⟨gi, rfl, hlt, hc 0 _ rfl, hc 1 _ rfl⟩
theorem heldT_iff {hs : List Int} {n : Nat} (hl : hs.length = n * 3) (x : Int) : heldT hs x n = hs.contains x := by
  cases hc : hs.contains x with
  | true => exact heldT_all hl x hc
  | false =>
    have key : ∀ k, k ≤ n → heldT hs x k = false := by
      intro k
      induction k with
      | zero => exact fun _ => rfl
      | succ k ih =>
        intro hk
        unfold heldT
        rw [ih (by omega), Bool.false_or]
        rw [Bool.eq_false_iff]
        intro h3
        have hm : x ∈ three hs k := by simpa using h3
        have hin : ∀ j, j < hs.length → hs.getD j 0 ∈ hs := fun j hj => by rw [List.getD_eq_getElem?_getD, List.getElem?_eq_getElem hj]; exact List.getElem_mem _
        have hx : x ∈ hs := by
          unfold three at hm
          rcases List.mem_cons.1 hm with rfl | hm
          · exact hin _ (by omega)
          rcases List.mem_cons.1 hm with rfl | hm
          · exact hin _ (by omega)
          rcases List.mem_cons.1 hm with rfl | hm
          · exact hin _ (by omega)
          · cases hm
        have : hs.contains x = true := by simpa using hx
        rw [hc] at this
        cases this
    exact key n (Nat.le_refl _)
theorem rheld_calls (h : Ref B w g hv iv ps m) (a : Int) : Calls Try.prog 54 #[.pointer (some ⟨g, 0, none⟩), .int .i64 a] w fun e w' => e = .returned (.bool (m.hs.contains a)) ∧ w' = w := by
  rw [← heldT_iff h.len a]
  have c0 := h.c0
  have c1 := h.c1
  have hpl := h.pl
  have hsm := h.small
  obtain ⟨A, c, rfl⟩ := h.hl.slice
  have HL0 := Aside0.mk h.hl
  rw [hpl] at c1
  obtain ⟨n, hs, ws⟩ := m
  simp only at c0 c1 hpl hsm HL0 ⊢
  have HPL := Aside0.mk hpl
  clear h hpl
  go_enter Try.func54, Try.ntmps54
  go_wp2
  go_loopg [5] n (fun gg v5 wr => ∃ kk : Nat, kk ≤ n ∧ n - kk ≤ gg ∧ v5 = .int .i64 kk ∧ w = wr ∧ Aside0 (heldT hs a kk = false))
  case atStart => exact ⟨0, Nat.zero_le _, by omega, rfl, rfl, ⟨rfl⟩⟩
  case round =>
    obtain ⟨kk, hkk, hgg, rfl, hw, HF⟩ := hrel
    subst hw
    by_cases hlt : kk < n
    · obtain ⟨gh, rfl, _, _, hc, _⟩ := HL0.out.cell kk (by rw [HPL.out]; exact hlt)
      have hrow := HL0.out.row kk (by rw [HPL.out]; exact hlt)
      generalize ps.getD kk (0, 0) = q at hc hrow
      obtain ⟨q1, q2⟩ := q
      simp only [encP] at hc hrow
      have HA := Aside0.mk (show Calls Try.prog 14 #[.slice (some ⟨q1, 0, none⟩) 3 q2, .int .i64 a] w fun e w' => e = .returned (.bool ((three hs kk).contains a)) ∧ w' = w from has_calls _ q2 (three hs kk) a w (reads_R hrow) (by show 3 ≤ 1000000; decide))
      have HN := Aside0.mk (show heldT hs a (kk + 1) = (heldT hs a kk || (three hs kk).contains a) from rfl)
      rw [HF.out, Bool.false_or] at HN
      clear hrow
      cases hb : (three hs kk).contains a with
      | true =>
        rw [hb] at HA HN
        have HT := Aside0.mk (heldT_mono hs a (show kk + 1 ≤ n by omega) HN.out)
        clear hb
        go_wp2_with (go_at_call 14; refine (HA.out).mono ?_; rintro e w6 ⟨rfl, hw⟩; rw [hw]; clear hw)
        go_ret
        exact ⟨by rw [HT.out]; rfl, rfl⟩
      | false =>
        rw [hb] at HA HN
        clear hb
        go_wp2_with (go_at_call 14; refine (HA.out).mono ?_; rintro e w6 ⟨rfl, hw⟩; rw [hw]; clear hw)
        go_roundg (n - (kk + 1))
        case measure => omega
        case rel => exact ⟨kk + 1, by omega, by omega, by go_num, rfl, HN⟩
    · have hkn : kk = n := by omega
      subst hkn
      go_wp2
      go_ret
      exact ⟨by rw [HF.out]; rfl, rfl⟩
theorem rwaiting_calls (h : Ref B w g hv iv ps m) (hl : m.ws.length ≤ 1000000) :
    Calls Try.prog 37 #[.pointer (some ⟨g, 0, none⟩)] w fun e w' => ∃ v, e = .returned v ∧ Kd.R (Kd.int .i64) 3 w' w.heap.size (fun _ => True) v (m.ws.map (·.2)) ∧ Below w.heap.size w w' := by
  have c2 := h.c2
  obtain ⟨Ai, ci, rfl⟩ := Kd.R_slice h.it
  have HI := Aside0.mk h.it
  obtain ⟨n, hs, ws⟩ := m
  simp only at c2 hl HI ⊢
  have hlt2 := World.block_lt_of_cell? w _ c2
  have C2 := Aside0.mk (fun (W : World) (hb : Below w.heap.size w W) => (hb.cell hlt2).trans c2)
  have HB := Aside0.mk (Below.refl w.heap.size w)
  clear h hlt2
  go_enter Try.func37, Try.ntmps37
  go_wp2
  go_loopg [3, 4] ws.length (fun gg v3 v4 wr => ∃ kk : Nat, kk ≤ ws.length ∧ ws.length - kk ≤ gg ∧ v4 = .int .i64 kk ∧ Aside0 (Kd.R (Kd.int .i64) 3 wr w.heap.size (fun _ => True) v3 ((ws.take kk).map (·.2))) ∧ Aside0 (Below w.heap.size w wr))
  case atStart => exact ⟨0, Nat.zero_le _, by omega, rfl, ⟨by simpa using Kd.R_nil _ _ _ _ _⟩, HB⟩
  case round =>
    clear HB c2
    obtain ⟨kk, hkk, hgg, rfl, HO, HB⟩ := hrel
    have c2 := C2.out wr HB.out
    by_cases hlt : kk < ws.length
    · obtain ⟨gi, rfl, hgi, hx, _⟩ := item_cells HI.out kk hlt
      replace hx := (HB.out.cell (p := ⟨gi, kk * 2, none⟩) hgi).trans hx
      have hsn : (ws.take (kk + 1)).map (·.2) = (ws.take kk).map (·.2) ++ [(ws.getD kk (0, 0)).2] := by
        rw [List.take_succ_eq_append_getElem hlt, List.map_append]; congr 1; simp [hlt]
      have hLl : ((ws.take kk).map (·.2)).length ≤ 1000000 := by simp; omega
      generalize (ws.getD kk (0, 0)).2 = y at hx hsn
      generalize (ws.take kk).map (·.2) = L at HO hsn hLl
      have hlim : (L.length + 1) * 8 ≤ 140737488355328 := by omega
      have HSN := Aside0.mk hsn
      clear hsn hLl
      go_wp2_with ((with_reducible refine gate_builtin (b := .append) (xs := #[.tmp 17, .tmp 26]) rfl ?_); at_builtin; refine Kd.R_append (Kd.int .i64) (w0 := w) w.heap.size rfl (.tmp 17) (.tmp 26) 29 3 (.int .i64 0) 8 rfl Try.underlying29 info3 rfl (by decide) (by omega) u3 L y [.int .i64 y] (fun _ => True) (fun _ => False) rfl (by rfl) rfl (fun _ hk => hk.elim) (fun _ _ => trivial) HO.out HB.out HB.out.size hlim ?_; intro v1 wn ho hb hg hat; have HN := Aside0.mk ho; have HBN := Aside0.mk hb; clear ho hb hg hat)
      go_roundg (ws.length - (kk + 1))
      case measure => omega
      case rel => exact ⟨kk + 1, by omega, by omega, by go_num, by rw [HSN.out]; exact HN, HBN⟩
    · go_wp2
      go_ret
      have : kk = ws.length := by omega
      subst this
      exact ⟨_, rfl, by simpa using HO.out, HB.out⟩
end
end Go.Proofs.Ytgdadefobhfkcaa.Hy
