/- That a word that was written is read in both its halves, and that a scan shows the last update of each of the two: the law, walked; no condition. -/
import Derived.Test.YtiialjmpfeopjaaXSa1
import Derived.Test.YtiialjmpfeopjaaPwI
namespace Go.Proofs.Ytiialjmpfeopjaa.WiV
open Go.RowKit Go.Sort Go.Proofs.Ytiialjmpfeopjaa.XSa Go.Proofs.Ytiialjmpfeopjaa.Sp Go.Proofs.YtiialjmpfeopjaaW.PrintWords Go.Proofs.YtiialjmpfeopjaaW.PrintLast Go.Proofs.YtiialjmpfeopjaaW.PrintMore
set_option linter.unusedVariables false
set_option linter.unusedSimpArgs false
set_option maxHeartbeats 8000000
set_option maxRecDepth 100000
theorem awake_true : locklesslaw18_awake.f = some true := by
  unfold locklesslaw18_awake.f spec_Run.f
  have h : Sp.runS 2 1 (List.map callT [(⟨⟨#[101, 110, 113]⟩, 5, 0⟩ : S27), ⟨⟨#[101, 110, 113]⟩, 6, 0⟩, ⟨⟨#[100, 101, 113]⟩, 0, 0⟩]) = some ([0, 0, 5], [6], 0) := Sp.awake_run
  rw [if_pos (by decide), h]
  rfl
theorem own_set {w : World} {base : Nat} {v : Value} {s : List Int} (h : Own w base v s) {k : Nat} {c : Array Value} (hN : w.heap[k]? = some (.cells c 43 (0, 0))) (j : Nat) (u : Value) : Own (w.setCell ⟨k, j, none⟩ u) base v s :=
  Own.of_R (Kd.R_set h.R hN (by decide) j u)
theorem wi_walk (A0 : Option Addr) (c0 : Nat) (l0 : List Int) (w : World) (hr : Rd w A0 l0) :
    Calls Try.prog 10 #[.slice A0 l0.length c0] w fun e w' => e = .returned (.bool true) ∧ Below w.heap.size w w' := by
  have HR := Aside0.mk hr
  have hmx := hr.max
  have HST := Aside0.mk (fun W => start_calls 10 1 W)
  rw [start10] at HST
  have HSU := Aside0.mk (fun W => start_calls 11 1 W)
  rw [start11] at HSU
  clear hr
  have tok1 : True := trivial
  go_enter Try.func10, Try.ntmps10
  go_wp2_with (first
    | (go_at_call 15; refine (locklesslaw18_awake.calls true _ awake_true).mono ?_; rintro e w1 ⟨rfl, hb⟩; have B1 := Aside0.mk hb; clear hb)
    | (go_at_call 18; have _t := tok1; clear _t tok1; refine (HST.out _).mono ?_; rintro e w2 ⟨v2, rfl, ho, hb⟩; have HO := Aside0.mk (ho.lower B1.out.size); have B2 := Aside0.mk (btrans B1.out hb); clear ho hb; have tok2 : True := trivial)
    | (go_at_call 18; have _t := tok2; clear _t tok2; refine (HSU.out _).mono ?_; rintro e w3 ⟨v3, rfl, ho, hb⟩; have HU := Aside0.mk (ho.lower B2.out.size); have HO3 := Aside0.mk (HO.out.below hb); have B3 := Aside0.mk (btrans B2.out hb); have N8 := Aside0.mk (heap_alloc_new w3 (.cells #[.int .i64 0, .int .i64 0] 43 (0, 0))); clear ho hb HO))
  obtain ⟨k, hk⟩ : ∃ k, k = w3.heap.size := ⟨_, rfl⟩
  have HK := Aside0.mk (show w.heap.size ≤ k from by rw [hk]; exact B3.out.size)
  rw [← hk] at N8 ⊢
  clear hk
  go_loopg [3, 5, 7, 9, 10, 11, 12, 13, 14, 15, 16, 17] l0.length (fun gg v3 v5 v7 v9 v10 v11 v12 v13 v14 v15 v16 v17 wr => ∃ (kk : Nat) (v a b : Int), kk ≤ l0.length ∧ l0.length - kk ≤ gg ∧ v9 = .int .i64 kk ∧ v7 = .int .i64 v ∧ (0 ≤ v ∧ v ≤ 900) ∧ (0 ≤ a ∧ a ≤ 900) ∧ (0 ≤ b ∧ b ≤ 900) ∧ Aside0 (Own wr w.heap.size v3 [v]) ∧ Aside0 (Own wr w.heap.size v5 [a, b]) ∧ Aside0 (wr.heap[k]? = some (.cells #[.int .i64 a, .int .i64 b] 43 (0, 0))) ∧ Aside0 (Below w.heap.size w wr))
  case atStart => exact ⟨0, 0, 0, 0, Nat.zero_le _, by omega, rfl, rfl, by omega, by omega, by omega, ⟨HO3.out.below (al1 w3 _)⟩, ⟨HU.out.below (al1 w3 _)⟩, N8, ⟨btrans B3.out (al1 w3 _)⟩⟩
  case round =>
    clear HO3 HU N8 B3
    obtain ⟨kk, v, a, b, hkk, hgg, rfl, rfl, hv, ha, hb, HO, HU, HN, HB⟩ := hrel
    obtain ⟨A3, c3, e3⟩ := HO.out.slice
    subst e3
    obtain ⟨A5, c5, e5⟩ := HU.out.slice
    subst e5
    have HCV := Aside0.mk (Kd.R_reads' HO.out.R).2.1
    have HCU := Aside0.mk (Kd.R_reads' HU.out.R).2.1
    have tokA : True := trivial
    by_cases hlt : kk < l0.length ∧ (kk : Int) < 20
    · obtain ⟨hlt, h20⟩ := hlt
      obtain ⟨ad, rfl, hc⟩ := (HR.out.below HB.out).at kk hlt
      generalize l0.getD kk 0 = z at hc
      have hx := word_mod (z / 2) 901 (by decide) (by decide)
      obtain ⟨x, hxe⟩ : ∃ x, wrap64 (Int.tmod (IntKind.u64.wrap (z / 2)) 901) = x := ⟨_, rfl⟩
      rw [hxe] at hx
      have hx9 : 0 ≤ x ∧ x ≤ 900 := by omega
      have HWR := Aside0.mk (write10 hv hx9)
      have hb2 : Go.bits .and .i64 z 1 = z % 2 := i64_low z 1 (by decide)
      have hz2 : z % 2 = 0 ∨ z % 2 = 1 := by omega
      rcases hz2 with hz | hz
      · have HUP := Aside0.mk (update11a ha hb hx9)
        have hbit : Go.bits .and .i64 z 1 = 0 := hb2.trans hz
        have HB9 := Aside0.mk (And.intro hx9 (And.intro ha hb))
        clear hb2 hz hv ha hb hx9 hx
        go_wp2_with (first
          | (go_at_call 19; have _t := tokA; clear _t tokA; refine (do_calls _ c3 _ (HO.out.rd.below (by repeat (first | exact Below.refl _ _ | apply pw_below_drewN | apply below_drew1))) HCV.out (by simp) HWR.out).mono ?_; rintro e w4 ⟨v4, rfl, ho, hb⟩; have HO4 := Aside0.mk (ho.lower HB.out.size); have HU4 := Aside0.mk (HU.out.below hb); have HN4 := Aside0.mk ((hb.block _ (blk_lt HN.out)).trans HN.out); have B4 := Aside0.mk (btrans HB.out hb); clear ho hb; have tokB : True := trivial)
          | (go_at_call 19; have _t := tokB; clear _t tokB; refine (do_calls _ c5 _ (HU4.out.rd) HCU.out (by simp) HUP.out).mono ?_; rintro e w5 ⟨v5, rfl, ho, hb⟩; have HU5 := Aside0.mk (ho.lower B4.out.size); have HO5 := Aside0.mk (HO4.out.below hb); have HN5 := Aside0.mk ((hb.block _ (blk_lt HN4.out)).trans HN4.out); have B5 := Aside0.mk (btrans B4.out hb); have cj : w5.cell? ⟨k, 0, none⟩ = some (.int .i64 a) := (by rw [Go.Lib.cell_of_heap HN5.out]; rfl); have fj : w5.frozen? ⟨k, 0, none⟩ = false := blk_frozen HN5.out 0; clear ho hb))
        go_roundg (l0.length - (kk + 1))
        case measure => omega
        case rel => exact ⟨kk + 1, x, x, b, by omega, by omega, by go_num, rfl, HB9.out.1, HB9.out.1, HB9.out.2.2, ⟨own_set HO5.out HN5.out _ _⟩, ⟨own_set HU5.out HN5.out _ _⟩, ⟨by rw [blk_set HN5.out 0 (.int .i64 x)]; rfl⟩, ⟨B5.out.setCell (p := ⟨k, 0, none⟩) HK.out _⟩⟩
      · have HUP := Aside0.mk (update11b ha hb hx9)
        have hbit : Go.bits .and .i64 z 1 = 1 := hb2.trans hz
        have HB9 := Aside0.mk (And.intro hx9 (And.intro ha hb))
        clear hb2 hz hv ha hb hx9 hx
        go_wp2_with (first
          | (go_at_call 19; have _t := tokA; clear _t tokA; refine (do_calls _ c3 _ (HO.out.rd.below (by repeat (first | exact Below.refl _ _ | apply pw_below_drewN | apply below_drew1))) HCV.out (by simp) HWR.out).mono ?_; rintro e w4 ⟨v4, rfl, ho, hb⟩; have HO4 := Aside0.mk (ho.lower HB.out.size); have HU4 := Aside0.mk (HU.out.below hb); have HN4 := Aside0.mk ((hb.block _ (blk_lt HN.out)).trans HN.out); have B4 := Aside0.mk (btrans HB.out hb); clear ho hb; have tokB : True := trivial)
          | (go_at_call 19; have _t := tokB; clear _t tokB; refine (do_calls _ c5 _ (HU4.out.rd) HCU.out (by simp) HUP.out).mono ?_; rintro e w5 ⟨v5, rfl, ho, hb⟩; have HU5 := Aside0.mk (ho.lower B4.out.size); have HO5 := Aside0.mk (HO4.out.below hb); have HN5 := Aside0.mk ((hb.block _ (blk_lt HN4.out)).trans HN4.out); have B5 := Aside0.mk (btrans B4.out hb); have cj : w5.cell? ⟨k, 1, none⟩ = some (.int .i64 b) := (by rw [Go.Lib.cell_of_heap HN5.out]; rfl); have fj : w5.frozen? ⟨k, 1, none⟩ = false := blk_frozen HN5.out 1; clear ho hb))
        go_roundg (l0.length - (kk + 1))
        case measure => omega
        case rel => exact ⟨kk + 1, x, a, x, by omega, by omega, by go_num, rfl, HB9.out.1, HB9.out.2.1, HB9.out.1, ⟨own_set HO5.out HN5.out _ _⟩, ⟨own_set HU5.out HN5.out _ _⟩, ⟨by rw [blk_set HN5.out 1 (.int .i64 x)]; rfl⟩, ⟨B5.out.setCell (p := ⟨k, 1, none⟩) HK.out _⟩⟩
    · have HRD := Aside0.mk (read10 hv)
      have HSC := Aside0.mk (scan11 ha hb)
      have w1' : IntKind.i64.wrap (1000 * v) = 1000 * v := IntWalk.i64_in _ (by omega)
      have w2' : IntKind.i64.wrap (1000 * v + v) = 1000 * v + v := IntWalk.i64_in _ (by omega)
      have w3' : IntKind.i64.wrap (1000 * v + v + 1) = 1000 * v + v + 1 := IntWalk.i64_in _ (by omega)
      have w4' : IntKind.i64.wrap (1000 * a) = 1000 * a := IntWalk.i64_in _ (by omega)
      have w5' : IntKind.i64.wrap (1000 * a + b) = 1000 * a + b := IntWalk.i64_in _ (by omega)
      have w6' : (1001 * v + 1 == 1000 * v + v + 1) = true := by simp; omega
      clear hv ha hb
      by_cases hl1 : kk < l0.length
      · have h20 : decide ((kk : Int) < 20) = false := decide_eq_false (fun e => hlt ⟨hl1, e⟩)
        clear hlt
        go_wp2_with (first
          | (go_at_call 19; have _t := tokA; clear _t tokA; refine (do_calls _ c3 _ (HO.out.rd) HCV.out (by simp) HRD.out).mono ?_; rintro e w4 ⟨v4, rfl, ho, hb⟩; have HU4 := Aside0.mk (HU.out.below hb); have HN4 := Aside0.mk ((hb.block _ (blk_lt HN.out)).trans HN.out); have B4 := Aside0.mk (btrans HB.out hb); clear ho hb; have tokB : True := trivial)
          | (go_at_call 19; have _t := tokB; clear _t tokB; refine (do_calls _ c5 _ (HU4.out.rd) HCU.out (by simp) HSC.out).mono ?_; rintro e w5 ⟨v5, rfl, ho, hb⟩; have HN5 := Aside0.mk ((hb.block _ (blk_lt HN4.out)).trans HN4.out); have B5 := Aside0.mk (btrans B4.out hb); have cj0 : w5.cell? ⟨k, 0, none⟩ = some (.int .i64 a) := (by rw [Go.Lib.cell_of_heap HN5.out]; rfl); have cj1 : w5.cell? ⟨k, 1, none⟩ = some (.int .i64 b) := (by rw [Go.Lib.cell_of_heap HN5.out]; rfl); clear ho hb))
        go_ret
        exact ⟨rfl, B5.out⟩
      · clear hlt
        go_wp2_with (first
          | (go_at_call 19; have _t := tokA; clear _t tokA; refine (do_calls _ c3 _ (HO.out.rd) HCV.out (by simp) HRD.out).mono ?_; rintro e w4 ⟨v4, rfl, ho, hb⟩; have HU4 := Aside0.mk (HU.out.below hb); have HN4 := Aside0.mk ((hb.block _ (blk_lt HN.out)).trans HN.out); have B4 := Aside0.mk (btrans HB.out hb); clear ho hb; have tokB : True := trivial)
          | (go_at_call 19; have _t := tokB; clear _t tokB; refine (do_calls _ c5 _ (HU4.out.rd) HCU.out (by simp) HSC.out).mono ?_; rintro e w5 ⟨v5, rfl, ho, hb⟩; have HN5 := Aside0.mk ((hb.block _ (blk_lt HN4.out)).trans HN4.out); have B5 := Aside0.mk (btrans B4.out hb); have cj0 : w5.cell? ⟨k, 0, none⟩ = some (.int .i64 a) := (by rw [Go.Lib.cell_of_heap HN5.out]; rfl); have cj1 : w5.cell? ⟨k, 1, none⟩ = some (.int .i64 b) := (by rw [Go.Lib.cell_of_heap HN5.out]; rfl); clear ho hb))
        go_ret
        exact ⟨rfl, B5.out⟩
theorem wides_row (a0 : Option Addr) (len0 cap0 : Nat) (z0 : List Int) (w : World) (w0 : (a0 = none ∧ len0 = 0 ∧ cap0 = 0 ∧ z0 = []) ∨ ∃ x, a0 = some x ∧ len0 ≤ cap0 ∧ cap0 ≤ maxLen ∧ z0.length = cap0 ∧ (∀ i, i < z0.length → w.cell? (x.add i) = some (.int .i64 (z0.getD i 0))) ∧ ∀ n ∈ z0, (Lit.int .i64 n).wf = true) (_y0 : len0 * 8 ≤ 140737488351232) :
    Calls Try.prog 10 #[.slice a0 len0 cap0] w fun e w' => e = .returned (.bool true) ∧ Below w.heap.size w w' := by
  obtain ⟨l0, rfl, hr0, hm0, hw0, hc0⟩ := ReadsInt.ofRowC w0
  exact wi_walk _ _ l0 w (Kd.C_of_reads (d := (0 : Int)) (h1 := fun _ => rfl) hr0)
end Go.Proofs.Ytiialjmpfeopjaa.WiV
