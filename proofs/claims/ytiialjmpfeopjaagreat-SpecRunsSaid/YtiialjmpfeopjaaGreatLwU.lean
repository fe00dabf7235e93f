/- What calls of the thread 0 tell, one after the other: the law, walked: plain lemmas; no condition. -/
import Derived.Test.YtiialjmpfeopjaaGreatLwC
import Derived.Test.YtiialjmpfeopjaaGreatRfD
import Derived.BigQuiet
import Derived.Deep.QuietTactic
import Derived.Deep.LoopGhost
namespace Go.Proofs.YtiialjmpfeopjaaGreat.LwRuns
open Go.RowKit Go.Sort Go.Proofs.YtiialjmpfeopjaaGreat.Sp Go.Proofs.YtiialjmpfeopjaaGreatW.PrintWords Go.Proofs.YtiialjmpfeopjaaGreatW.PrintLast Go.Proofs.YtiialjmpfeopjaaGreatW.PrintMore
set_option linter.unusedVariables false
set_option linter.unusedSimpArgs false
set_option maxHeartbeats 8000000
set_option maxRecDepth 100000
theorem own_cap {w : World} {b : Nat} {A : Option Addr} {n c : Nat} {s : List Int} (h : Own w b (.slice A n c) s) : s.length ≤ c := by
  have := Kd.R_reads' h.R
  omega
theorem runs_bad (r n : Int) (A : Option Addr) (c : Nat) (l : List CallT) (w : World) (hr : CallsAt w A l) (hq : ruleR r n = false) :
    Calls Tryz.prog 4 #[.int .i64 r, .int .i64 n, .slice A l.length c] w fun e w' => e = .returned (.bool true) ∧ Below w.heap.size w w' := by
  have HCA := Aside0.mk hr
  have HE := Aside0.mk (start_no hq l)
  have HQ := Aside0.mk hq
  clear hr hq
  go_enter Tryz.func4, Tryz.ntmps4
  go_wp2_with (first | (go_at_call 10; refine (awake_calls w).mono ?_; rintro e w4 ⟨rfl, hb⟩; have B4 := Aside0.mk hb; clear hb) | (go_at_call 17; refine (run_any A c w4 (HCA.out.below B4.out) HE.out).mono ?_; rintro e w5 ⟨v, u, rfl, hv, hu, _, hb⟩; obtain ⟨A7, c7, rfl⟩ := hv.slice; obtain ⟨A8, c8, rfl⟩ := hu.slice; have H7 := Aside0.mk hv; have H8 := Aside0.mk hu; have B5 := Aside0.mk (btrans B4.out hb); clear hv hu hb) | (go_at_call 18; refine (ref_rule r n w5).mono ?_; rintro e wq ⟨rfl, hw⟩; rw [hw, HQ.out]; clear hw) | (go_at_call 19; refine (ref_start r w5).mono ?_; rintro e w6 ⟨v, rfl, ho, hb⟩; obtain ⟨A11, c11, rfl⟩ := ho.slice; have HS := Aside0.mk ho; have B6 := Aside0.mk (btrans B5.out hb); have Q6 := Aside0.mk hb; clear ho hb))
  go_loopg [10, 13] 0 (fun gg v10 v13 wr => v10 = .bool true ∧ v13 = .int .i64 0 ∧ Aside0 (Below w.heap.size w wr))
  case atStart => exact ⟨rfl, rfl, B6⟩
  case round =>
    obtain ⟨rfl, rfl, B⟩ := hrel
    by_cases hlt : (0 : Int) < (l.length : Int)
    · go_wp2
      go_ret
      exact ⟨rfl, B.out⟩
    · go_wp2
      go_ret
      exact ⟨rfl, B.out⟩
theorem runs_many (r n : Int) (A : Option Addr) (c : Nat) (l : List CallT) (w : World) (hr : CallsAt w A l) (hq : ruleR r n = true) (hl : 24 < l.length) :
    Calls Tryz.prog 4 #[.int .i64 r, .int .i64 n, .slice A l.length c] w fun e w' => e = .returned (.bool true) ∧ Below w.heap.size w w' := by
  have HCA := Aside0.mk hr
  have HE := Aside0.mk (show runS r n l = some ([], [], 1) from by unfold runS; rw [if_pos (.inr hl)])
  have HQ := Aside0.mk hq
  have hli : (24 : Int) < (l.length : Int) := by omega
  have hlg : (l.length : Int) > 24 := by omega
  clear hr hq
  go_enter Tryz.func4, Tryz.ntmps4
  go_wp2_with (first | (go_at_call 10; refine (awake_calls w).mono ?_; rintro e w4 ⟨rfl, hb⟩; have B4 := Aside0.mk hb; clear hb) | (go_at_call 17; refine (run_any A c w4 (HCA.out.below B4.out) HE.out).mono ?_; rintro e w5 ⟨v, u, rfl, hv, hu, _, hb⟩; obtain ⟨A7, c7, rfl⟩ := hv.slice; obtain ⟨A8, c8, rfl⟩ := hu.slice; have H7 := Aside0.mk hv; have H8 := Aside0.mk hu; have B5 := Aside0.mk (btrans B4.out hb); clear hv hu hb) | (go_at_call 18; refine (ref_rule r n w5).mono ?_; rintro e wq ⟨rfl, hw⟩; rw [hw, HQ.out]; clear hw) | (go_at_call 19; refine (ref_start r w5).mono ?_; rintro e w6 ⟨v, rfl, ho, hb⟩; obtain ⟨A11, c11, rfl⟩ := ho.slice; have HS := Aside0.mk ho; have B6 := Aside0.mk (btrans B5.out hb); have Q6 := Aside0.mk hb; clear ho hb))
  go_loopg [10, 13] 0 (fun gg v10 v13 wr => v10 = .bool true ∧ v13 = .int .i64 0 ∧ Aside0 (Below w.heap.size w wr))
  case atStart => exact ⟨rfl, rfl, B6⟩
  case round =>
    obtain ⟨rfl, rfl, B⟩ := hrel
    by_cases hlt : (0 : Int) < (l.length : Int)
    · go_wp2
      go_ret
      exact ⟨rfl, B.out⟩
    · exfalso; omega
theorem runs_go (r n : Int) (A : Option Addr) (c : Nat) (l : List CallT) (w : World) (hr : CallsAt w A l) (hq : ruleR r n = true) (hl : l.length ≤ 24) :
    Calls Tryz.prog 4 #[.int .i64 r, .int .i64 n, .slice A l.length c] w fun e w' => e = .returned (.bool true) ∧ Below w.heap.size w w' := by
  have HCA := Aside0.mk hr
  obtain ⟨⟨q1, q2, q3⟩, hE, hL⟩ := run_some hq hl
  have HE := Aside0.mk hE
  have HLr := Aside0.mk hL
  have HQ := Aside0.mk hq
  have HV0 := Aside0.mk (start_yes hq).2
  have hlg : ¬ (l.length : Int) > 24 := by omega
  clear hr hq hE hL
  go_enter Tryz.func4, Tryz.ntmps4
  go_wp2_with (first | (go_at_call 10; refine (awake_calls w).mono ?_; rintro e w4 ⟨rfl, hb⟩; have B4 := Aside0.mk hb; clear hb) | (go_at_call 17; refine (run_any A c w4 (HCA.out.below B4.out) HE.out).mono ?_; rintro e w5 ⟨v, u, rfl, hv, hu, _, hb⟩; obtain ⟨A7, c7, rfl⟩ := hv.slice; obtain ⟨A8, c8, rfl⟩ := hu.slice; have H7 := Aside0.mk hv; have H8 := Aside0.mk hu; have B5 := Aside0.mk (btrans B4.out hb); clear hv hu hb) | (go_at_call 18; refine (ref_rule r n w5).mono ?_; rintro e wq ⟨rfl, hw⟩; rw [hw, HQ.out]; clear hw) | (go_at_call 19; refine (ref_start r w5).mono ?_; rintro e w6 ⟨v, rfl, ho, hb⟩; obtain ⟨A11, c11, rfl⟩ := ho.slice; have HS := Aside0.mk ho; have B6 := Aside0.mk (btrans B5.out hb); have Q6 := Aside0.mk hb; clear ho hb))
  go_loopg [10, 11, 12, 13] l.length (fun gg v10 v11 v12 v13 wr => ∃ (kk : Nat) (s acc : List Int) (bad : Bool), kk ≤ l.length ∧ l.length - kk ≤ gg ∧ v13 = .int .i64 kk ∧ v10 = .bool bad ∧ acc.length = kk ∧ Aside0 ((bad = true ∧ q1 = [] ∧ q2 = [] ∧ q3 = 1) ∨ (bad = false ∧ validR r n s = true ∧ runL r n (l.drop kk) s acc = some (q1, q2, q3))) ∧ Aside0 (Own wr w5.heap.size v12 acc) ∧ Aside0 (Own wr w5.heap.size v11 s) ∧ Aside0 (Apart v12 v11) ∧ Aside0 (Below w5.heap.size w5 wr))
  case atStart => exact ⟨0, startR r, [], false, Nat.zero_le _, by omega, rfl, by first | rfl | exact congrArg Value.bool (decide_eq_false (by omega)), rfl, ⟨.inr ⟨rfl, HV0.out, HLr.out⟩⟩, ⟨own_none _ _⟩, HS, ⟨.inl rfl⟩, Q6⟩
  case round =>
    clear HS Q6 B6 HLr HV0
    obtain ⟨kk, s, acc, bad, hkk, hgg, rfl, rfl, hac, HI, HW, HS, HAP, HB⟩ := hrel
    subst hac
    obtain ⟨A12, c12, rfl⟩ := HW.out.slice
    obtain ⟨A11, c11, rfl⟩ := HS.out.slice
    have HBw := Aside0.mk (B5.out.trans (HB.out.mono B5.out.size))
    rcases HI.out with ⟨rfl, rfl, rfl, rfl⟩ | ⟨rfl, hv, hrun⟩
    · by_cases hlt : (acc.length : Int) < (l.length : Int)
      · go_wp2
        go_ret
        exact ⟨rfl, HBw.out⟩
      · go_wp2
        go_ret
        exact ⟨rfl, HBw.out⟩
    · by_cases hlt : acc.length < l.length
      · have hlti : (acc.length : Int) < (l.length : Int) := by omega
        obtain ⟨ad, rfl, e1, e2, e3⟩ := HCA.out.below HBw.out acc.length hlt
        rw [Sp.add_field ad (acc.length * 3) 1 (by decide)] at e2
        rw [Sp.add_field ad (acc.length * 3) 2 (by decide)] at e3
        rw [List.drop_eq_getElem_cons hlt] at hrun
        generalize l[acc.length] = cl at e1 e2 e3 hrun
        obtain ⟨op, x, y⟩ := cl
        simp only [runL] at hrun
        cases hm : mayR r op x y 0 with
        | false =>
          rw [step_no hm] at hrun
          simp at hrun
          obtain ⟨rfl, rfl, rfl⟩ := hrun
          have HM := Aside0.mk hm
          clear hm hv
          go_wp2_with (first | (go_at_call 20; refine (ref_may r op x y 0 wr).mono ?_; rintro e wa ⟨rfl, hb⟩; rw [HM.out]; have e1 := (hb.cell (World.block_lt_of_cell? _ _ e1)).trans e1; have e2 := (hb.cell (World.block_lt_of_cell? _ _ e2)).trans e2; have e3 := (hb.cell (World.block_lt_of_cell? _ _ e3)).trans e3; have QA := Aside0.mk hb; clear hb))
          go_ret
          exact ⟨rfl, HBw.out.trans (QA.out.mono HBw.out.size)⟩
        | true =>
          obtain ⟨o, l1, hS, h0, h1⟩ := step_yes hv hm
          obtain ⟨L, hLp, hL0, hres⟩ := hS.res
          have HM := Aside0.mk hm
          have HLP := Aside0.mk hLp
          have HL0 := Aside0.mk hL0
          have HRES := Aside0.mk hres
          have HNX := Aside0.mk hS.nxt
          have HLN := Aside0.mk hS.len
          unfold ResAt at HRES
          unfold NextAt at HNX
          clear hm hv hLp hL0 hres hS
          cases hv1 : validR r n l1 with
          | false =>
            rw [h0 hv1] at hrun
            simp at hrun
            obtain ⟨rfl, rfl, rfl⟩ := hrun
            have HV := Aside0.mk hv1
            clear h0 h1 hv1
            go_wp2_with (first | (go_at_call 20; refine (ref_may r op x y 0 wr).mono ?_; rintro e wa ⟨rfl, hb⟩; rw [HM.out]; have e1 := (hb.cell (World.block_lt_of_cell? _ _ e1)).trans e1; have e2 := (hb.cell (World.block_lt_of_cell? _ _ e2)).trans e2; have e3 := (hb.cell (World.block_lt_of_cell? _ _ e3)).trans e3; have QA := Aside0.mk hb; clear hb) | (go_at_call 13; refine (HRES.out A11 c11 wa (HS.out.rd.below QA.out) (own_cap HS.out)).mono ?_; rintro e wb ⟨v, rfl, ho, hb⟩; obtain ⟨bq, cq, rfl, hlt2, hcl⟩ := ho.cellAt 0 HLP.out; rw [HL0.out] at hcl; have hlp := HLP.out; have e1 := (hb.cell (World.block_lt_of_cell? _ _ e1)).trans e1; have e2 := (hb.cell (World.block_lt_of_cell? _ _ e2)).trans e2; have e3 := (hb.cell (World.block_lt_of_cell? _ _ e3)).trans e3; have QB := Aside0.mk (QA.out.trans (hb.mono QA.out.size)); clear hb ho) | (go_at_call 14; refine (HNX.out A11 c11 wb (HS.out.rd.below QB.out) (own_cap HS.out)).mono ?_; rintro e wc ⟨v, rfl, ho, hb⟩; obtain ⟨A2, c2, rfl⟩ := ho.slice; have HO2 := Aside0.mk ho; have QC := Aside0.mk (QB.out.trans (hb.mono QB.out.size)); have QCs := Aside0.mk (show wr.heap.size ≤ wb.heap.size from QB.out.size); have H12c := Aside0.mk (HW.out.below (QB.out.trans (hb.mono QB.out.size))); clear hb ho) | ((with_reducible refine gate_builtin (b := .append) (xs := #[.tmp 75, .tmp 77]) rfl ?_); at_builtin; refine Kd.R_append (Kd.int .i64) (w0 := wc) w5.heap.size rfl (.tmp 75) (.tmp 77) 22 3 (.int .i64 0) 8 rfl Tryz.underlying22 info_int rfl (by decide) (by omega) _ acc o [.int .i64 o] (fun _ => True) (fun _ => False) rfl rfl ?aP (fun _ hk => hk.elim) (fun _ _ => trivial) H12c.out.R (Below.refl _ _) (Nat.le_trans HB.out.size QC.out.size) (by omega) ?_; (case aP => exact rfl); intro v1 wn ho hb hg hat; have HN := Aside0.mk (Own.of_R ho); have HBN := Aside0.mk hb; have HGN := Aside0.mk hg; have HAT := Aside0.mk hat; have hap := Aside0.mk (apart_grown HW.out HO2.out hat QCs.out QC.out.size); have HO3 := Aside0.mk (own_grown HO2.out hg hap.out.1); clear ho hb hg hat) | (go_at_call 15; refine (show Calls Tryz.prog 15 _ _ _ from ref_valid r n A2 c2 l1 wn HO3.out.rd (own_cap HO3.out)).mono ?_; rintro e wv ⟨rfl, qq, hw⟩; rw [HV.out]; have HNV := Aside0.mk (show Own wv _ _ _ from by rw [hw]; exact HN.out.drewN_); have HOV := Aside0.mk (show Own wv _ _ _ from by rw [hw]; exact HO3.out.drewN_); have BV := Aside0.mk (show Below w5.heap.size w5 wv from by rw [hw]; exact pw_below_drewN ((HB.out.trans (QC.out.mono HB.out.size)).trans HBN.out) qq); clear hw))
            go_roundg (l.length - (acc.length + 1))
            case measure => omega
            case rel => exact ⟨acc.length + 1, l1, acc ++ [o], true, hlt, by omega, by go_num, rfl, by simp, ⟨.inl (by simp)⟩, HNV, ⟨HOV.out.lower (by have := HB.out.size; have := QB.out.size; omega)⟩, ⟨hap.out.2⟩, BV⟩
          | true =>
            rw [h1 hv1] at hrun
            simp only at hrun
            rw [if_pos trivial, if_pos (by have := HLN.out; omega)] at hrun
            have HV := Aside0.mk hv1
            have HRN := Aside0.mk hrun
            clear h0 h1 hv1 hrun
            go_wp2_with (first | (go_at_call 20; refine (ref_may r op x y 0 wr).mono ?_; rintro e wa ⟨rfl, hb⟩; rw [HM.out]; have e1 := (hb.cell (World.block_lt_of_cell? _ _ e1)).trans e1; have e2 := (hb.cell (World.block_lt_of_cell? _ _ e2)).trans e2; have e3 := (hb.cell (World.block_lt_of_cell? _ _ e3)).trans e3; have QA := Aside0.mk hb; clear hb) | (go_at_call 13; refine (HRES.out A11 c11 wa (HS.out.rd.below QA.out) (own_cap HS.out)).mono ?_; rintro e wb ⟨v, rfl, ho, hb⟩; obtain ⟨bq, cq, rfl, hlt2, hcl⟩ := ho.cellAt 0 HLP.out; rw [HL0.out] at hcl; have hlp := HLP.out; have e1 := (hb.cell (World.block_lt_of_cell? _ _ e1)).trans e1; have e2 := (hb.cell (World.block_lt_of_cell? _ _ e2)).trans e2; have e3 := (hb.cell (World.block_lt_of_cell? _ _ e3)).trans e3; have QB := Aside0.mk (QA.out.trans (hb.mono QA.out.size)); clear hb ho) | (go_at_call 14; refine (HNX.out A11 c11 wb (HS.out.rd.below QB.out) (own_cap HS.out)).mono ?_; rintro e wc ⟨v, rfl, ho, hb⟩; obtain ⟨A2, c2, rfl⟩ := ho.slice; have HO2 := Aside0.mk ho; have QC := Aside0.mk (QB.out.trans (hb.mono QB.out.size)); have QCs := Aside0.mk (show wr.heap.size ≤ wb.heap.size from QB.out.size); have H12c := Aside0.mk (HW.out.below (QB.out.trans (hb.mono QB.out.size))); clear hb ho) | ((with_reducible refine gate_builtin (b := .append) (xs := #[.tmp 75, .tmp 77]) rfl ?_); at_builtin; refine Kd.R_append (Kd.int .i64) (w0 := wc) w5.heap.size rfl (.tmp 75) (.tmp 77) 22 3 (.int .i64 0) 8 rfl Tryz.underlying22 info_int rfl (by decide) (by omega) _ acc o [.int .i64 o] (fun _ => True) (fun _ => False) rfl rfl ?aP (fun _ hk => hk.elim) (fun _ _ => trivial) H12c.out.R (Below.refl _ _) (Nat.le_trans HB.out.size QC.out.size) (by omega) ?_; (case aP => exact rfl); intro v1 wn ho hb hg hat; have HN := Aside0.mk (Own.of_R ho); have HBN := Aside0.mk hb; have HGN := Aside0.mk hg; have HAT := Aside0.mk hat; have hap := Aside0.mk (apart_grown HW.out HO2.out hat QCs.out QC.out.size); have HO3 := Aside0.mk (own_grown HO2.out hg hap.out.1); clear ho hb hg hat) | (go_at_call 15; refine (show Calls Tryz.prog 15 _ _ _ from ref_valid r n A2 c2 l1 wn HO3.out.rd (own_cap HO3.out)).mono ?_; rintro e wv ⟨rfl, qq, hw⟩; rw [HV.out]; have HNV := Aside0.mk (show Own wv _ _ _ from by rw [hw]; exact HN.out.drewN_); have HOV := Aside0.mk (show Own wv _ _ _ from by rw [hw]; exact HO3.out.drewN_); have BV := Aside0.mk (show Below w5.heap.size w5 wv from by rw [hw]; exact pw_below_drewN ((HB.out.trans (QC.out.mono HB.out.size)).trans HBN.out) qq); clear hw))
            go_roundg (l.length - (acc.length + 1))
            case measure => omega
            case rel => exact ⟨acc.length + 1, l1, acc ++ [o], false, hlt, by omega, by go_num, rfl, by simp, ⟨.inr ⟨rfl, HV.out, HRN.out⟩⟩, HNV, ⟨HOV.out.lower (by have := HB.out.size; have := QB.out.size; omega)⟩, ⟨hap.out.2⟩, BV⟩
      · have hlti : ¬ (acc.length : Int) < (l.length : Int) := by omega
        have hkl : acc.length = l.length := by omega
        rw [hkl, List.drop_length] at hrun
        simp only [runL, Option.some.injEq, Prod.mk.injEq] at hrun
        obtain ⟨rfl, rfl, rfl⟩ := hrun
        have H7b := Aside0.mk (H7.out.below HB.out)
        have H8b := Aside0.mk (H8.out.below HB.out)
        clear hkl
        go_wp2_with (first
          | (go_at_call 16; have _t := H7; refine (same_at acc acc _ _ _ _ wr H7b.out.rd HW.out.rd).mono ?_; rintro e wy ⟨rfl, qy, hw⟩; rw [decide_eq_true (rfl : acc = acc)]; have HY := Aside0.mk hw; clear hw H7)
          | (go_at_call 16; refine (same_at s s _ _ _ _ wy (show Rd wy _ _ from by rw [HY.out]; exact H8b.out.rd) (show Rd wy _ _ from by rw [HY.out]; exact HS.out.rd)).mono ?_; rintro e wz ⟨rfl, qz, hw⟩; rw [decide_eq_true (rfl : s = s)]; have BZ := Aside0.mk (show Below w.heap.size w wz from by rw [hw, HY.out]; exact pw_below_drewN (pw_below_drewN HBw.out qy) qz); clear hw))
        go_ret
        exact ⟨rfl, BZ.out⟩
theorem runs_row (r n : Int) (A : Option Addr) (len cap : Nat) (l : List CallT) (w : World) (_h1 : (Lit.int .i64 r).wf = true) (_h2 : (Lit.int .i64 n).wf = true) (hd : l.length = len ∧ CallsAt w A l) :
    Calls Tryz.prog 4 #[.int .i64 r, .int .i64 n, .slice A len cap] w fun e w' => e = .returned (.bool true) ∧ Below w.heap.size w w' := by
  obtain ⟨rfl, hd⟩ := hd
  cases hq : ruleR r n with
  | false => exact runs_bad r n A cap l w hd hq
  | true =>
    by_cases hl : 24 < l.length
    · exact runs_many r n A cap l w hd hq hl
    · exact runs_go r n A cap l w hd hq (by omega)
end Go.Proofs.YtiialjmpfeopjaaGreat.LwRuns
