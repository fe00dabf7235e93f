/- Copy of an epoch manager: plain lemmas; no condition. -/
import Derived.Test.YtcfodmnpmjkpbaaGK
import Derived.Deep.RegionLaw
namespace Go.Proofs.Ytcfodmnpmjkpbaa.Ep
open Go.RowKit Go.Proofs.YtcfodmnpmjkpbaaW.PrintWords Go.Proofs.YtcfodmnpmjkpbaaW.PrintLast Go.Proofs.YtcfodmnpmjkpbaaW.PrintMore
set_option linter.unusedVariables false
set_option linter.unusedSimpArgs false
set_option maxHeartbeats 8000000
set_option maxRecDepth 100000
theorem clone_th {B : Nat} {w : World} {tv : Value} {l : List Int} (ho : w.ownsRow B 3 1 tv l.length (ints l)) (hn : 0 < l.length) (hl : l.length ≤ 1000) :
    Calls Try.prog 42 #[tv] w fun e w' => ∃ v', e = .returned v' ∧ w'.ownsRow w.heap.size 3 1 v' l.length (ints l) ∧ Below w.heap.size w w' := by
  have hcell := fun j (hj : j < l.length) => own_int ho j hj
  obtain ⟨h1, ⟨e, h⟩ | ⟨b, cap, cur, e, h3, h4, h5, h6, h7, h8⟩⟩ := ho
  · omega
  · subst e
    refine (Try.slices_Clone_int b 0 l.length cap l w (Nat.le_refl _) (by omega) (fun j hj => ?_)).mono ?_
    · obtain ⟨b', cap', cur', e', _, _, hc, _⟩ := hcell j hj
      injection e' with e1 _ _
      injection e1 with e1
      injection e1 with e1
      rw [Nat.zero_add, e1]
      exact hc
    · rintro e w' ⟨v', rfl, ho', _, hb⟩
      rw [List.take_length] at ho'
      exact ⟨v', rfl, ho', hb⟩
theorem flat_one (l : List P2) : ∀ u ∈ flat l, u.oneCell' = true := by
  induction l with
  | nil => intro u hu; cases hu
  | cons p r ih =>
    intro u hu
    rcases List.mem_cons.1 hu with rfl | hu
    · rfl
    · rcases List.mem_cons.1 hu with rfl | hu
      · rfl
      · exact ih u hu
theorem clone_ws {B : Nat} {w : World} {wv : Value} {l : List P2} (ho : w.ownsRow B 78 2 wv l.length (flat l)) (hl : l.length ≤ 100000) :
    Calls Try.prog 43 #[wv] w fun e w' => ∃ v', e = .returned v' ∧ w'.ownsRow w.heap.size 78 2 v' l.length (flat l) ∧ Below w.heap.size w w' := by
  have hcell := fun j (hj : j < l.length) => wait_cell ho j hj
  have q67 : ∀ (w : World) (a : Option Addr) (n c n' c' : Nat), (binOp .eql 67 (.slice a n c) (.slice none n' c')).run Try.prog w = .ok (.bool a.isNone) w := fun w a n c n' c' => Lib.run_eql_slice_nil w _ _ a n c n' c' Try.underlying67
  obtain ⟨h1, ⟨e, h⟩ | ⟨b, cap, cur, e, h3, h4, h5, h6, h7, h8⟩⟩ := ho
  · subst e
    have hl0 : l = [] := List.eq_nil_of_length_eq_zero h
    subst hl0
    have hb := Below.refl w.heap.size w
    go_enter Try.func43, Try.ntmps43
    go_wp2
    go_ret
    exact ⟨_, rfl, ⟨rfl, .inl ⟨rfl, rfl⟩⟩, hb⟩
  · subst e
    obtain ⟨i0, hi, hzz⟩ := Option.map_eq_some_iff.1 info78
    simp only [Prod.mk.injEq] at hzz
    obtain ⟨hz0, hz1, hz2⟩ := hzz
    have hlim : (0 + l.length) * 16 ≤ 140737488355328 := by omega
    have hmade : (w.alloc (.cells #[] 78 (0, 0))).ownsRow w.heap.size 78 2 (.slice (some ⟨w.heap.size, 0, none⟩) 0 0) 0 [] := ⟨rfl, .inr ⟨w.heap.size, 0, #[], rfl, Nat.le_refl _, heap_alloc_new _ _, Nat.le_refl _, by simp [maxLen], rfl, rfl⟩⟩
    have hnews : ∀ j u, (flat l)[j]? = some u → (w.alloc (.cells #[] 78 (0, 0))).cell? ((⟨b, 0, none⟩ : Addr).add j) = some u := fun j u hj => by
      have hjl : j < (flat l).length := (List.getElem?_eq_some_iff.1 hj).1
      have hbe := (Below.refl w.heap.size w).alloc (Nat.le_refl _) (.cells #[] 78 (0, 0))
      rw [add_plain, hbe.cell (p := ⟨b, j, none⟩) (blk_lt h4), Go.Lib.cell_of_heap h4]
      rw [← h8] at hj
      rw [← h8] at hjl
      have : j < l.length * 2 := by rw [List.length_take] at hjl; omega
      rw [List.getElem?_take_of_lt this] at hj
      simpa using hj
    have hone : ∀ u ∈ flat l, u.oneCell' = true := flat_one l
    have HNEWS := Aside0.mk hnews
    have HONE := Aside0.mk hone
    have HMADE := Aside0.mk hmade
    have hfl := flat_len l
    have HFL := Aside0.mk hfl
    clear hnews hone hmade hcell h4 h8 hfl
    go_enter Try.func43, Try.ntmps43
    go_wp2_with (at_builtin; refine wpList_append_own _ rfl (.tmp 5) (.tmp 6) 67 rfl w.heap.size 78 i0 (.agg #[.int .i64 0, .int .i64 0]) 2 16 Try.underlying67 hi hz0 hz1 hz2 rfl (by decide) _ _ _ rfl HMADE.out ⟨b, 0, none⟩ l.length cap (flat l) rfl HFL.out HNEWS.out HONE.out (by unfold maxLen; omega) hlim (by simp) ?_; intro v' w1 hown hgrow hnil; have HO := Aside0.mk hown; have HG := Aside0.mk hgrow; clear hown hgrow hnil)
    go_ret
    refine ⟨_, rfl, by simpa using HO.out, ?_⟩
    exact ((Below.refl _ w).alloc (Nat.le_refl _) _).grown HG.out (by rw [alloc_size]; omega) (fun k hk => Nat.le_of_eq (Option.some.inj hk))
theorem copy_calls {B : Nat} {w : World} {g : Nat} {tv wv : Value} {m : EM} (hm : Man B w g tv wv m) (h0 : 0 < m.th.length) (hl : m.ws.length ≤ 100000) :
    Calls Try.prog 30 #[.pointer (some ⟨g, 0, none⟩)] w fun e w' => ∃ g2 tv2 wv2, e = .returned (.pointer (some ⟨g2, 0, none⟩)) ∧ Man w.heap.size w' g2 tv2 wv2 m ∧ Below w.heap.size w w' := by
  have hc := has_calls hm 0
  rw [bad_zero h0] at hc
  have hsm := hm.small
  have HM0 := Aside0.mk hm
  have HT := Aside0.mk (fun (W : World) (hW : Man B W g tv wv m) => clone_th hW.tow h0 (by omega))
  have HWS := Aside0.mk (fun (W : World) (hW : Man B W g tv wv m) => clone_ws hW.own hl)
  have c0 := hm.c0
  have c1 := hm.c1
  have c2 := hm.c2
  clear hm
  go_enter Try.func30, Try.ntmps30
  go_wp2_with (go_at_call 38; refine hc.mono ?_; rintro e w' ⟨rfl, hw⟩; rw [hw]; clear hw)
  have MD := Aside0.mk (HM0.out.grow (below_drew1 (Below.refl w.heap.size w)))
  have tokA : True := trivial
  go_region_with (first
    | (go_at_call 42; have _t := tokA; clear _t tokA; refine (HT.out w.drew MD.out).mono ?_; rintro e w1 ⟨tv2, rfl, ho, hb⟩; obtain ⟨A1, c1_, rfl⟩ := own_form ho; have HO1 := Aside0.mk ho; have M1 := Aside0.mk (MD.out.grow hb); have B1 := Aside0.mk hb; have d0 := M1.out.c0; have d1 := M1.out.c1; have d2 := M1.out.c2; clear ho hb; have tokB : True := trivial)
    | (go_at_call 43; have _t := tokB; clear _t tokB; refine (HWS.out w1 M1.out).mono ?_; rintro e w2 ⟨wv2, rfl, ho, hb⟩; obtain ⟨A2, c2_, rfl⟩ := own_form ho; have HO2 := Aside0.mk ho; have HO12 := Aside0.mk (pw_own_below HO1.out hb); have B2 := Aside0.mk (btrans B1.out hb); have M2 := Aside0.mk (M1.out.grow hb); have d0 := M2.out.c0; clear ho hb))
  all_goals go_wp2
  all_goals go_ret
  all_goals
    have hsz : w.heap.size ≤ w2.heap.size := B2.out.size
    have hn := heap_alloc_new w2 (.cells #[.int .i64 m.ep, .slice A1 m.th.length c1_, .slice A2 m.ws.length c2_] 69 (0, 0))
    have hbn := (Below.refl w2.heap.size w2).alloc (Nat.le_refl _) (.cells #[.int .i64 m.ep, .slice A1 m.th.length c1_, .slice A2 m.ws.length c2_] 69 (0, 0))
    have hb : Below w.heap.size w w2 := ⟨B2.out.os, B2.out.tape, B2.out.output, B2.out.size, B2.out.block⟩
    refine ⟨_, _, _, rfl, ⟨hsm, hsz, hn, ?_, ?_⟩, btrans hb hbn⟩
    · exact pw_own_below HO12.out hbn
    · have := HO2.out
      have h2 : w2.ownsRow w.heap.size 78 2 (.slice A2 m.ws.length c2_) m.ws.length (flat m.ws) := by
        obtain ⟨p1, p2⟩ := this
        refine ⟨p1, p2.imp_right ?_⟩
        rintro ⟨b, cap, cur, e, h3, h5⟩
        exact ⟨b, cap, cur, e, Nat.le_trans B1.out.size h3, h5⟩
      exact pw_own_below h2 hbn
end Go.Proofs.Ytcfodmnpmjkpbaa.Ep
