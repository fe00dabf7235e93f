/- Rest of an epoch manager: plain lemmas; no condition. -/
import Derived.Test.YtcfodmnpmjkpbaaE7
namespace Go.Proofs.Ytcfodmnpmjkpbaa.Ep
open Go.RowKit Go.Proofs.YtcfodmnpmjkpbaaW.PrintWords Go.Proofs.YtcfodmnpmjkpbaaW.PrintLast Go.Proofs.YtcfodmnpmjkpbaaW.PrintMore
set_option linter.unusedVariables false
set_option linter.unusedSimpArgs false
set_option maxHeartbeats 8000000
set_option maxRecDepth 100000
theorem R_deed {B : Nat} {w w' : World} {g base : Nat} {tv wv v : Value} {m : EM} {xs : List Int} (h : Kd.R (Kd.int .i64) 3 w base (fun _ => True) v xs) (hm : Man B w g tv wv m) (hg : g < base) (htv : ∀ k, tv.ownBlock = some k → k < base) (hk : Kept w w' (foot g tv wv)) : Kd.R (Kd.int .i64) 3 w' base (fun _ => True) v xs := by
  refine Kd.R_mono (Kd.R_step (Kd.R_bound h) (fun k hk1 hlt => hk.2 k hlt (fun hf => ?_))) (fun _ _ => trivial)
  obtain ⟨_, hb, _, q, hq, cells, hc⟩ := hk1
  have hq3 : q = 3 := by simpa [Kd.int, Kd.scalar] using hq
  subst hq3
  rcases hf with rfl | hf | hf
  · omega
  · have := htv k hf; omega
  · obtain ⟨c, hc2⟩ := own_tag hm.own k hf
    exact ne_of_tag hc2 hc (by decide) rfl
def rested (m : EM) : EM := tried (tried (tried m))
def restBack (m : EM) : List Int := tryBack m ++ tryBack (tried m) ++ tryBack (tried (tried m))
theorem cat3 (X : Nat → List Int) : cat X 3 = X 0 ++ X 1 ++ X 2 := by
  rw [cat_succ, cat_succ, cat_succ]
  simp [cat]
section
variable {B : Nat} {w : World} {g : Nat} {tv wv : Value} {m : EM}
theorem rest_no (g : Option Addr) (w : World) (hc : Calls Try.prog 38 #[.pointer g, .int .i64 0] w fun e w' => e = .returned (.bool false) ∧ w' = w) : Calls Try.prog 27 #[.pointer g] w fun e w' => e = .returned (.slice none 0 0) ∧ w' = w := by
  go_enter Try.func27, Try.ntmps27
  go_wp2_with (go_at_call 38; refine hc.mono ?_; rintro e w' ⟨rfl, rfl⟩)
  go_ret
  exact ⟨rfl, rfl⟩
theorem rest_calls (hm : Man B w g tv wv m) (hB : B ≤ w.heap.size) (h0 : 0 < m.th.length) (hl : m.ws.length ≤ 100000) (he0 : 0 ≤ m.ep) (he : m.ep ≤ 90000) :
    Calls Try.prog 27 #[.pointer (some ⟨g, 0, none⟩)] w fun e w' => ∃ v, e = .returned v ∧ Kd.R (Kd.int .i64) 3 w' w.heap.size (fun _ => True) v (restBack m) ∧ After B w g tv wv (rested m) w' := by
  have hc := has_calls hm 0
  rw [bad_zero h0] at hc
  obtain ⟨_, f1, f2, f3⟩ := tried_facts m
  obtain ⟨_, f4, f5, f6⟩ := tried_facts (tried m)
  obtain ⟨_, f7, f8, f9⟩ := tried_facts (tried (tried m))
  have hgl := blk_lt hm.top
  have htl : ∀ k, tv.ownBlock = some k → k < w.heap.size := fun k hk => own_lt hm.tow k hk
  have t1 := try_calls hm hB (by omega) he0 (by omega)
  have HT1 := Aside0.mk t1
  have HTL := Aside0.mk htl
  have HCT : Aside0 (∀ X : Nat → List Int, X 0 = tryBack m → X 1 = tryBack (tried m) → X 2 = tryBack (tried (tried m)) → cat X 3 = restBack m) := ⟨fun X e1 e2 e3 => by rw [cat3, e1, e2, e3]; rfl⟩
  have l1 : (tryBack m).length ≤ 100000 := by omega
  have l2 : (tryBack (tried m)).length ≤ 100000 := by omega
  have l3 : (tryBack (tried (tried m))).length ≤ 100000 := by omega
  clear hm t1 htl
  unfold rested
  generalize restBack m = RB at *
  go_enter Try.func27, Try.ntmps27
  go_wp2_with (first
    | (go_at_call 38; refine hc.mono ?_; rintro e w' ⟨rfl, hw⟩; rw [hw]; clear hw hc; have tok1 : True := trivial)
    | (go_at_call 40; have _t := tok1; clear _t tok1; refine (HT1.out).mono ?_; rintro e w1 ⟨v1, rfl, hr, wv1, hm1, hk1, hb1, hw1⟩; obtain ⟨A1, c1, rfl⟩ := Kd.R_slice hr; have HR1 := Aside0.mk hr; have HM1 := Aside0.mk hm1; have HK1 := Aside0.mk hk1; have HB1 := Aside0.mk hb1; have HW1 := Aside0.mk hw1; have HT2 := Aside0.mk (try_calls hm1 (Nat.le_trans hB hk1.1) (by omega) (by omega) (by omega)); clear hr hm1 hk1 hb1 hw1 HT1; have tok2 : True := trivial)
    | (go_at_call 40; have _t := tok2; clear _t tok2; refine (HT2.out).mono ?_; rintro e w2 ⟨v2, rfl, hr, wv2, hm2, hk2, hb2, hw2⟩; obtain ⟨A2, c2, rfl⟩ := Kd.R_slice hr; have HR2 := Aside0.mk hr; have HM2 := Aside0.mk hm2; have HK2 := Aside0.mk hk2; have HB2 := Aside0.mk hb2; have HW2 := Aside0.mk hw2; have HT3 := Aside0.mk (try_calls hm2 (Nat.le_trans (Nat.le_trans hB HK1.out.1) hk2.1) (by omega) (by omega) (by omega)); clear hr hm2 hk2 hb2 hw2 HT2; have tok3 : True := trivial)
    | (go_at_call 40; have _t := tok3; clear _t tok3; refine (HT3.out).mono ?_; rintro e w3 ⟨v3, rfl, hr, ha⟩; obtain ⟨A3, c3, rfl⟩ := Kd.R_slice hr; have HR3 := Aside0.mk hr; have HA3 := Aside0.mk ha; clear hr ha HT3; have tok4 : True := trivial))
  obtain ⟨wv3, hm3, hk3, hb3, hw3⟩ := HA3.out
  have hr1 := R_deed (R_deed HR1.out HM1.out hgl HTL.out HK2.out) HM2.out hgl HTL.out hk3
  have hlt1 : w.heap.size ≤ w1.heap.size := HK1.out.1
  have hr2 := R_deed HR2.out HM2.out (by omega) (fun k hk => Nat.lt_of_lt_of_le (HTL.out k hk) hlt1) hk3
  have hbe := (Below.refl w3.heap.size w3).alloc (Nat.le_refl _) (.cells #[.slice A1 (tryBack m).length c1, .slice A2 (tryBack (tried m)).length c2, .slice A3 (tryBack (tried (tried m))).length c3] 41 (0, 0))
  have hcat := concat_calls (w3.alloc (.cells #[.slice A1 (tryBack m).length c1, .slice A2 (tryBack (tried m)).length c2, .slice A3 (tryBack (tried (tried m))).length c3] 41 (0, 0))) w3.heap.size
    (fun k => if k = 0 then tryBack m else if k = 1 then tryBack (tried m) else tryBack (tried (tried m))) (fun k => if k = 0 then A1 else if k = 1 then A2 else A3) (fun k => if k = 0 then c1 else if k = 1 then c2 else c3)
    (fun k hk => by
      rw [Go.Lib.cell_of_heap (heap_alloc_new w3 _)]
      obtain rfl | rfl | rfl : k = 0 ∨ k = 1 ∨ k = 2 := by omega
      · rfl
      · rfl
      · rfl)
    (fun k hk => by
      obtain rfl | rfl | rfl : k = 0 ∨ k = 1 ∨ k = 2 := by omega
      · exact Kd.C_below (Kd.R_reads' hr1).2.2 hbe
      · exact Kd.C_below (Kd.R_reads' hr2).2.2 hbe
      · exact Kd.C_below (Kd.R_reads' HR3.out).2.2 hbe)
    (fun k hk => by
      obtain rfl | rfl | rfl : k = 0 ∨ k = 1 ∨ k = 2 := by omega
      · exact l1
      · exact l2
      · exact l3)
  rw [HCT.out _ rfl rfl rfl] at hcat
  refine (hcat).mono ?_
  rintro e w4 ⟨v4, rfl, hr4, hb4⟩
  have HR4 := Aside0.mk hr4
  have HB4 := Aside0.mk (btrans hbe hb4)
  have hsz : w.heap.size ≤ (w3.alloc (.cells #[.slice A1 (tryBack m).length c1, .slice A2 (tryBack (tried m)).length c2, .slice A3 (tryBack (tried (tried m))).length c3] 41 (0, 0))).heap.size := by
    have := HK2.out.1
    have := hk3.1
    have := hbe.size
    omega
  have hsz3 : w1.heap.size ≤ w3.heap.size := Nat.le_trans HK2.out.1 hk3.1
  clear hcat hr4 hb4 hbe hr1 hr2
  go_wp2
  go_ret
  refine ⟨_, rfl, Kd.R_lower HR4.out hsz, ?_⟩
  refine After.then_ HK1.out HB1.out HW1.out (After.then_ HK2.out HB2.out HW2.out (After.then_ hk3 hb3 hw3 (After.grow hm3 ?_ HB4.out)))
  have := HK1.out.1
  omega
end
end Go.Proofs.Ytcfodmnpmjkpbaa.Ep
