/- The document's lists, walked: where a number stands, a copy, a list without a place, a list with one more: plain lemmas; no condition. -/
import Derived.Test.YtiialjmpfeopjaaGreatSm1
import Derived.Test.YtiialjmpfeopjaaGreatWRepsOne
import Derived.BigQuiet
import Derived.Deep.QuietTactic
namespace Go.Proofs.YtiialjmpfeopjaaGreat.Sp
open Go.RowKit Go.Sort Go.Proofs.YtiialjmpfeopjaaGreatW.PrintWords Go.Proofs.YtiialjmpfeopjaaGreatW.PrintLast Go.Proofs.YtiialjmpfeopjaaGreatW.PrintMore
set_option linter.unusedVariables false
set_option linter.unusedSimpArgs false
set_option maxHeartbeats 8000000
set_option maxRecDepth 100000
/-- Where a number first stands, -1: nowhere. -/
def placeI (s : List Int) (x : Int) : Int := match s.findIdx? (fun y => y == x) with | some k => (k : Int) | none => -1
theorem place_hit {s : List Int} {x : Int} {k : Nat} (hk : k < s.length) (h0 : ∀ j, j < k → (s.getD j 0 == x) = false) (h1 : (s.getD k 0 == x) = true) : placeI s x = k := by
  have h : s.findIdx? (fun y => y == x) = some k := by
    rw [List.findIdx?_eq_some_iff_getElem]
    refine ⟨hk, ?_, fun j hj => ?_⟩
    · rw [List.getD_eq_getElem?_getD, List.getElem?_eq_getElem hk] at h1; exact h1
    · have := h0 j hj
      rw [List.getD_eq_getElem?_getD, List.getElem?_eq_getElem (by omega)] at this
      rw [Option.getD_some] at this; rw [this]; simp
  unfold placeI; rw [h]
theorem place_no {s : List Int} {x : Int} (h0 : ∀ j, j < s.length → (s.getD j 0 == x) = false) : placeI s x = -1 := by
  have h : s.findIdx? (fun y => y == x) = none := by
    rw [List.findIdx?_eq_none_iff]
    intro y hy
    obtain ⟨j, hj, rfl⟩ := List.mem_iff_getElem.1 hy
    have := h0 j hj
    rw [List.getD_eq_getElem?_getD, List.getElem?_eq_getElem hj] at this
    exact this
  unfold placeI; rw [h]
theorem place_mem {s : List Int} {x : Int} (h : x ∈ s) : 0 ≤ placeI s x ∧ placeI s x < s.length ∧ s.getD (placeI s x).toNat 0 = x := by
  cases hf : s.findIdx? (fun y => y == x) with
  | none =>
    rw [List.findIdx?_eq_none_iff] at hf
    have := hf x h
    simp at this
  | some k =>
    have hp : placeI s x = k := by unfold placeI; rw [hf]
    rw [List.findIdx?_eq_some_iff_getElem] at hf
    obtain ⟨hk, h1, _⟩ := hf
    rw [hp, Int.toNat_natCast, List.getD_eq_getElem?_getD, List.getElem?_eq_getElem hk]
    refine ⟨by omega, by omega, by simpa using h1⟩
theorem place_neg {s : List Int} {x : Int} (h : x ∉ s) : placeI s x = -1 :=
  place_no (fun j hj => by
    cases hq : (s.getD j 0 == x) with
    | false => rfl
    | true =>
      have he : s.getD j 0 = x := by simpa using hq
      exact absurd (by rw [← he, List.getD_eq_getElem?_getD, List.getElem?_eq_getElem hj]; exact List.getElem_mem hj) h)
theorem ref_place (A : Option Addr) (c : Nat) (s : List Int) (x : Int) (w : World) (hr : Rd w A s) :
    Calls Tryz.prog 28 #[.slice A s.length c, .int .i64 x] w fun e w' => e = .returned (.int .i64 (placeI s x)) ∧ w' = w := by
  have hmx := hr.max
  have HR := Aside0.mk hr
  clear hr
  go_enter Tryz.func28, Tryz.ntmps28
  go_wp2
  go_loopg [5] s.length (fun gg v5 wr => ∃ kk : Nat, kk ≤ s.length ∧ s.length - kk ≤ gg ∧ v5 = .int .i64 kk ∧ w = wr ∧ Aside0 (∀ j, j < kk → (s.getD j 0 == x) = false))
  case atStart => exact ⟨0, Nat.zero_le _, by omega, rfl, rfl, ⟨fun j hj => absurd hj (Nat.not_lt_zero _)⟩⟩
  case round =>
    obtain ⟨kk, hkk, hg, rfl, hw, HN⟩ := hrel
    subst hw
    by_cases hlt : kk < s.length
    · obtain ⟨ad, rfl, hc⟩ := HR.out.at kk hlt
      have HH := Aside0.mk (fun h => place_hit (x := x) hlt HN.out h)
      have HM := Aside0.mk (fun (h : (s.getD kk 0 == x) = false) (j : Nat) (hj : j < kk + 1) => (show (s.getD j 0 == x) = false from by
        by_cases e : j = kk
        · subst e; exact h
        · exact HN.out j (by omega)))
      generalize s.getD kk 0 = z at hc HH HM
      cases hq : (z == x) with
      | true =>
        have HQ := Aside0.mk (HH.out hq)
        go_wp2
        go_ret
        exact ⟨by rw [HQ.out]; rfl, rfl⟩
      | false =>
        have HQ := Aside0.mk (HM.out hq)
        go_wp2
        go_roundg (s.length - (kk + 1))
        case measure => omega
        case rel => exact ⟨kk + 1, hlt, by omega, by go_num, rfl, HQ⟩
    · obtain rfl : kk = s.length := by omega
      go_wp2
      go_ret
      exact ⟨by rw [place_no HN.out]; rfl, rfl⟩
theorem ref_clone (A : Option Addr) (c : Nat) (s : List Int) (w : World) (hr : Rd w A s) (hl : s.length ≤ 1000000) :
    Calls Tryz.prog 41 #[.slice A s.length c] w fun e w' => ∃ v, e = .returned v ∧ Own w' w.heap.size v s ∧ Below w.heap.size w w' := by
  have HR := Aside0.mk hr
  have HL := Aside0.mk hl
  have HB := Aside0.mk (Below.refl w.heap.size w)
  clear hr hl
  go_enter Tryz.func41, Tryz.ntmps41
  go_wp2_with (first | ((with_reducible refine gate_dst (N := 3) rfl ?_); refine Kd.R_lit (Kd.int .i64) _ 3 ?hg (N := 3) ?hd (xs := ([] : List Int)) (inner := []) (ok := fun _ => True) (okp := fun _ => True) ?hr ?hp (fun _ hk => hk) trivial (Below.refl _ _) (Nat.le_refl _) (by simp) ?_; (case hd => rfl); (case hg => rfl); (case hr => first | (go_simp; done) | (go_simp; rfl)); (case hp => first | exact (Reps.none _ _) | exact (Reps.cons rfl (Reps.none _ _)) | exact (repsI _)); intro v_HX w1 ho_ hb_ hg_ hnew_; clear hg_ hnew_; have HX := Aside0.mk (Kd.R_lower ho_ (below_size (by repeat (first | exact HB.out | apply below_alloc | apply pw_below_drewN | apply below_drew1)))); have HB_ := Aside0.mk (below_step (by repeat (first | exact HB.out | apply below_alloc | apply pw_below_drewN | apply below_drew1)) hb_); clear HB; have HB := HB_; clear HB_ hb_ ho_) | ((with_reducible refine gate_builtin (b := .append) (xs := #[.tmp 3, .tmp 4]) rfl ?_); at_builtin; refine Kd.R_append_rows (Kd.int .i64) (w0 := w) w.heap.size rfl (.tmp 3) (.tmp 4) 22 3 (.int .i64 0) 8 rfl Tryz.underlying22 info_int rfl (by decide) (by omega) v_HX [] s _ _ _ (fun _ => True) (fun _ => False) rfl rfl ?aO ?aR (fun _ _ h => h) (fun _ h => h.elim) ?aF ?aB ?aS ?aL ?_; (case aR => repeat (first | exact (Kd.C_below HR.out HB.out) | exact HR.out | (with_reducible refine Kd.C_alloc ?_ _) | (with_reducible refine Kd.C_drewN ?_ _) | (with_reducible refine Kd.C_drew ?_))); (case aB => exact (by repeat (first | exact HB.out | apply below_alloc | apply pw_below_drewN | apply below_drew1))); (case aF => exact (fun _ _ => trivial)); (case aO => exact (by (with_reducible repeat (first | apply Kd.R_alloc | apply Kd.R_drewN | apply Kd.R_drew)); exact HX.out)); (case aS => exact (below_size (by repeat (first | exact HB.out | apply below_alloc | apply pw_below_drewN | apply below_drew1)))); (case aL => (have := HL.out; simp only [List.length_nil]; omega)); intro v_HY w2 ho_ hb_ hg_ hat_; have HY := Aside0.mk ho_; have HB_ := Aside0.mk hb_; clear HB; have HB := HB_; clear HB_ hb_ ho_ hg_ hat_; clear HX))
  go_ret
  exact ⟨_, rfl, Own.of_R HY.out, HB.out⟩
theorem ref_without (A : Option Addr) (c : Nat) (s : List Int) (a : Int) (w : World) (hr : Rd w A s) (hc : s.length ≤ c) (hl : s.length ≤ 1000000) (h0 : 0 ≤ a) (h1 : a < s.length) :
    Calls Tryz.prog 31 #[.slice A s.length c, .int .i64 a] w fun e w' => ∃ v, e = .returned v ∧ Own w' w.heap.size v (s.eraseIdx a.toNat) ∧ Below w.heap.size w w' := by
  have HR := Aside0.mk hr
  have HL := Aside0.mk hl
  have HB := Aside0.mk (Below.refl w.heap.size w)
  obtain ⟨j, hj⟩ : ∃ j : Int, j = a + 1 := ⟨_, rfl⟩
  have hjw : IntKind.i64.wrap (a + 1) = j := (IntWalk.i64_in _ (by omega)).trans hj.symm
  obtain ⟨i1, hi1, _, hsz1, _⟩ := info_parts info_int
  obtain ⟨hcut1, hA1, hC1⟩ := print_take_of (P := Tryz.prog) (Value.int .i64) 0 22 3 .i64 Tryz.underlying22 hi1 hsz1 A c s a h0 (by omega) hc
  have HR1 := Aside0.mk (Kd.C_of_reads (h1 := fun _ => rfl) (hA1 _ (Kd.reads_of_C HR.out)))
  obtain ⟨x1, hx1⟩ : ∃ x, x = (s).take (a).toNat := ⟨_, rfl⟩
  rw [← hx1] at hcut1 HR1
  have HX1 := Aside0.mk hx1
  clear hA1 hC1 hi1 hsz1 hx1
  obtain ⟨i2, hi2, _, hsz2, _⟩ := info_parts info_int
  obtain ⟨A2, hcut2, hA2, hC2⟩ := print_drop_of (P := Tryz.prog) (Value.int .i64) 0 22 3 .i64 Tryz.underlying22 hi2 hsz2 A c s j (by omega) (by omega) hc
  have HR2 := Aside0.mk (Kd.C_of_reads (h1 := fun _ => rfl) (hA2 _ (Kd.reads_of_C HR.out)))
  obtain ⟨x2, hx2⟩ : ∃ x, x = (s).drop (j).toNat := ⟨_, rfl⟩
  rw [← hx2] at hcut2 HR2
  have HX2 := Aside0.mk hx2
  clear hA2 hC2 hi2 hsz2 hx2
  have HE := Aside0.mk (show [] ++ x1 ++ x2 = s.eraseIdx a.toNat from by
    rw [HX1.out, HX2.out, List.nil_append, List.eraseIdx_eq_take_drop_succ, hj, show (a + 1).toNat = a.toNat + 1 by omega])
  have HL1 := Aside0.mk (show x1.length ≤ 1000000 from by rw [HX1.out, List.length_take]; omega)
  have HL2 := Aside0.mk (show x2.length ≤ 1000000 from by rw [HX2.out, List.length_drop]; omega)
  clear hr hl hj h0 h1
  go_enter Tryz.func31, Tryz.ntmps31
  go_wp2_with (first | ((with_reducible refine gate_dst (N := 6) rfl ?_); refine Kd.R_lit (Kd.int .i64) _ 3 ?hg (N := 6) ?hd (xs := ([] : List Int)) (inner := []) (ok := fun _ => True) (okp := fun _ => True) ?hr ?hp (fun _ hk => hk) trivial (Below.refl _ _) (Nat.le_refl _) (by simp) ?_; (case hd => rfl); (case hg => rfl); (case hr => first | (go_simp; done) | (go_simp; rfl)); (case hp => first | exact (Reps.none _ _) | exact (Reps.cons rfl (Reps.none _ _)) | exact (repsI _)); intro v_HX w1 ho_ hb_ hg_ hnew_; clear hg_ hnew_; have HX := Aside0.mk (Kd.R_lower ho_ (below_size (by repeat (first | exact HB.out | apply below_alloc | apply pw_below_drewN | apply below_drew1)))); have HB_ := Aside0.mk (below_step (by repeat (first | exact HB.out | apply below_alloc | apply pw_below_drewN | apply below_drew1)) hb_); clear HB; have HB := HB_; clear HB_ hb_ ho_) | ((with_reducible refine gate_builtin (b := .append) (xs := #[.tmp 6, .tmp 9]) rfl ?_); at_builtin; refine Kd.R_append_rows (Kd.int .i64) (w0 := w) w.heap.size rfl (.tmp 6) (.tmp 9) 22 3 (.int .i64 0) 8 rfl Tryz.underlying22 info_int rfl (by decide) (by omega) v_HX [] x1 _ _ _ (fun _ => True) (fun _ => False) rfl rfl ?aO ?aR (fun _ _ h => h) (fun _ h => h.elim) ?aF ?aB ?aS ?aL ?_; (case aR => repeat (first | exact (Kd.C_below HR1.out HB.out) | exact HR1.out | (with_reducible refine Kd.C_alloc ?_ _) | (with_reducible refine Kd.C_drewN ?_ _) | (with_reducible refine Kd.C_drew ?_))); (case aB => exact (by repeat (first | exact HB.out | apply below_alloc | apply pw_below_drewN | apply below_drew1))); (case aF => exact (fun _ _ => trivial)); (case aO => exact (by (with_reducible repeat (first | apply Kd.R_alloc | apply Kd.R_drewN | apply Kd.R_drew)); exact HX.out)); (case aS => exact (below_size (by repeat (first | exact HB.out | apply below_alloc | apply pw_below_drewN | apply below_drew1)))); (case aL => (have := HL1.out; simp only [List.length_nil]; omega)); intro v_HY w2 ho_ hb_ hg_ hat_; have HY := Aside0.mk ho_; have HB_ := Aside0.mk hb_; clear HB; have HB := HB_; clear HB_ hb_ ho_ hg_ hat_; clear HX) | ((with_reducible refine gate_builtin (b := .append) (xs := #[.tmp 11, .tmp 15]) rfl ?_); at_builtin; refine Kd.R_append_rows (Kd.int .i64) (w0 := w) w.heap.size rfl (.tmp 11) (.tmp 15) 22 3 (.int .i64 0) 8 rfl Tryz.underlying22 info_int rfl (by decide) (by omega) v_HY ([] ++ x1) x2 _ _ _ (fun _ => True) (fun _ => False) rfl rfl ?aO ?aR (fun _ _ h => h) (fun _ h => h.elim) ?aF ?aB ?aS ?aL ?_; (case aR => repeat (first | exact (Kd.C_below HR2.out HB.out) | exact HR2.out | (with_reducible refine Kd.C_alloc ?_ _) | (with_reducible refine Kd.C_drewN ?_ _) | (with_reducible refine Kd.C_drew ?_))); (case aB => exact (by repeat (first | exact HB.out | apply below_alloc | apply pw_below_drewN | apply below_drew1))); (case aF => exact (fun _ _ => trivial)); (case aO => exact (by (with_reducible repeat (first | apply Kd.R_alloc | apply Kd.R_drewN | apply Kd.R_drew)); exact HY.out)); (case aS => exact (below_size (by repeat (first | exact HB.out | apply below_alloc | apply pw_below_drewN | apply below_drew1)))); (case aL => (have := HL1.out; have := HL2.out; rw [List.length_append, List.length_nil]; omega)); intro v_HZ w3 ho_ hb_ hg_ hat_; have HZ := Aside0.mk ho_; have HB_ := Aside0.mk hb_; clear HB; have HB := HB_; clear HB_ hb_ ho_ hg_ hat_; clear HY))
  go_ret
  exact ⟨_, rfl, by rw [← HE.out]; exact Own.of_R HZ.out, HB.out⟩
def cntLe (s : List Int) (x : Int) (k : Nat) : Prop := k ≤ s.length ∧ (∀ j, j < k → s.getD j 0 ≤ x) ∧ (k < s.length → ¬ s.getD k 0 ≤ x)
theorem ref_sorted (A : Option Addr) (c : Nat) (s : List Int) (x : Int) (w : World) (hr : Rd w A s) (hc : s.length ≤ c) (hl : s.length ≤ 1000000) :
    Calls Tryz.prog 30 #[.slice A s.length c, .int .i64 x] w fun e w' => ∃ v k, e = .returned v ∧ cntLe s x k ∧ Own w' w.heap.size v (s.take k ++ x :: s.drop k) ∧ Below w.heap.size w w' := by
  have hmx := hr.max
  have HR := Aside0.mk hr
  have HL := Aside0.mk hl
  have HC := Aside0.mk hc
  have HB := Aside0.mk (Below.refl w.heap.size w)
  clear hr hl hc
  go_enter Tryz.func30, Tryz.ntmps30
  go_wp2
  go_loopg [5] s.length (fun gg v5 wr => ∃ kk : Nat, kk ≤ s.length ∧ s.length - kk ≤ gg ∧ v5 = .int .i64 kk ∧ w = wr ∧ Aside0 (∀ j, j < kk → s.getD j 0 ≤ x))
  case atStart => exact ⟨0, Nat.zero_le _, by omega, rfl, rfl, ⟨fun j hj => absurd hj (Nat.not_lt_zero _)⟩⟩
  case round =>
    obtain ⟨kk, hkk, hg, rfl, hw, HN⟩ := hrel
    subst hw
    by_cases hlt : kk < s.length ∧ s.getD kk 0 ≤ x
    · obtain ⟨hlt, hle⟩ := hlt
      obtain ⟨ad, rfl, hc⟩ := HR.out.at kk hlt
      have HM := Aside0.mk (fun (j : Nat) (hj : j < kk + 1) => (show s.getD j 0 ≤ x from by
        by_cases e : j = kk
        · subst e; exact hle
        · exact HN.out j (by omega)))
      generalize s.getD kk 0 = z at hc hle
      go_wp2
      go_roundg (s.length - (kk + 1))
      case measure => omega
      case rel => exact ⟨kk + 1, hlt, by omega, by go_num, rfl, HM⟩
    · have HK := Aside0.mk (show cntLe s x kk from ⟨hkk, HN.out, fun h q => hlt ⟨h, q⟩⟩)
      obtain ⟨a, ha⟩ : ∃ a : Int, a = (kk : Int) := ⟨_, rfl⟩
      have hl := HL.out
      obtain ⟨i1, hi1, _, hsz1, _⟩ := info_parts info_int
      obtain ⟨hcut1, hA1, hC1⟩ := print_take_of (P := Tryz.prog) (Value.int .i64) 0 22 3 .i64 Tryz.underlying22 hi1 hsz1 A c s a (by omega) (by omega) HC.out
      have HR1 := Aside0.mk (Kd.C_of_reads (h1 := fun _ => rfl) (hA1 _ (Kd.reads_of_C HR.out)))
      obtain ⟨x1, hx1⟩ : ∃ x, x = (s).take (a).toNat := ⟨_, rfl⟩
      rw [← hx1] at hcut1 HR1
      have HX1 := Aside0.mk hx1
      clear hA1 hC1 hi1 hsz1 hx1
      obtain ⟨i2, hi2, _, hsz2, _⟩ := info_parts info_int
      obtain ⟨A2, hcut2, hA2, hC2⟩ := print_drop_of (P := Tryz.prog) (Value.int .i64) 0 22 3 .i64 Tryz.underlying22 hi2 hsz2 A c s a (by omega) (by omega) HC.out
      have HR2 := Aside0.mk (Kd.C_of_reads (h1 := fun _ => rfl) (hA2 _ (Kd.reads_of_C HR.out)))
      obtain ⟨x2, hx2⟩ : ∃ x, x = (s).drop (a).toNat := ⟨_, rfl⟩
      rw [← hx2] at hcut2 HR2
      have HX2 := Aside0.mk hx2
      clear hA2 hC2 hi2 hsz2 hx2
      have HL1 := Aside0.mk (show x1.length ≤ 1000000 from by rw [HX1.out, List.length_take]; omega)
      have HL2 := Aside0.mk (show x2.length ≤ 1000000 from by rw [HX2.out, List.length_drop]; omega)
      have HE := Aside0.mk (show ([] ++ x1) ++ [x] ++ x2 = s.take kk ++ x :: s.drop kk from by rw [HX1.out, HX2.out, ha, Int.toNat_natCast]; simp)
      rw [← ha]
      clear hl
      by_cases hk : kk < s.length
      · have hle : ¬ s.getD kk 0 ≤ x := fun q => hlt ⟨hk, q⟩
        obtain ⟨ad, rfl, hc⟩ := HR.out.at kk hk
        generalize s.getD kk 0 = z at hc hle
        have had : ad.add kk = ad.add a.toNat := by rw [ha, Int.toNat_natCast]
        have hai : a < (s.length : Int) := by omega
        have ha0 : 0 ≤ a := by omega
        rw [had] at hc
        clear ha had hlt
        go_wp2_with (first | ((with_reducible refine gate_dst (N := 21) rfl ?_); refine Kd.R_lit (Kd.int .i64) _ 3 ?hg (N := 21) ?hd (xs := ([] : List Int)) (inner := []) (ok := fun _ => True) (okp := fun _ => True) ?hr ?hp (fun _ hk => hk) trivial (Below.refl _ _) (Nat.le_refl _) (by simp) ?_; (case hd => rfl); (case hg => rfl); (case hr => first | (go_simp; done) | (go_simp; rfl)); (case hp => first | exact (Reps.none _ _) | exact (Reps.cons rfl (Reps.none _ _)) | exact (repsI _)); intro v_HX w1 ho_ hb_ hg_ hnew_; clear hg_ hnew_; have HX := Aside0.mk (Kd.R_lower ho_ (below_size (by repeat (first | exact HB.out | apply below_alloc | apply pw_below_drewN | apply below_drew1)))); have HB_ := Aside0.mk (below_step (by repeat (first | exact HB.out | apply below_alloc | apply pw_below_drewN | apply below_drew1)) hb_); clear HB; have HB := HB_; clear HB_ hb_ ho_) | ((with_reducible refine gate_builtin (b := .append) (xs := #[.tmp 21, .tmp 24]) rfl ?_); at_builtin; refine Kd.R_append_rows (Kd.int .i64) (w0 := w) w.heap.size rfl (.tmp 21) (.tmp 24) 22 3 (.int .i64 0) 8 rfl Tryz.underlying22 info_int rfl (by decide) (by omega) v_HX [] x1 _ _ _ (fun _ => True) (fun _ => False) rfl rfl ?aO ?aR (fun _ _ h => h) (fun _ h => h.elim) ?aF ?aB ?aS ?aL ?_; (case aR => repeat (first | exact (Kd.C_below HR1.out HB.out) | exact HR1.out | (with_reducible refine Kd.C_alloc ?_ _) | (with_reducible refine Kd.C_drewN ?_ _) | (with_reducible refine Kd.C_drew ?_))); (case aB => exact (by repeat (first | exact HB.out | apply below_alloc | apply pw_below_drewN | apply below_drew1))); (case aF => exact (fun _ _ => trivial)); (case aO => exact (by (with_reducible repeat (first | apply Kd.R_alloc | apply Kd.R_drewN | apply Kd.R_drew)); exact HX.out)); (case aS => exact (below_size (by repeat (first | exact HB.out | apply below_alloc | apply pw_below_drewN | apply below_drew1)))); (case aL => (have := HL1.out; simp only [List.length_nil]; omega)); intro v_HY w2 ho_ hb_ hg_ hat_; have HY := Aside0.mk ho_; have HB_ := Aside0.mk hb_; clear HB; have HB := HB_; clear HB_ hb_ ho_ hg_ hat_; clear HX) | ((with_reducible refine gate_builtin (b := .append) (xs := #[.tmp 26, .tmp 28]) rfl ?_); at_builtin; refine Kd.R_append (Kd.int .i64) (w0 := w) w.heap.size rfl (.tmp 26) (.tmp 28) 22 3 (.int .i64 0) 8 rfl Tryz.underlying22 info_int rfl (by decide) (by omega) v_HY ([] ++ x1) x [.int .i64 x] (fun _ => True) (fun _ => False) rfl rfl rfl (fun _ hk => hk.elim) (fun _ _ => trivial) ?aO ?aB ?aS ?aL ?_; (case aB => exact (by repeat (first | exact HB.out | apply below_alloc | apply pw_below_drewN | apply below_drew1))); (case aO => exact (by (with_reducible repeat (first | apply Kd.R_alloc | apply Kd.R_drewN | apply Kd.R_drew)); exact HY.out)); (case aS => exact (below_size (by repeat (first | exact HB.out | apply below_alloc | apply pw_below_drewN | apply below_drew1)))); (case aL => (have := HL1.out; rw [List.length_append, List.length_nil]; omega)); intro v_HU w3 ho_ hb_ hg_ hat_; have HU := Aside0.mk ho_; have HB_ := Aside0.mk hb_; clear HB; have HB := HB_; clear HB_ hb_ ho_ hg_ hat_; clear HY) | ((with_reducible refine gate_builtin (b := .append) (xs := #[.tmp 30, .tmp 33]) rfl ?_); at_builtin; refine Kd.R_append_rows (Kd.int .i64) (w0 := w) w.heap.size rfl (.tmp 30) (.tmp 33) 22 3 (.int .i64 0) 8 rfl Tryz.underlying22 info_int rfl (by decide) (by omega) v_HU ([] ++ x1 ++ [x]) x2 _ _ _ (fun _ => True) (fun _ => False) rfl rfl ?aO ?aR (fun _ _ h => h) (fun _ h => h.elim) ?aF ?aB ?aS ?aL ?_; (case aR => repeat (first | exact (Kd.C_below HR2.out HB.out) | exact HR2.out | (with_reducible refine Kd.C_alloc ?_ _) | (with_reducible refine Kd.C_drewN ?_ _) | (with_reducible refine Kd.C_drew ?_))); (case aB => exact (by repeat (first | exact HB.out | apply below_alloc | apply pw_below_drewN | apply below_drew1))); (case aF => exact (fun _ _ => trivial)); (case aO => exact (by (with_reducible repeat (first | apply Kd.R_alloc | apply Kd.R_drewN | apply Kd.R_drew)); exact HU.out)); (case aS => exact (below_size (by repeat (first | exact HB.out | apply below_alloc | apply pw_below_drewN | apply below_drew1)))); (case aL => (have := HL1.out; have := HL2.out; simp only [List.length_append, List.length_cons, List.length_nil]; omega)); intro v_HZ w4 ho_ hb_ hg_ hat_; have HZ := Aside0.mk ho_; have HB_ := Aside0.mk hb_; clear HB; have HB := HB_; clear HB_ hb_ ho_ hg_ hat_; clear HU))
        go_ret
        exact ⟨_, rfl, kk, HK.out, by rw [← HE.out]; exact Own.of_R HZ.out, HB.out⟩
      · have hai : ¬ a < (s.length : Int) := by omega
        clear ha hlt
        go_wp2_with (first | ((with_reducible refine gate_dst (N := 21) rfl ?_); refine Kd.R_lit (Kd.int .i64) _ 3 ?hg (N := 21) ?hd (xs := ([] : List Int)) (inner := []) (ok := fun _ => True) (okp := fun _ => True) ?hr ?hp (fun _ hk => hk) trivial (Below.refl _ _) (Nat.le_refl _) (by simp) ?_; (case hd => rfl); (case hg => rfl); (case hr => first | (go_simp; done) | (go_simp; rfl)); (case hp => first | exact (Reps.none _ _) | exact (Reps.cons rfl (Reps.none _ _)) | exact (repsI _)); intro v_HX w1 ho_ hb_ hg_ hnew_; clear hg_ hnew_; have HX := Aside0.mk (Kd.R_lower ho_ (below_size (by repeat (first | exact HB.out | apply below_alloc | apply pw_below_drewN | apply below_drew1)))); have HB_ := Aside0.mk (below_step (by repeat (first | exact HB.out | apply below_alloc | apply pw_below_drewN | apply below_drew1)) hb_); clear HB; have HB := HB_; clear HB_ hb_ ho_) | ((with_reducible refine gate_builtin (b := .append) (xs := #[.tmp 21, .tmp 24]) rfl ?_); at_builtin; refine Kd.R_append_rows (Kd.int .i64) (w0 := w) w.heap.size rfl (.tmp 21) (.tmp 24) 22 3 (.int .i64 0) 8 rfl Tryz.underlying22 info_int rfl (by decide) (by omega) v_HX [] x1 _ _ _ (fun _ => True) (fun _ => False) rfl rfl ?aO ?aR (fun _ _ h => h) (fun _ h => h.elim) ?aF ?aB ?aS ?aL ?_; (case aR => repeat (first | exact (Kd.C_below HR1.out HB.out) | exact HR1.out | (with_reducible refine Kd.C_alloc ?_ _) | (with_reducible refine Kd.C_drewN ?_ _) | (with_reducible refine Kd.C_drew ?_))); (case aB => exact (by repeat (first | exact HB.out | apply below_alloc | apply pw_below_drewN | apply below_drew1))); (case aF => exact (fun _ _ => trivial)); (case aO => exact (by (with_reducible repeat (first | apply Kd.R_alloc | apply Kd.R_drewN | apply Kd.R_drew)); exact HX.out)); (case aS => exact (below_size (by repeat (first | exact HB.out | apply below_alloc | apply pw_below_drewN | apply below_drew1)))); (case aL => (have := HL1.out; simp only [List.length_nil]; omega)); intro v_HY w2 ho_ hb_ hg_ hat_; have HY := Aside0.mk ho_; have HB_ := Aside0.mk hb_; clear HB; have HB := HB_; clear HB_ hb_ ho_ hg_ hat_; clear HX) | ((with_reducible refine gate_builtin (b := .append) (xs := #[.tmp 26, .tmp 28]) rfl ?_); at_builtin; refine Kd.R_append (Kd.int .i64) (w0 := w) w.heap.size rfl (.tmp 26) (.tmp 28) 22 3 (.int .i64 0) 8 rfl Tryz.underlying22 info_int rfl (by decide) (by omega) v_HY ([] ++ x1) x [.int .i64 x] (fun _ => True) (fun _ => False) rfl rfl rfl (fun _ hk => hk.elim) (fun _ _ => trivial) ?aO ?aB ?aS ?aL ?_; (case aB => exact (by repeat (first | exact HB.out | apply below_alloc | apply pw_below_drewN | apply below_drew1))); (case aO => exact (by (with_reducible repeat (first | apply Kd.R_alloc | apply Kd.R_drewN | apply Kd.R_drew)); exact HY.out)); (case aS => exact (below_size (by repeat (first | exact HB.out | apply below_alloc | apply pw_below_drewN | apply below_drew1)))); (case aL => (have := HL1.out; rw [List.length_append, List.length_nil]; omega)); intro v_HU w3 ho_ hb_ hg_ hat_; have HU := Aside0.mk ho_; have HB_ := Aside0.mk hb_; clear HB; have HB := HB_; clear HB_ hb_ ho_ hg_ hat_; clear HY) | ((with_reducible refine gate_builtin (b := .append) (xs := #[.tmp 30, .tmp 33]) rfl ?_); at_builtin; refine Kd.R_append_rows (Kd.int .i64) (w0 := w) w.heap.size rfl (.tmp 30) (.tmp 33) 22 3 (.int .i64 0) 8 rfl Tryz.underlying22 info_int rfl (by decide) (by omega) v_HU ([] ++ x1 ++ [x]) x2 _ _ _ (fun _ => True) (fun _ => False) rfl rfl ?aO ?aR (fun _ _ h => h) (fun _ h => h.elim) ?aF ?aB ?aS ?aL ?_; (case aR => repeat (first | exact (Kd.C_below HR2.out HB.out) | exact HR2.out | (with_reducible refine Kd.C_alloc ?_ _) | (with_reducible refine Kd.C_drewN ?_ _) | (with_reducible refine Kd.C_drew ?_))); (case aB => exact (by repeat (first | exact HB.out | apply below_alloc | apply pw_below_drewN | apply below_drew1))); (case aF => exact (fun _ _ => trivial)); (case aO => exact (by (with_reducible repeat (first | apply Kd.R_alloc | apply Kd.R_drewN | apply Kd.R_drew)); exact HU.out)); (case aS => exact (below_size (by repeat (first | exact HB.out | apply below_alloc | apply pw_below_drewN | apply below_drew1)))); (case aL => (have := HL1.out; have := HL2.out; simp only [List.length_append, List.length_cons, List.length_nil]; omega)); intro v_HZ w4 ho_ hb_ hg_ hat_; have HZ := Aside0.mk ho_; have HB_ := Aside0.mk hb_; clear HB; have HB := HB_; clear HB_ hb_ ho_ hg_ hat_; clear HU))
        go_ret
        exact ⟨_, rfl, kk, HK.out, by rw [← HE.out]; exact Own.of_R HZ.out, HB.out⟩
end Go.Proofs.YtiialjmpfeopjaaGreat.Sp
