/- The document's Results and Next, walked: plain lemmas; no condition. -/
import Derived.Test.YtiialjmpfeopjaaGreatRfI
import Derived.BigQuiet
import Derived.Deep.QuietTactic
namespace Go.Proofs.YtiialjmpfeopjaaGreat.Sp
open Go.RowKit Go.Sort Go.Proofs.YtiialjmpfeopjaaGreatW.PrintWords Go.Proofs.YtiialjmpfeopjaaGreatW.PrintLast Go.Proofs.YtiialjmpfeopjaaGreatW.PrintMore
set_option linter.unusedVariables false
set_option linter.unusedSimpArgs false
set_option maxHeartbeats 8000000
set_option maxRecDepth 100000
def ResAt (r n : Int) (A : Option Addr) (c : Nat) (s : List Int) (op : ByteArray) (x y t : Int) (w : World) (l : List Int) : Prop :=
  Calls Tryz.prog 13 #[.int .i64 r, .int .i64 n, .slice A s.length c, .agg #[.string op, .int .i64 x, .int .i64 y], .int .i64 t] w fun e w' => ∃ v, e = .returned v ∧ Own w' w.heap.size v l ∧ Below w.heap.size w w'
def NextAt (r n : Int) (A : Option Addr) (c : Nat) (s : List Int) (op : ByteArray) (x y t res : Int) (w : World) (l : List Int) (b : Bool) : Prop :=
  Calls Tryz.prog 14 #[.int .i64 r, .int .i64 n, .slice A s.length c, .agg #[.string op, .int .i64 x, .int .i64 y], .int .i64 t, .int .i64 res] w fun e w' => ∃ v, e = .returned (.tuple #[v, .bool b]) ∧ Own w' w.heap.size v l ∧ Below w.heap.size w w'
def freeI (s : List Int) (k : Nat) : List Int := ((List.range k).filter fun (n : Nat) => !s.contains (n : Int)).map fun (n : Nat) => (n : Int)
theorem freeI_succ (s : List Int) (k : Nat) : freeI s (k + 1) = freeI s k ++ if s.contains (k : Int) = true then [] else [(k : Int)] := by
  unfold freeI
  rw [List.range_succ, List.filter_append, List.map_append]
  congr 1
  cases h : s.contains (k : Int) <;> simp [List.filter_cons, h, -List.contains_eq_mem]
theorem freeI_len (s : List Int) (k : Nat) : (freeI s k).length ≤ k := by
  unfold freeI
  rw [List.length_map]
  exact Nat.le_trans (List.length_filter_le _ _) (by simp)
theorem ticket_free (s : List Int) (k : Nat) : (ticketL s k).map (·.1) = freeI s k := by unfold ticketL freeI; rw [List.map_map]; rfl
def newI (s : List Int) (k : Nat) : List Int := (whichL s k).map (·.1)
theorem newI_succ (s : List Int) (k : Nat) : newI s (k + 1) = newI s k ++ if isNew s k = true then [s.getD k 0] else [] := by
  unfold newI
  rw [whichL_succ, List.map_append]
  congr 1
  split <;> rfl
theorem newI_len (s : List Int) (k : Nat) : (newI s k).length ≤ k := by unfold newI; rw [List.length_map]; exact whichL_len s k
theorem res_9 (n : Int) (A : Option Addr) (c : Nat) (s : List Int) (op : ByteArray) (x y t : Int) (w : World) (hr : Rd w A s) (hc : s.length ≤ c) (hl : s.length ≤ 1000) : ResAt 9 n A c s op x y t w (freeI s (s.length + 13)) := by
  unfold ResAt
  have b1 := al1w w (.cells #[.string op, .int .i64 x, .int .i64 y] 24 (0, 0))
  have hr1 : Rd (w.alloc (.cells #[.string op, .int .i64 x, .int .i64 y] 24 (0, 0))) A s := hr.below b1
  have B1 := Aside0.mk b1
  have hmx := hr.max
  have HR := Aside0.mk hr
  have hl13 : s.length ≤ 1000 := hl
  have hw12 : IntKind.i64.wrap ((s.length : Int) + 12) = (s.length : Int) + 12 := IntWalk.i64_in _ (by omega)
  clear hr hr1 hc hl b1
  go_enter Tryz.func13, Tryz.ntmps13
  go_wp2
  go_loopg [11, 12] (s.length + 13) (fun gg v11 v12 wr => ∃ kk : Nat, kk ≤ s.length + 13 ∧ s.length + 13 - kk ≤ gg ∧ v12 = .int .i64 kk ∧ Aside0 (Own wr w.heap.size v11 (freeI s kk)) ∧ Aside0 (Below w.heap.size w wr))
  case atStart => exact ⟨0, Nat.zero_le _, by omega, rfl, ⟨own_none _ _⟩, B1⟩
  case round =>
    clear B1
    obtain ⟨kk, hkk, hg, rfl, HO, HB⟩ := hrel
    by_cases hlt : kk < s.length + 13
    · have hle : (kk : Int) ≤ (s.length : Int) + 12 := by omega
      have HSU := Aside0.mk (freeI_succ s kk)
      have HLL := Aside0.mk (freeI_len s kk)
      obtain ⟨L, hL⟩ : ∃ L, L = freeI s kk := ⟨_, rfl⟩
      rw [← hL] at HO HSU HLL
      clear hL
      have hpl := ref_place A c s (kk : Int) wr (HR.out.below HB.out)
      obtain ⟨p, hp⟩ : ∃ p, p = placeI s (kk : Int) := ⟨_, rfl⟩
      rw [← hp] at hpl
      have HPL := Aside0.mk hpl
      clear hpl
      cases hcn : s.contains (kk : Int) with
      | true =>
        rw [hcn, if_pos rfl, List.append_nil] at HSU
        have hpn : ¬ p < 0 := by rw [hp]; have := (place_mem (List.contains_iff_mem.1 hcn)).1; omega
        clear hp hcn
        go_wp2_with (first | (go_at_call 28; refine (HPL.out).mono ?_; rintro e w4 ⟨rfl, hw⟩; rw [hw]; clear hw))
        go_roundg (s.length + 13 - (kk + 1))
        case measure => omega
        case rel => exact ⟨kk + 1, hlt, by omega, by go_num, by rw [HSU.out]; exact HO, HB⟩
      | false =>
        rw [hcn, if_neg (by decide)] at HSU
        have hpn : p < 0 := by
          rw [hp, place_neg (fun hm => by rw [List.contains_iff_mem.2 hm] at hcn; cases hcn)]; decide
        clear hp hcn
        go_wp2_with (first | (go_at_call 28; refine (HPL.out).mono ?_; rintro e w4 ⟨rfl, hw⟩; rw [hw]; clear hw) | ((with_reducible refine gate_builtin (b := .append) (xs := #[.tmp 30, .tmp 32]) rfl ?_); at_builtin; refine Kd.R_append (Kd.int .i64) (w0 := w) w.heap.size rfl (.tmp 30) (.tmp 32) 22 3 (.int .i64 0) 8 rfl Tryz.underlying22 info_int rfl (by decide) (by omega) _ L (kk : Int) [.int .i64 (kk : Int)] (fun _ => True) (fun _ => False) rfl rfl rfl (fun _ hk => hk.elim) (fun _ _ => trivial) (HO.out.R) (HB.out) (HB.out.size) (by have := HLL.out; omega) ?_; intro v3 w5 ho_ hb_ hg_ hat_; have HO3 := Aside0.mk (Own.of_R ho_); have B3 := Aside0.mk hb_; clear hb_ ho_ hg_ hat_))
        go_roundg (s.length + 13 - (kk + 1))
        case measure => omega
        case rel => exact ⟨kk + 1, hlt, by omega, by go_num, by rw [HSU.out]; exact HO3, B3⟩
    · obtain rfl : kk = s.length + 13 := by omega
      have hle : ¬ ((s.length + 13 : Nat) : Int) ≤ (s.length : Int) + 12 := by omega
      go_wp2
      go_ret
      exact ⟨_, rfl, HO.out, HB.out⟩
theorem res_get (n : Int) (A : Option Addr) (c : Nat) (s : List Int) (op : ByteArray) (x y t : Int) (w : World) (hr : Rd w A s) (hc : s.length ≤ c) (hl : s.length ≤ 1000) (q1 : (op.toList == [103, 101, 116]) = true) (h1 : 0 < s.length) : ResAt 6 n A c s op x y t w (newI s s.length) := by
  unfold ResAt
  have b1 := al1w w (.cells #[.string op, .int .i64 x, .int .i64 y] 24 (0, 0))
  have hr1 : Rd (w.alloc (.cells #[.string op, .int .i64 x, .int .i64 y] 24 (0, 0))) A s := hr.below b1
  have B1 := Aside0.mk b1
  have hmx := hr.max
  have HR := Aside0.mk hr
  have hl13 : s.length ≤ 1000 := hl
  have hl0 : (0 : Int) < (s.length : Int) := by omega
  clear hr hr1 hc hl b1
  go_enter Tryz.func13, Tryz.ntmps13
  go_wp2
  go_loopg [13, 14] s.length (fun gg v13 v14 wr => ∃ kk : Nat, kk ≤ s.length ∧ s.length - kk ≤ gg ∧ v14 = .int .i64 kk ∧ Aside0 (Own wr w.heap.size v13 (newI s kk)) ∧ Aside0 (Below w.heap.size w wr))
  case atStart => exact ⟨0, Nat.zero_le _, by omega, rfl, ⟨own_none _ _⟩, B1⟩
  case round =>
    clear B1
    obtain ⟨kk, hkk, hg, rfl, HO, HB⟩ := hrel
    by_cases hlt : kk < s.length
    · have HSU := Aside0.mk (newI_succ s kk)
      have HLL := Aside0.mk (newI_len s kk)
      have hli : (kk : Int) < (s.length : Int) := by omega
      obtain ⟨L, hL⟩ : ∃ L, L = newI s kk := ⟨_, rfl⟩
      rw [← hL] at HO HSU HLL
      clear hL
      obtain ⟨ad, rfl, c0⟩ := (HR.out.below HB.out).at kk hlt
      by_cases hk0 : kk = 0
      · subst hk0
        have hne : isNew s 0 = true := rfl
        rw [hne, if_pos rfl] at HSU
        rw [show ad.add 0 = ad from by simp [Addr.add]] at c0
        generalize s.getD 0 0 = z at *
        clear hne
        go_wp2
        refine wp_region_quiet_lit (by kernel_rfl) (by kernel_rfl) ?_
        repeat (with_reducible refine wpQuiet_step (fun K hK => ?_); go_simp; (try (rw [if_neg ?hn]; (case hn => simp [undef]))); first | (with_reducible refine hK _ ?_; clear hK K) | (apply Exists.intro; refine ⟨fun _ => ?_, hK _ ?_⟩; (fail); clear hK K))
        with_reducible refine wpQuiet_nil ?_
        intro _ hw'
        obtain ⟨nq, hw''⟩ := hw'
        subst hw''
        have HON := Aside0.mk (Own.drewN_ (n := nq) HO.out)
        have HBN := Aside0.mk (pw_below_drewN HB.out nq)
        have c0n : (wr.drewN nq).cell? ad = some (.int .i64 z) := c0
        go_wp2_with (first | ((with_reducible refine gate_builtin (b := .append) (xs := #[.tmp 67, .tmp 72]) rfl ?_); at_builtin; refine Kd.R_append (Kd.int .i64) (w0 := w) w.heap.size rfl (.tmp 67) (.tmp 72) 22 3 (.int .i64 0) 8 rfl Tryz.underlying22 info_int rfl (by decide) (by omega) _ L z [.int .i64 z] (fun _ => True) (fun _ => False) rfl rfl rfl (fun _ hk => hk.elim) (fun _ _ => trivial) (HON.out.R) (HBN.out) (HBN.out.size) (by have := HLL.out; omega) ?_; intro v3 w5 ho_ hb_ hg_ hat_; have HO3 := Aside0.mk (Own.of_R ho_); have B3 := Aside0.mk hb_; clear hb_ ho_ hg_ hat_))
        go_roundg (s.length - (0 + 1))
        case measure => omega
        case rel => exact ⟨0 + 1, hlt, by omega, by go_num, by rw [HSU.out]; exact HO3, B3⟩
      · obtain ⟨m, rfl⟩ : ∃ m, kk = m + 1 := ⟨kk - 1, by omega⟩
        obtain ⟨ad', e', c1⟩ := (HR.out.below HB.out).at m (by omega)
        injection e' with e'
        subst e'
        have hnw : isNew s (m + 1) = (s.getD m 0 != s.getD (m + 1) 0) := by unfold isNew; simp
        rw [hnw] at HSU
        generalize s.getD m 0 = z1 at *
        generalize s.getD (m + 1) 0 = z at *
        clear hnw
        generalize hkm : m + 1 = km at *
        have hmw : IntKind.i64.wrap ((km : Int) - 1) = (m : Int) := (IntWalk.i64_in _ (by omega)).trans (by omega)
        have hmi : (m : Int) < (s.length : Int) := by omega
        have hkz : ((km : Int) == 0) = false := by simp; omega
        clear hkm hk0
        by_cases hz : z = z1
        · have hq : (z != z1) = false := by simp [hz]
          have hq2 : (z1 != z) = false := by simp [hz]
          rw [hq2, if_neg (by decide), List.append_nil] at HSU
          clear hz hq2
          go_wp2
          go_quiet (fail)
          go_wp2
          go_roundg (s.length - (km + 1))
          case measure => omega
          case rel => exact ⟨km + 1, hlt, by omega, by go_num, by rw [HSU.out]; exact ⟨Own.drewN_ HO.out⟩, ⟨pw_below_drewN HB.out nq⟩⟩
        · have hq : (z != z1) = true := by simp [hz]
          have hq2 : (z1 != z) = true := by simp; exact fun e => hz e.symm
          rw [hq2, if_pos rfl] at HSU
          clear hz hq2
          go_wp2
          go_quiet (fail)
          have HON := Aside0.mk (Own.drewN_ (n := nq) HO.out)
          have HBN := Aside0.mk (pw_below_drewN HB.out nq)
          have c0n : (wr.drewN nq).cell? (ad.add km) = some (.int .i64 z) := c0
          go_wp2_with (first | ((with_reducible refine gate_builtin (b := .append) (xs := #[.tmp 67, .tmp 72]) rfl ?_); at_builtin; refine Kd.R_append (Kd.int .i64) (w0 := w) w.heap.size rfl (.tmp 67) (.tmp 72) 22 3 (.int .i64 0) 8 rfl Tryz.underlying22 info_int rfl (by decide) (by omega) _ L z [.int .i64 z] (fun _ => True) (fun _ => False) rfl rfl rfl (fun _ hk => hk.elim) (fun _ _ => trivial) (HON.out.R) (HBN.out) (HBN.out.size) (by have := HLL.out; omega) ?_; intro v3 w5 ho_ hb_ hg_ hat_; have HO3 := Aside0.mk (Own.of_R ho_); have B3 := Aside0.mk hb_; clear hb_ ho_ hg_ hat_))
          go_roundg (s.length - (km + 1))
          case measure => omega
          case rel => exact ⟨km + 1, hlt, by omega, by go_num, by rw [HSU.out]; exact HO3, B3⟩
    · obtain rfl : kk = s.length := by omega
      go_wp2
      go_ret
      exact ⟨_, rfl, HO.out, HB.out⟩
theorem res_one (r : Int) (n : Int) (A : Option Addr) (c : Nat) (s : List Int) (op : ByteArray) (x y t : Int) (w : World) (hr : Rd w A s) (hc : s.length ≤ c) (hl : s.length ≤ 1000) {res : Int} {l : List Int} (H : ∀ W, Rd W A s → OneAt r n A c s op x y t W res l) (h9 : (r == 9) = false) (h6 : (r == 6) = false) : ResAt r n A c s op x y t w [res] := by
  unfold ResAt
  have b1 := al1w w (.cells #[.string op, .int .i64 x, .int .i64 y] 24 (0, 0))
  have hr1 : Rd (w.alloc (.cells #[.string op, .int .i64 x, .int .i64 y] 24 (0, 0))) A s := hr.below b1
  have B1 := Aside0.mk b1
  have hmx := hr.max
  have HN := Aside0.mk (H _ hr1)
  unfold OneAt at HN
  clear H hr hr1 hc hl b1
  go_enter Tryz.func13, Tryz.ntmps13
  go_wp2_with (first | (go_at_call 29; refine (HN.out).mono ?_; rintro e w2 ⟨v2, rfl, ho, hb⟩; have B2 := Aside0.mk (btrans B1.out hb); clear ho hb) | ((with_reducible refine gate_dst (N := 85) rfl ?_); refine Kd.R_lit (Kd.int .i64) _ 3 ?hg (N := 85) ?hd (xs := ([res] : List Int)) (inner := [.int .i64 (res)]) (ok := fun _ => True) (okp := fun _ => True) ?hr ?hp (fun _ hk => hk) trivial (Below.refl _ _) (Nat.le_refl _) (by simp) ?_; (case hd => rfl); (case hg => rfl); (case hr => first | (go_simp; done) | (go_simp; rfl)); (case hp => exact (Reps.one (show Kd.M (Kd.int .i64) _ _ _ (res) [.int .i64 (res)] from rfl) (Reps.none _ _))); intro vl wl ho_ hb_ hg_ hnew_; clear hg_ hnew_; have HO3 := Aside0.mk (Own.lower (Own.of_R ho_) B2.out.size); have B3 := Aside0.mk (B2.out.trans (hb_.mono B2.out.size)); clear hb_ ho_))
  go_ret
  exact ⟨_, rfl, HO3.out, B3.out⟩
theorem res_one6a (r : Int) (n : Int) (A : Option Addr) (c : Nat) (s : List Int) (op : ByteArray) (x y t : Int) (w : World) (hr : Rd w A s) (hc : s.length ≤ c) (hl : s.length ≤ 1000) {res : Int} {l : List Int} (H : ∀ W, Rd W A s → OneAt r n A c s op x y t W res l) (hr6 : r = 6) (q1 : (op.toList == [103, 101, 116]) = false) : ResAt r n A c s op x y t w [res] := by
  unfold ResAt
  have b1 := al1w w (.cells #[.string op, .int .i64 x, .int .i64 y] 24 (0, 0))
  have hr1 : Rd (w.alloc (.cells #[.string op, .int .i64 x, .int .i64 y] 24 (0, 0))) A s := hr.below b1
  have B1 := Aside0.mk b1
  have hmx := hr.max
  have HN := Aside0.mk (H _ hr1)
  unfold OneAt at HN
  subst hr6
  clear H hr hr1 hc hl b1
  go_enter Tryz.func13, Tryz.ntmps13
  go_wp2_with (first | (go_at_call 29; refine (HN.out).mono ?_; rintro e w2 ⟨v2, rfl, ho, hb⟩; have B2 := Aside0.mk (btrans B1.out hb); clear ho hb) | ((with_reducible refine gate_dst (N := 85) rfl ?_); refine Kd.R_lit (Kd.int .i64) _ 3 ?hg (N := 85) ?hd (xs := ([res] : List Int)) (inner := [.int .i64 (res)]) (ok := fun _ => True) (okp := fun _ => True) ?hr ?hp (fun _ hk => hk) trivial (Below.refl _ _) (Nat.le_refl _) (by simp) ?_; (case hd => rfl); (case hg => rfl); (case hr => first | (go_simp; done) | (go_simp; rfl)); (case hp => exact (Reps.one (show Kd.M (Kd.int .i64) _ _ _ (res) [.int .i64 (res)] from rfl) (Reps.none _ _))); intro vl wl ho_ hb_ hg_ hnew_; clear hg_ hnew_; have HO3 := Aside0.mk (Own.lower (Own.of_R ho_) B2.out.size); have B3 := Aside0.mk (B2.out.trans (hb_.mono B2.out.size)); clear hb_ ho_))
  go_ret
  exact ⟨_, rfl, HO3.out, B3.out⟩
theorem res_one6b (r : Int) (n : Int) (A : Option Addr) (c : Nat) (s : List Int) (op : ByteArray) (x y t : Int) (w : World) (hr : Rd w A s) (hc : s.length ≤ c) (hl : s.length ≤ 1000) {res : Int} {l : List Int} (H : ∀ W, Rd W A s → OneAt r n A c s op x y t W res l) (hr6 : r = 6) (q1 : (op.toList == [103, 101, 116]) = true) (hz : s = []) : ResAt r n A c s op x y t w [res] := by
  unfold ResAt
  have b1 := al1w w (.cells #[.string op, .int .i64 x, .int .i64 y] 24 (0, 0))
  have hr1 : Rd (w.alloc (.cells #[.string op, .int .i64 x, .int .i64 y] 24 (0, 0))) A s := hr.below b1
  have B1 := Aside0.mk b1
  have hmx := hr.max
  have HN := Aside0.mk (H _ hr1)
  unfold OneAt at HN
  subst hr6
  have h0 : (([] : List Int).length : Int) = 0 := rfl
  subst hz
  clear H hr hr1 hc hl b1
  go_enter Tryz.func13, Tryz.ntmps13
  go_wp2_with (first | (go_at_call 29; refine (HN.out).mono ?_; rintro e w2 ⟨v2, rfl, ho, hb⟩; have B2 := Aside0.mk (btrans B1.out hb); clear ho hb) | ((with_reducible refine gate_dst (N := 85) rfl ?_); refine Kd.R_lit (Kd.int .i64) _ 3 ?hg (N := 85) ?hd (xs := ([res] : List Int)) (inner := [.int .i64 (res)]) (ok := fun _ => True) (okp := fun _ => True) ?hr ?hp (fun _ hk => hk) trivial (Below.refl _ _) (Nat.le_refl _) (by simp) ?_; (case hd => rfl); (case hg => rfl); (case hr => first | (go_simp; done) | (go_simp; rfl)); (case hp => exact (Reps.one (show Kd.M (Kd.int .i64) _ _ _ (res) [.int .i64 (res)] from rfl) (Reps.none _ _))); intro vl wl ho_ hb_ hg_ hnew_; clear hg_ hnew_; have HO3 := Aside0.mk (Own.lower (Own.of_R ho_) B2.out.size); have B3 := Aside0.mk (B2.out.trans (hb_.mono B2.out.size)); clear hb_ ho_))
  go_ret
  exact ⟨_, rfl, HO3.out, B3.out⟩
theorem nxt_no (r : Int) (n : Int) (A : Option Addr) (c : Nat) (s : List Int) (op : ByteArray) (x y t : Int) (w : World) (hr : Rd w A s) (hc : s.length ≤ c) (hl : s.length ≤ 1000) (res : Int) {L : List Int} (HS : ∀ W, Rd W A s → ResAt r n A c s op x y t W L) (hm : res ∉ L) : NextAt r n A c s op x y t res w [] false := by
  unfold NextAt
  have b1 := al1w w (.cells #[.string op, .int .i64 x, .int .i64 y] 24 (0, 0))
  have hr1 : Rd (w.alloc (.cells #[.string op, .int .i64 x, .int .i64 y] 24 (0, 0))) A s := hr.below b1
  have B1 := Aside0.mk b1
  have hmx := hr.max
  have n1 := heap_alloc_new w (.cells #[.string op, .int .i64 x, .int .i64 y] 24 (0, 0))
  have N1 := Aside0.mk n1
  have HRS := Aside0.mk (HS _ hr1)
  unfold ResAt at HRS
  have HR1 := Aside0.mk hr1
  have hp0 := place_neg hm
  clear hm
  clear HS hr hr1 hc hl b1 n1
  go_enter Tryz.func14, Tryz.ntmps14
  have tok1 : True := trivial
  go_wp2_with (first | (go_at_call 13; refine (HRS.out).mono ?_; rintro e w2 ⟨v2, rfl, ho, hb⟩; obtain ⟨A2, c2, rfl⟩ := ho.slice; have HPL := Aside0.mk (ref_place A2 c2 L res w2 ho.rd); have B2 := Aside0.mk (btrans B1.out hb); have HRR := Aside0.mk (HR1.out.below hb); have n2 := (hb.block _ (blk_lt N1.out)).trans N1.out; have k1 := Go.Lib.cell_of_heap n2 0; have k2 := Go.Lib.cell_of_heap n2 1; have k3 := Go.Lib.cell_of_heap n2 2; simp only [List.getElem?_toArray, List.getElem?_cons_succ, List.getElem?_cons_zero] at k1 k2 k3; clear n2 ho hb) | (go_at_call 28; have _t := tok1; refine (HPL.out).mono ?_; rintro e w4 ⟨rfl, hw⟩; rw [hw]; clear hw tok1 _t; rw [hp0]))
  go_ret2
  exact ⟨_, rfl, own_none _ _, B2.out⟩
theorem nxt_9 (n : Int) (A : Option Addr) (c : Nat) (s : List Int) (op : ByteArray) (x y t : Int) (w : World) (hr : Rd w A s) (hc : s.length ≤ c) (hl : s.length ≤ 1000) (res : Int) {L : List Int} (HS : ∀ W, Rd W A s → ResAt 9 n A c s op x y t W L) (hm : res ∈ L) (hs : s.Pairwise (· ≤ ·)) : NextAt 9 n A c s op x y t res w (insL s res) true := by
  unfold NextAt
  have b1 := al1w w (.cells #[.string op, .int .i64 x, .int .i64 y] 24 (0, 0))
  have hr1 : Rd (w.alloc (.cells #[.string op, .int .i64 x, .int .i64 y] 24 (0, 0))) A s := hr.below b1
  have B1 := Aside0.mk b1
  have hmx := hr.max
  have n1 := heap_alloc_new w (.cells #[.string op, .int .i64 x, .int .i64 y] 24 (0, 0))
  have N1 := Aside0.mk n1
  have HRS := Aside0.mk (HS _ hr1)
  unfold ResAt at HRS
  have HR1 := Aside0.mk hr1
  have hp0 : ¬ placeI L res < 0 := by have := (place_mem hm).1; omega
  clear hm
  have HST := Aside0.mk (fun W (h : Rd W A s) => ref_sorted A c s res W h hc (by omega))
  have HIN := Aside0.mk (fun k (h : cntLe s res k) => cnt_ins hs h)
  clear HS hr hr1 hc hl b1 n1
  go_enter Tryz.func14, Tryz.ntmps14
  have tok1 : True := trivial
  go_wp2_with (first | (go_at_call 13; refine (HRS.out).mono ?_; rintro e w2 ⟨v2, rfl, ho, hb⟩; obtain ⟨A2, c2, rfl⟩ := ho.slice; have HPL := Aside0.mk (ref_place A2 c2 L res w2 ho.rd); have B2 := Aside0.mk (btrans B1.out hb); have HRR := Aside0.mk (HR1.out.below hb); have n2 := (hb.block _ (blk_lt N1.out)).trans N1.out; have k1 := Go.Lib.cell_of_heap n2 0; have k2 := Go.Lib.cell_of_heap n2 1; have k3 := Go.Lib.cell_of_heap n2 2; simp only [List.getElem?_toArray, List.getElem?_cons_succ, List.getElem?_cons_zero] at k1 k2 k3; clear n2 ho hb) | (go_at_call 28; have _t := tok1; refine (HPL.out).mono ?_; rintro e w4 ⟨rfl, hw⟩; rw [hw]; clear hw tok1 _t; generalize placeI L res = p at *) | (go_at_call 30; refine (HST.out _ HRR.out).mono ?_; rintro e w5 ⟨v5, k, rfl, hk, ho, hb⟩; rw [HIN.out k hk] at ho; have HO := Aside0.mk (ho.lower B2.out.size); have B3 := Aside0.mk (btrans B2.out hb); clear ho hb hk))
  go_ret2
  exact ⟨_, rfl, HO.out, B3.out⟩
theorem nxt_get (n : Int) (A : Option Addr) (c : Nat) (s : List Int) (op : ByteArray) (x y t : Int) (w : World) (hr : Rd w A s) (hc : s.length ≤ c) (hl : s.length ≤ 1000) (res : Int) {L : List Int} (HS : ∀ W, Rd W A s → ResAt 6 n A c s op x y t W L) (hm : res ∈ L) (hms : res ∈ s) (q1 : (op.toList == [103, 101, 116]) = true) : NextAt 6 n A c s op x y t res w (s.eraseIdx (placeI s res).toNat) true := by
  unfold NextAt
  have b1 := al1w w (.cells #[.string op, .int .i64 x, .int .i64 y] 24 (0, 0))
  have hr1 : Rd (w.alloc (.cells #[.string op, .int .i64 x, .int .i64 y] 24 (0, 0))) A s := hr.below b1
  have B1 := Aside0.mk b1
  have hmx := hr.max
  have n1 := heap_alloc_new w (.cells #[.string op, .int .i64 x, .int .i64 y] 24 (0, 0))
  have N1 := Aside0.mk n1
  have HRS := Aside0.mk (HS _ hr1)
  unfold ResAt at HRS
  have HR1 := Aside0.mk hr1
  have hp0 : ¬ placeI L res < 0 := by have := (place_mem hm).1; omega
  clear hm
  have hl0 : (0 : Int) < (s.length : Int) := by have := List.length_pos_of_mem hms; omega
  obtain ⟨ps, hps⟩ : ∃ p, p = placeI s res := ⟨_, rfl⟩
  have HPS := Aside0.mk (fun W (h : Rd W A s) => ref_place A c s res W h)
  have HWO := Aside0.mk (fun W (h : Rd W A s) => ref_without A c s ps W h hc (by omega) (by rw [hps]; exact (place_mem hms).1) (by rw [hps]; exact (place_mem hms).2.1))
  rw [← hps] at HPS ⊢
  clear hps hms
  clear HS hr hr1 hc hl b1 n1
  go_enter Tryz.func14, Tryz.ntmps14
  have tok1 : True := trivial
  go_wp2_with (first | (go_at_call 13; refine (HRS.out).mono ?_; rintro e w2 ⟨v2, rfl, ho, hb⟩; obtain ⟨A2, c2, rfl⟩ := ho.slice; have HPL := Aside0.mk (ref_place A2 c2 L res w2 ho.rd); have B2 := Aside0.mk (btrans B1.out hb); have HRR := Aside0.mk (HR1.out.below hb); have n2 := (hb.block _ (blk_lt N1.out)).trans N1.out; have k1 := Go.Lib.cell_of_heap n2 0; have k2 := Go.Lib.cell_of_heap n2 1; have k3 := Go.Lib.cell_of_heap n2 2; simp only [List.getElem?_toArray, List.getElem?_cons_succ, List.getElem?_cons_zero] at k1 k2 k3; clear n2 ho hb) | (go_at_call 28; have _t := tok1; refine (HPL.out).mono ?_; rintro e w4 ⟨rfl, hw⟩; rw [hw]; clear hw tok1 _t; generalize placeI L res = p at *) | (go_at_call 28; refine (HPS.out _ HRR.out).mono ?_; rintro e w6 ⟨rfl, hw⟩; rw [hw]; clear hw) | (go_at_call 31; refine (HWO.out _ HRR.out).mono ?_; rintro e w5 ⟨v5, rfl, ho, hb⟩; have HO := Aside0.mk (ho.lower B2.out.size); have B3 := Aside0.mk (btrans B2.out hb); clear ho hb))
  go_ret2
  exact ⟨_, rfl, HO.out, B3.out⟩
theorem nxt_one (r : Int) (n : Int) (A : Option Addr) (c : Nat) (s : List Int) (op : ByteArray) (x y t : Int) (w : World) (hr : Rd w A s) (hc : s.length ≤ c) (hl : s.length ≤ 1000) (res : Int) {L : List Int} (HS : ∀ W, Rd W A s → ResAt r n A c s op x y t W L) {o : Int} {l : List Int} (H : ∀ W, Rd W A s → OneAt r n A c s op x y t W o l) (hm : res ∈ L) (h9 : (r == 9) = false) (h6 : (r == 6) = false) : NextAt r n A c s op x y t res w l true := by
  unfold NextAt
  have b1 := al1w w (.cells #[.string op, .int .i64 x, .int .i64 y] 24 (0, 0))
  have hr1 : Rd (w.alloc (.cells #[.string op, .int .i64 x, .int .i64 y] 24 (0, 0))) A s := hr.below b1
  have B1 := Aside0.mk b1
  have hmx := hr.max
  have n1 := heap_alloc_new w (.cells #[.string op, .int .i64 x, .int .i64 y] 24 (0, 0))
  have N1 := Aside0.mk n1
  have HRS := Aside0.mk (HS _ hr1)
  unfold ResAt at HRS
  have HR1 := Aside0.mk hr1
  have hp0 : ¬ placeI L res < 0 := by have := (place_mem hm).1; omega
  clear hm
  have HN := Aside0.mk H
  unfold OneAt at HN
  clear H
  clear HS hr hr1 hc hl b1 n1
  go_enter Tryz.func14, Tryz.ntmps14
  have tok1 : True := trivial
  go_wp2_with (first | (go_at_call 13; refine (HRS.out).mono ?_; rintro e w2 ⟨v2, rfl, ho, hb⟩; obtain ⟨A2, c2, rfl⟩ := ho.slice; have HPL := Aside0.mk (ref_place A2 c2 L res w2 ho.rd); have B2 := Aside0.mk (btrans B1.out hb); have HRR := Aside0.mk (HR1.out.below hb); have n2 := (hb.block _ (blk_lt N1.out)).trans N1.out; have k1 := Go.Lib.cell_of_heap n2 0; have k2 := Go.Lib.cell_of_heap n2 1; have k3 := Go.Lib.cell_of_heap n2 2; simp only [List.getElem?_toArray, List.getElem?_cons_succ, List.getElem?_cons_zero] at k1 k2 k3; clear n2 ho hb) | (go_at_call 28; have _t := tok1; refine (HPL.out).mono ?_; rintro e w4 ⟨rfl, hw⟩; rw [hw]; clear hw tok1 _t; generalize placeI L res = p at *) | (go_at_call 29; refine (HN.out _ HRR.out).mono ?_; rintro e w5 ⟨v5, rfl, ho, hb⟩; have HO := Aside0.mk (ho.lower B2.out.size); have B3 := Aside0.mk (btrans B2.out hb); clear ho hb))
  go_ret2
  exact ⟨_, rfl, HO.out, B3.out⟩
theorem nxt_one6a (r : Int) (n : Int) (A : Option Addr) (c : Nat) (s : List Int) (op : ByteArray) (x y t : Int) (w : World) (hr : Rd w A s) (hc : s.length ≤ c) (hl : s.length ≤ 1000) (res : Int) {L : List Int} (HS : ∀ W, Rd W A s → ResAt r n A c s op x y t W L) {o : Int} {l : List Int} (H : ∀ W, Rd W A s → OneAt r n A c s op x y t W o l) (hm : res ∈ L) (hr6 : r = 6) (q1 : (op.toList == [103, 101, 116]) = false) : NextAt r n A c s op x y t res w l true := by
  unfold NextAt
  have b1 := al1w w (.cells #[.string op, .int .i64 x, .int .i64 y] 24 (0, 0))
  have hr1 : Rd (w.alloc (.cells #[.string op, .int .i64 x, .int .i64 y] 24 (0, 0))) A s := hr.below b1
  have B1 := Aside0.mk b1
  have hmx := hr.max
  have n1 := heap_alloc_new w (.cells #[.string op, .int .i64 x, .int .i64 y] 24 (0, 0))
  have N1 := Aside0.mk n1
  have HRS := Aside0.mk (HS _ hr1)
  unfold ResAt at HRS
  have HR1 := Aside0.mk hr1
  have hp0 : ¬ placeI L res < 0 := by have := (place_mem hm).1; omega
  clear hm
  have HN := Aside0.mk H
  unfold OneAt at HN
  clear H
  subst hr6
  clear HS hr hr1 hc hl b1 n1
  go_enter Tryz.func14, Tryz.ntmps14
  have tok1 : True := trivial
  go_wp2_with (first | (go_at_call 13; refine (HRS.out).mono ?_; rintro e w2 ⟨v2, rfl, ho, hb⟩; obtain ⟨A2, c2, rfl⟩ := ho.slice; have HPL := Aside0.mk (ref_place A2 c2 L res w2 ho.rd); have B2 := Aside0.mk (btrans B1.out hb); have HRR := Aside0.mk (HR1.out.below hb); have n2 := (hb.block _ (blk_lt N1.out)).trans N1.out; have k1 := Go.Lib.cell_of_heap n2 0; have k2 := Go.Lib.cell_of_heap n2 1; have k3 := Go.Lib.cell_of_heap n2 2; simp only [List.getElem?_toArray, List.getElem?_cons_succ, List.getElem?_cons_zero] at k1 k2 k3; clear n2 ho hb) | (go_at_call 28; have _t := tok1; refine (HPL.out).mono ?_; rintro e w4 ⟨rfl, hw⟩; rw [hw]; clear hw tok1 _t; generalize placeI L res = p at *) | (go_at_call 29; refine (HN.out _ HRR.out).mono ?_; rintro e w5 ⟨v5, rfl, ho, hb⟩; have HO := Aside0.mk (ho.lower B2.out.size); have B3 := Aside0.mk (btrans B2.out hb); clear ho hb))
  go_ret2
  exact ⟨_, rfl, HO.out, B3.out⟩
theorem nxt_one6b (r : Int) (n : Int) (A : Option Addr) (c : Nat) (s : List Int) (op : ByteArray) (x y t : Int) (w : World) (hr : Rd w A s) (hc : s.length ≤ c) (hl : s.length ≤ 1000) (res : Int) {L : List Int} (HS : ∀ W, Rd W A s → ResAt r n A c s op x y t W L) {o : Int} {l : List Int} (H : ∀ W, Rd W A s → OneAt r n A c s op x y t W o l) (hm : res ∈ L) (hr6 : r = 6) (q1 : (op.toList == [103, 101, 116]) = true) (hz : s = []) : NextAt r n A c s op x y t res w l true := by
  unfold NextAt
  have b1 := al1w w (.cells #[.string op, .int .i64 x, .int .i64 y] 24 (0, 0))
  have hr1 : Rd (w.alloc (.cells #[.string op, .int .i64 x, .int .i64 y] 24 (0, 0))) A s := hr.below b1
  have B1 := Aside0.mk b1
  have hmx := hr.max
  have n1 := heap_alloc_new w (.cells #[.string op, .int .i64 x, .int .i64 y] 24 (0, 0))
  have N1 := Aside0.mk n1
  have HRS := Aside0.mk (HS _ hr1)
  unfold ResAt at HRS
  have HR1 := Aside0.mk hr1
  have hp0 : ¬ placeI L res < 0 := by have := (place_mem hm).1; omega
  clear hm
  have HN := Aside0.mk H
  unfold OneAt at HN
  clear H
  subst hr6
  have h0 : (([] : List Int).length : Int) = 0 := rfl
  subst hz
  clear HS hr hr1 hc hl b1 n1
  go_enter Tryz.func14, Tryz.ntmps14
  have tok1 : True := trivial
  go_wp2_with (first | (go_at_call 13; refine (HRS.out).mono ?_; rintro e w2 ⟨v2, rfl, ho, hb⟩; obtain ⟨A2, c2, rfl⟩ := ho.slice; have HPL := Aside0.mk (ref_place A2 c2 L res w2 ho.rd); have B2 := Aside0.mk (btrans B1.out hb); have HRR := Aside0.mk (HR1.out.below hb); have n2 := (hb.block _ (blk_lt N1.out)).trans N1.out; have k1 := Go.Lib.cell_of_heap n2 0; have k2 := Go.Lib.cell_of_heap n2 1; have k3 := Go.Lib.cell_of_heap n2 2; simp only [List.getElem?_toArray, List.getElem?_cons_succ, List.getElem?_cons_zero] at k1 k2 k3; clear n2 ho hb) | (go_at_call 28; have _t := tok1; refine (HPL.out).mono ?_; rintro e w4 ⟨rfl, hw⟩; rw [hw]; clear hw tok1 _t; generalize placeI L res = p at *) | (go_at_call 29; refine (HN.out _ HRR.out).mono ?_; rintro e w5 ⟨v5, rfl, ho, hb⟩; have HO := Aside0.mk (ho.lower B2.out.size); have B3 := Aside0.mk (btrans B2.out hb); clear ho hb))
  go_ret2
  exact ⟨_, rfl, HO.out, B3.out⟩
end Go.Proofs.YtiialjmpfeopjaaGreat.Sp
