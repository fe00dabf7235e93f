/- The walk of EpochTwo: plain lemmas; no condition. -/
import Derived.Test.YtcfodmnpmjkpbaaG1
import Derived.Deep.QuietTactic
import Derived.BigQuiet
namespace Go.Proofs.Ytcfodmnpmjkpbaa.Ep
open Go.RowKit Go.Proofs.YtcfodmnpmjkpbaaW.PrintWords Go.Proofs.YtcfodmnpmjkpbaaW.PrintLast Go.Proofs.YtcfodmnpmjkpbaaW.PrintMore
set_option linter.unusedVariables false
set_option linter.unusedSimpArgs false
set_option maxHeartbeats 8000000
set_option maxRecDepth 100000
theorem made_nil (t : Int) (w : World) : Calls Try.prog 22 #[.int .i64 t, .slice none 0 0] w fun e w' =>
    ∃ (n g : Nat) (tv wv : Value) (cur : Array Value), 1 ≤ n ∧ n ≤ 4 ∧ e = .returned (.tuple #[.pointer (some ⟨g, 0, none⟩), .agg cur, .int .i64 n]) ∧ Man w.heap.size w' g tv wv (newM n) ∧ cur.size = 30 ∧ cur.all (·.oneCell') = true ∧ Below w.heap.size w w' := by
  refine (made_calls t none 0 [] w (fun j hj => absurd hj (Nat.not_lt_zero _))).mono ?_
  rintro e w' ⟨n, g, tv, wv, iv, cur, hn1, hn4, rfl, hm, hrb, ho, hb⟩
  obtain ⟨A5, c5, hiv⟩ := own_form ho
  exact ⟨n, g, tv, wv, cur, hn1, hn4, rfl, hm, hrb.size, hrb.one (by rw [hiv]; rfl), hb⟩
theorem new_empty (n : Nat) : Empty (newM n) := fun x hx => (List.mem_replicate.1 hx).2
/-- The states of EpochTwo. -/
def two1 (n : Nat) (x : Int) : EM := ⟨1, List.replicate n (-1), [(x, 0)]⟩
def two2 (n : Nat) (y : Int) : EM := ⟨2, List.replicate n (-1), [(y, 1)]⟩
def two3 (n : Nat) (z : Int) : EM := ⟨3, List.replicate n (-1), [(z, 2)]⟩
theorem two_step {m : EM} {t a : Int} (hb : bad m t = false) (ha : 0 < a) (hc : (addrs m).contains a = false) (he : Empty m) : retireD m t a = (raised (lined m a), raisedBack (lined m a), 0) := by
  unfold retireD
  have h1 : (bad m t || decide (a < 1)) = false := by rw [hb, Bool.false_or]; exact decide_eq_false (by omega)
  rw [h1, if_neg (by decide), hc, if_neg (by decide)]
  have := empty_tried (m := lined m a) he
  rw [this.1, this.2.1]
theorem two_bad (n t : Nat) (m : EM) (hm : m.th = List.replicate n (-1)) (ht : t < n) : bad m (t : Int) = false := not_bad (by rw [hm]; simpa using ht)
theorem two_empty (n : Nat) (m : EM) (hm : m.th = List.replicate n (-1)) : Empty m := fun x hx => by rw [hm] at hx; exact (List.mem_replicate.1 hx).2
theorem two_1 (n t : Nat) (x : Int) (ht : t < n) (hx : 0 < x) : retireD (newM n) t x = (two1 n x, [], 0) := by
  rw [two_step (two_bad n t _ rfl ht) hx (by simp [addrs, newM]) (new_empty n)]
  simp [raised, raisedBack, lined, newM, goes, two1]
theorem two_2 (n t : Nat) (x y : Int) (ht : t < n) (hx : 0 < y) (hxy : x ≠ y) : retireD (two1 n x) t y = (two2 n y, [x], 0) := by
  rw [two_step (two_bad n t _ rfl ht) hx (by simp [addrs, two1]; omega) (two_empty n _ rfl)]
  simp [raised, raisedBack, lined, two1, goes, two2]
theorem two_3 (n t : Nat) (y z : Int) (ht : t < n) (hx : 0 < z) (hxy : y ≠ z) : retireD (two2 n y) t z = (two3 n z, [y], 0) := by
  rw [two_step (two_bad n t _ rfl ht) hx (by simp [addrs, two2]; omega) (two_empty n _ rfl)]
  simp [raised, raisedBack, lined, two2, goes, two3]
theorem mod_at (a : Int) (n : Nat) (h1 : 1 ≤ n) (h4 : n ≤ 4) : ∃ k : Nat, k < n ∧ wrap64 ((IntKind.u64.wrap a).tmod (n : Int)) = (k : Int) := by
  have h0 : 0 ≤ IntKind.u64.wrap a ∧ IntKind.u64.wrap a < 18446744073709551616 := by rw [IntKind.wrap_u64]; omega
  obtain ⟨g0, g1⟩ := h0
  generalize IntKind.u64.wrap a = u at *
  rw [Int.tmod_eq_emod_of_nonneg g0]
  obtain rfl | rfl | rfl | rfl : n = 1 ∨ n = 2 ∨ n = 3 ∨ n = 4 := by omega
  · exact ⟨(u % 1).toNat, by omega, by unfold wrap64; omega⟩
  · exact ⟨(u % 2).toNat, by omega, by unfold wrap64; omega⟩
  · exact ⟨(u % 3).toNat, by omega, by unfold wrap64; omega⟩
  · exact ⟨(u % 4).toNat, by omega, by unfold wrap64; omega⟩
theorem reads_lit {w : World} {x : Int} : ReadsI (w.alloc (.cells #[.int .i64 x] 3 (0, 0))) (some ⟨w.heap.size, 0, none⟩) [x] := by
  intro j hj
  have : j = 0 := by simpa using hj
  subst this
  refine ⟨_, rfl, ?_⟩
  rw [add_plain, Go.Lib.cell_of_heap (heap_alloc_new w _)]
  rfl
theorem same_lit (W : World) (A : Option Addr) (c : Nat) (x : Int) (hr : ReadsI W A [x]) :
    Calls Try.prog 18 #[.slice A 1 c, .slice (some ⟨W.heap.size, 0, none⟩) 1 1] (W.alloc (.cells #[.int .i64 x] 3 (0, 0))) fun e w' => e = .returned (.bool true) ∧ Below W.heap.size W w' := by
  have hb := (Below.refl W.heap.size W).alloc (Nat.le_refl _) (.cells #[.int .i64 x] 3 (0, 0))
  have hr2 : ReadsI (W.alloc (.cells #[.int .i64 x] 3 (0, 0))) A [x] := fun j hj => by
    obtain ⟨ad, e, hc⟩ := hr j hj
    exact ⟨ad, e, (hb.cell (World.block_lt_of_cell? W _ hc)).trans hc⟩
  refine (same_calls A (some ⟨W.heap.size, 0, none⟩) c 1 [x] [x] _ hr2 reads_lit (by simp)).mono ?_
  rw [decide_eq_true (rfl : [x] = [x])]
  rintro e w' ⟨rfl, q, rfl⟩
  exact ⟨rfl, pw_below_drewN hb q⟩
theorem two_row (t a b c : Int) (w : World) (_ : (Lit.int .i64 t).wf = true) (_ : (Lit.int .i64 a).wf = true) (_ : (Lit.int .i64 b).wf = true) (_ : (Lit.int .i64 c).wf = true) :
    Calls Try.prog 9 #[.agg #[.int .i64 t, .int .i64 a, .int .i64 b, .int .i64 c]] w fun e w' => e = .returned (.bool true) ∧ Below w.heap.size w w' := by
  obtain ⟨qa, hqa, anda⟩ := i64_and1023 a
  obtain ⟨qb, hqb, andb⟩ := i64_and1023 b
  obtain ⟨qc, hqc, andc⟩ := i64_and1023 c
  have wa : IntKind.i64.wrap (1 + (qa : Int)) = 1 + (qa : Int) := by rw [IntKind.wrap_i64]; omega
  have wb : IntKind.i64.wrap (1025 + (qb : Int)) = 1025 + (qb : Int) := by rw [IntKind.wrap_i64]; omega
  have wc : IntKind.i64.wrap (2049 + (qc : Int)) = 2049 + (qc : Int) := by rw [IntKind.wrap_i64]; omega
  have hb0 := (Below.refl w.heap.size w).alloc (Nat.le_refl _) (.cells #[.int .i64 t, .int .i64 a, .int .i64 b, .int .i64 c] 65 (0, 0))
  have HB0 := Aside0.mk hb0
  clear hb0
  go_enter Try.func9, Try.ntmps9
  go_wp2
  go_quiet (fail)
  go_wp2_with (first
    | (go_at_call 12; refine (awake_calls _).mono ?_; rintro e w1 ⟨rfl, hb⟩; have B1 := Aside0.mk (btrans HB0.out (btrans (pw_below_drewN (Below.refl _ _) _) hb)); clear hb)
    | (go_at_call 22; refine (made_nil t w1).mono ?_; rintro e w2 ⟨n, g, tv, wv, cur, hn1, hn4, rfl, hm, hcs, hone, hb⟩; have M2 := Aside0.mk hm; have HCS := Aside0.mk hcs; have B2 := Aside0.mk (btrans B1.out hb); have hone := Aside0.mk hone; clear hm hcs hb)
    | ((with_reducible refine gate_ (.alloc 38) rfl ?_); refine wpList_alloc38 rfl rfl ?_; intro W3 hz hb hs; have HZ := Aside0.mk hz; have M3 := Aside0.mk (M2.out.grow hb); have B3 := Aside0.mk (btrans B2.out hb); have hsz2 := B2.out.size; clear hz hb hs)
    | ((with_reducible refine gate_ (.store 38 (.tmp 8) (.tmp 33)) rfl ?_); refine wpList_store_whole rfl 38 (.tmp 8) (.tmp 33) rfl w2.heap.size cur zero30 38 rfl rfl HZ.out HCS.out.symm (by rw [info38, HCS.out]) hone.out ?_; intro W4 h3 far e1 e2 e3 e4; have M4 := Aside0.mk (man_keep M3.out (w' := W4) (fun k hk => far k (by have := (M2.out.foot_lt k hk).2; omega))); have B4 := Aside0.mk (below_store B3.out hsz2 far e1 e2 e3 e4); clear h3 far e1 e2 e3 e4 M3 B3 HZ M2 hone HCS))
  obtain ⟨ka, hka, eka⟩ := mod_at a n hn1 hn4
  obtain ⟨kb, hkb, ekb⟩ := mod_at b n hn1 hn4
  obtain ⟨kc, hkc, ekc⟩ := mod_at c n hn1 hn4
  have hr1 : retireD (newM n) (wrap64 ((IntKind.u64.wrap a).tmod (n : Int))) (1 + (qa : Int)) = (two1 n (1 + (qa : Int)), [], 0) := by rw [eka]; exact two_1 n ka _ hka (by omega)
  have hr2 : retireD (two1 n (1 + (qa : Int))) (wrap64 ((IntKind.u64.wrap b).tmod (n : Int))) (1025 + (qb : Int)) = (two2 n (1025 + (qb : Int)), [1 + (qa : Int)], 0) := by rw [ekb]; exact two_2 n kb _ _ hkb (by omega) (by omega)
  have hr3 : retireD (two2 n (1025 + (qb : Int))) (wrap64 ((IntKind.u64.wrap c).tmod (n : Int))) (2049 + (qc : Int)) = (two3 n (2049 + (qc : Int)), [1025 + (qb : Int)], 0) := by rw [ekc]; exact two_3 n kc _ _ hkc (by omega) (by omega)
  have HR1 := Aside0.mk hr1
  have HR2 := Aside0.mk hr2
  have HR3 := Aside0.mk hr3
  have hBw : w.heap.size ≤ w1.heap.size := B1.out.size
  have hgw : w1.heap.size ≤ W4.heap.size := by have := M4.out.bg; have := blk_lt M4.out.top; omega
  have hgl := blk_lt M4.out.top
  have HTL := Aside0.mk (fun k hk => own_lt M4.out.tow k hk)
  have hnl : 0 < (two3 n (2049 + (qc : Int))).th.length := by show 0 < (List.replicate n (-1 : Int)).length; rw [List.length_replicate]; omega
  clear hr1 hr2 hr3 eka ekb ekc B1 B2
  have hXq : 1 + (qa : Int) = 1 + (qa : Int) := rfl
  clear hXq
  have tok1 : True := trivial
  go_wp2_with (first
    | (go_at_call 24; have _t := tok1; clear _t tok1; refine (retire_as M4.out hgw (by simp [newM]) (by simp [newM]) (by simp [newM]) HR1.out).mono ?_; rintro e w5 ⟨v5, rfl, hr, wv5, hm, hk, hb, _⟩; obtain ⟨A5, c5, rfl⟩ := Kd.R_slice hr; have M5 := Aside0.mk hm; have B5 := Aside0.mk (B4.out.trans (hb.mono hBw)); have hsz5 := hk.1; clear hr hm hk hb M4 B4; have tok2 : True := trivial)
    | (go_at_call 24; have _t := tok2; clear _t tok2; refine (retire_as M5.out (Nat.le_trans hgw hsz5) (by simp [two1]) (by simp [two1]) (by simp [two1]) HR2.out).mono ?_; rintro e w6 ⟨v6, rfl, hr, wv6, hm, hk, hb, _⟩; obtain ⟨A6, c6, rfl⟩ := Kd.R_slice hr; have Q6 := Aside0.mk hr; have M6 := Aside0.mk hm; have B6 := Aside0.mk (B5.out.trans (hb.mono hBw)); have hsz6 := hk.1; clear hr hm hk hb M5 B5; have tok3 : True := trivial)
    | (go_at_call 24; have _t := tok3; clear _t tok3; refine (retire_as M6.out (Nat.le_trans hgw (Nat.le_trans hsz5 hsz6)) (by simp [two2]) (by simp [two2]) (by simp [two2]) HR3.out).mono ?_; rintro e w7 ⟨v7, rfl, hr, wv7, hm, hk, hb, _⟩; obtain ⟨A7, c7, rfl⟩ := Kd.R_slice hr; have Q7 := Aside0.mk hr; have Q67 := Aside0.mk (R_deed Q6.out M6.out (Nat.lt_of_lt_of_le hgl hsz5) (fun k hk2 => Nat.lt_of_lt_of_le (HTL.out k hk2) hsz5) hk); have M7 := Aside0.mk hm; have B7 := Aside0.mk (B6.out.trans (hb.mono hBw)); have hsz7 := hk.1; clear hr hm hk hb M6 B6; have tok4 : True := trivial)
    | (go_at_call 18; have _t := tok4; clear _t tok4; refine (same_lit w7 A6 c6 (1 + (qa : Int)) (reads_R Q67.out)).mono ?_; rintro e w8 ⟨rfl, hb⟩; have M8 := Aside0.mk (M7.out.grow hb); have B8 := Aside0.mk (B7.out.trans (hb.mono B7.out.size)); have Q8 := Aside0.mk (Kd.R_below Q7.out hb); clear hb M7 B7 Q67 Q7; have tok5 : True := trivial)
    | (go_at_call 18; have _t := tok5; clear _t tok5; refine (same_lit w8 A7 c7 (1025 + (qb : Int)) (reads_R Q8.out)).mono ?_; rintro e w9 ⟨rfl, hb⟩; have M9 := Aside0.mk (M8.out.grow hb); have B9 := Aside0.mk (B8.out.trans (hb.mono B8.out.size)); clear hb M8 B8 Q8; have tok6 : True := trivial)
    | (go_at_call 19; have _t := tok6; clear _t tok6; refine (waiting_calls M9.out hnl (by simp [two3])).mono ?_; rintro e w10 ⟨v10, rfl, hr, hb⟩; obtain ⟨A10, c10, rfl⟩ := Kd.R_slice hr; have Q10 := Aside0.mk hr; have M10 := Aside0.mk (M9.out.grow hb); have B10 := Aside0.mk (B9.out.trans (hb.mono B9.out.size)); clear hr hb M9 B9; have tok7 : True := trivial)
    | (go_at_call 18; have _t := tok7; clear _t tok7; refine (same_lit w10 A10 c10 (2049 + (qc : Int)) (reads_R Q10.out)).mono ?_; rintro e w11 ⟨rfl, hb⟩; have M11 := Aside0.mk (M10.out.grow hb); have B11 := Aside0.mk (B10.out.trans (hb.mono B10.out.size)); clear hb M10 B10 Q10; have tok8 : True := trivial)
    | (go_at_call 21; have _t := tok8; clear _t tok8; refine (epoch_calls M11.out hnl).mono ?_; rintro e w12 ⟨rfl, hw⟩; rw [hw]; clear hw))
  go_ret
  exact ⟨rfl, B11.out⟩
end Go.Proofs.Ytcfodmnpmjkpbaa.Ep
