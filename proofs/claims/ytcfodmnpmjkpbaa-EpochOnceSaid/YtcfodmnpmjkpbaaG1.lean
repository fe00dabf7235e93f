/- The walk of EpochRests: plain lemmas; no condition. -/
import Derived.Test.YtcfodmnpmjkpbaaG0
import Derived.Test.YtcfodmnpmjkpbaaF9
namespace Go.Proofs.Ytcfodmnpmjkpbaa.Ep
open Go.RowKit Go.Proofs.YtcfodmnpmjkpbaaW.PrintWords Go.Proofs.YtcfodmnpmjkpbaaW.PrintLast Go.Proofs.YtcfodmnpmjkpbaaW.PrintMore
set_option linter.unusedVariables false
set_option linter.unusedSimpArgs false
set_option maxHeartbeats 8000000
set_option maxRecDepth 100000
theorem not_bad {m : EM} {t : Nat} (h : t < m.th.length) : bad m (t : Int) = false := by
  unfold bad
  rw [Bool.or_eq_false_iff]
  exact ⟨decide_eq_false (by omega), decide_eq_false (by omega)⟩
theorem out_at {B : Nat} {w : World} {g : Nat} {tv wv : Value} {m : EM} (hm : Man B w g tv wv m) (t : Nat) (ht : t < m.th.length) :
    Calls Try.prog 26 #[.pointer (some ⟨g, 0, none⟩), .int .i64 (t : Int)] w fun e w' => e = .returned (.tuple #[.slice none 0 0, .int .i64 0]) ∧ After B w g tv wv (outed m t) w' := by
  have := out_good hm t (not_bad ht)
  rwa [Int.toNat_natCast] at this
theorem in_at {B : Nat} {w : World} {g : Nat} {tv wv : Value} {m : EM} (hm : Man B w g tv wv m) (t : Nat) (ht : t < m.th.length) :
    Calls Try.prog 23 #[.pointer (some ⟨g, 0, none⟩), .int .i64 (t : Int)] w fun e w' => e = .returned (.tuple #[.slice none 0 0, .int .i64 0]) ∧ After B w g tv wv (inned m t) w' := by
  have := in_good hm t (not_bad ht)
  rwa [Int.toNat_natCast] at this
/-- made, and the reference laid into a block of the caller's own. -/
theorem below_store {w W W2 : World} {b : Nat} (h : Below w.heap.size w W) (hb : w.heap.size ≤ b) (far : ∀ k, k ≠ b → W2.heap[k]? = W.heap[k]?) (h1 : W2.os = W.os) (h2 : W2.tape = W.tape) (h3 : W2.output = W.output) (h4 : W2.heap.size = W.heap.size) : Below w.heap.size w W2 :=
  h.trans ⟨h1, h2, h3, by have := h.size; omega, fun k hk => far k (by omega)⟩
theorem rests_walk (t : Int) (A : Option Addr) (c : Nat) (ds : List DD) (w : World) (hd : DeedsAt w A ds) :
    Calls Try.prog 7 #[.int .i64 t, .slice A ds.length c] w fun e w' => e = .returned (.bool true) ∧ Below w.heap.size w w' := by
  have HD := Aside0.mk hd
  clear hd
  go_enter Try.func7, Try.ntmps7
  go_wp2_with (first
    | (go_at_call 12; refine (awake_calls _).mono ?_; rintro e w1 ⟨rfl, hb⟩; have B1 := Aside0.mk hb; clear hb)
    | (go_at_call 22; refine (made_calls t A c ds w1 (HD.out.below B1.out)).mono ?_; rintro e w2 ⟨n, g, tv, wv, iv, cur, hn1, hn4, rfl, hm, hrb, ho, hb⟩; have M2 := Aside0.mk hm; have HRB := Aside0.mk hrb; have B2 := Aside0.mk (btrans B1.out hb); have hone : Aside0 (cur.all (·.oneCell') = true) := (by constructor; obtain ⟨A5, c5, hiv⟩ := own_form ho; exact hrb.one (by rw [hiv]; rfl)); clear hm hrb ho hb)
    | ((with_reducible refine gate_ (.alloc 38) rfl ?_); refine wpList_alloc38 rfl rfl ?_; intro W3 hz hb hs; have HZ := Aside0.mk hz; have M3 := Aside0.mk (M2.out.grow hb); have B3 := Aside0.mk (btrans B2.out hb); have hsz2 := B2.out.size; clear hz hb hs)
    | ((with_reducible refine gate_ (.store 38 (.tmp 6) (.tmp 20)) rfl ?_); refine wpList_store_whole rfl 38 (.tmp 6) (.tmp 20) rfl w2.heap.size cur zero30 38 rfl rfl HZ.out HRB.out.size.symm (by rw [info38, HRB.out.size]) hone.out ?_; intro W4 h3 far e1 e2 e3 e4; have M4 := Aside0.mk (man_keep M3.out (w' := W4) (fun k hk => far k (by have := (M2.out.foot_lt k hk).2; omega))); have B4 := Aside0.mk (below_store B3.out hsz2 far e1 e2 e3 e4); clear h3 far e1 e2 e3 e4 M3 B3 HZ M2 hone HRB))
  obtain ⟨⟨pl1, pl2, pl3⟩, pl4⟩ := playTo_low n ds (min ds.length 150) (Nat.min_le_left _ _)
  have hgood := good_play n ds (min ds.length 150) (Nat.min_le_left _ _)
  generalize playTo (newM n) ds (min ds.length 150) = m0 at *
  have hOF := outs_facts m0
  have hOE := outs_empty m0
  rw [pl4] at hOE
  have hOG := outs_good hgood n
  have HOF := Aside0.mk hOF
  have HOE := Aside0.mk hOE
  have HOG := Aside0.mk hOG
  have hBw : w.heap.size ≤ w1.heap.size := B1.out.size
  clear hOF hOE hOG hgood B1 B2
  have M5 := M4
  go_loopg [8, 9, 10] n (fun gg v8 v9 v10 wr => ∃ (kk : Nat) (wvk : Value), kk ≤ n ∧ n - kk ≤ gg ∧ v8 = .int .i64 kk ∧ Aside0 (Man w1.heap.size wr g tv wvk (outs m0 kk)) ∧ Aside0 (Below w.heap.size w wr))
  case atStart => exact ⟨0, _, Nat.zero_le _, by omega, rfl, M4, B4⟩
  case round =>
    clear M4 B4 M5
    obtain ⟨kk, wvk, hkk, hgg, rfl, M4, B4⟩ := hrel
    obtain ⟨f1, f2, f3, f4⟩ := HOF.out kk
    by_cases hlt : kk < n
    · have ho := out_at M4.out kk (by omega)
      have HO := Aside0.mk ho
      clear ho f1 f2 f3 f4
      go_wp2_with (go_at_call 26; refine (HO.out).mono ?_; rintro e w7 ⟨rfl, wv7, hm, hk, hb, _⟩; have M7 := Aside0.mk hm; have B7 := Aside0.mk (B4.out.trans (hb.mono hBw)); clear hm hk hb)
      go_roundg (n - (kk + 1))
      case measure => omega
      case rel => exact ⟨kk + 1, _, by omega, by omega, by go_num, M7, B7⟩
    · have hkn : kk = n := by omega
      subst hkn
      have hthl : (outs m0 kk).th.length = kk := f1.trans pl4
      have hwl : (outs m0 kk).ws.length ≤ 150 := by rw [f2]; omega
      have he0 : 0 ≤ (outs m0 kk).ep := by rw [f3]; exact pl2
      have he1 : (outs m0 kk).ep ≤ 450 := by rw [f3]; omega
      obtain ⟨r1, r2, r3, r4⟩ := rest_empty HOE.out HOG.out
      have hrl : (rested (outs m0 kk)).ws.length = 0 := by rw [r2]; rfl
      have hrth : (rested (outs m0 kk)).th.length = kk := by rw [r4]; exact hthl
      have hre : (rested (outs m0 kk)).ep ≤ 453 ∧ 0 ≤ (rested (outs m0 kk)).ep := by
        unfold rested
        obtain ⟨_, _, a1, a2⟩ := tried_facts (outs m0 kk)
        obtain ⟨_, _, a3, a4⟩ := tried_facts (tried (outs m0 kk))
        obtain ⟨_, _, a5, a6⟩ := tried_facts (tried (tried (outs m0 kk)))
        omega
      obtain ⟨hre1, hre2⟩ := hre
      have R1 := Aside0.mk r1
      have R2 := Aside0.mk r2
      have R3 := Aside0.mk r3
      clear f1 f2 f3 f4 r1 r2 r3 r4
      generalize outs m0 kk = mO at *
      have hal : (addrs mO).length ≤ 150 := by unfold addrs; rw [List.length_map]; exact hwl
      have hgl := blk_lt M4.out.top
      have HTL := Aside0.mk (fun k hk => own_lt M4.out.tow k hk)
      have hw1r : w1.heap.size ≤ wr.heap.size := by have := M4.out.bg; omega
      have HWT := Aside0.mk (waiting_calls M4.out (by omega) (by omega))
      have hwt : (mO.ws.map (·.1)) = addrs mO := rfl
      have HWTe := Aside0.mk hwt
      clear hwt
      have tok1 : True := trivial
      go_wp2_with (first
        | (go_at_call 19; have _t := tok1; clear _t tok1; refine (HWT.out).mono ?_; rintro e w5 ⟨v5, rfl, hr, hb⟩; rw [HWTe.out] at hr; obtain ⟨A5, c5, rfl⟩ := Kd.R_slice hr; have HR5 := Aside0.mk hr; have M5 := Aside0.mk (M4.out.grow hb); have B5 := Aside0.mk (B4.out.trans (hb.mono B4.out.size)); have hsz5 := hb.size; clear hr hb M4 B4 HWT; have tok2 : True := trivial)
        | (go_at_call 27; have _t := tok2; clear _t tok2; refine (rest_calls M5.out (by omega) (by omega) (by omega) he0 (by omega)).mono ?_; rintro e w6 ⟨v6, rfl, hr, wv6, hm, hk, hb, _⟩; rw [R1.out] at hr; obtain ⟨A6, c6, rfl⟩ := Kd.R_slice hr; have HR6 := Aside0.mk hr; have HR56 := Aside0.mk (R_deed HR5.out M5.out hgl HTL.out hk); have M6 := Aside0.mk hm; have B6 := Aside0.mk (B5.out.trans (hb.mono hBw)); have hsz6 := hk.1; clear hr hm hk hb M5 B5; have tok3 : True := trivial)
        | (go_at_call 18; have _t := tok3; clear _t tok3; refine (same_calls A6 A5 c6 c5 (addrs mO) (addrs mO) _ (reads_R HR6.out) (reads_R HR56.out) (by omega)).mono ?_; rw [decide_eq_true (rfl : addrs mO = addrs mO)]; rintro e w7 ⟨rfl, q, hw⟩; have M7 := Aside0.mk (M6.out.grow (w' := w7) (hw ▸ pw_below_drewN (Below.refl _ _) q)); have B7 := Aside0.mk (hw ▸ pw_below_drewN B6.out q : Below w.heap.size w w7); have hsz7 : w6.heap.size ≤ w7.heap.size := (by rw [hw]; exact Nat.le_refl _); clear hw M6 B6; have tok4 : True := trivial)
        | (go_at_call 19; have _t := tok4; clear _t tok4; refine (waiting_calls M7.out (by omega) (by omega)).mono ?_; rintro e w8 ⟨v8, rfl, hr, hb⟩; rw [R2.out] at hr; obtain ⟨A8, c8, rfl⟩ := Kd.R_slice hr; have M8 := Aside0.mk (M7.out.grow hb); have B8 := Aside0.mk (B7.out.trans (hb.mono B7.out.size)); have hsz8 := hb.size; clear hr hb M7 B7; have tok5 : True := trivial)
        | (go_at_call 27; have _t := tok5; clear _t tok5; refine (rest_calls M8.out (by omega) (by omega) (by omega) hre2 (by omega)).mono ?_; rintro e w9 ⟨v9, rfl, hr, wv9, hm, hk, hb, _⟩; rw [R3.out] at hr; obtain ⟨A9, c9, rfl⟩ := Kd.R_slice hr; have B9 := Aside0.mk (B8.out.trans (hb.mono hBw)); clear hr hm hk hb M8 B8))
      go_ret
      exact ⟨rfl, B9.out⟩
end Go.Proofs.Ytcfodmnpmjkpbaa.Ep
