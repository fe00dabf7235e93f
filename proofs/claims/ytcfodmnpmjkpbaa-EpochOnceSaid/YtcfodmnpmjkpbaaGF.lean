/- The walk of EpochFar: plain lemmas; no condition. -/
import Derived.Test.YtcfodmnpmjkpbaaGT
namespace Go.Proofs.Ytcfodmnpmjkpbaa.Ep
open Go.RowKit Go.Proofs.YtcfodmnpmjkpbaaW.PrintWords Go.Proofs.YtcfodmnpmjkpbaaW.PrintLast Go.Proofs.YtcfodmnpmjkpbaaW.PrintMore
set_option linter.unusedVariables false
set_option linter.unusedSimpArgs false
set_option maxHeartbeats 8000000
set_option maxRecDepth 100000
/-- The state behind k acts, those of thread t's entering and leaving left out. -/
def farStep (t : Nat) (m : EM) (x : DD) : EM := if x.t = (t : Int) ∧ x.d ≤ 1 then m else (step1 m x).1
def farTo (t : Nat) (m : EM) (ds : List DD) (k : Nat) : EM := (ds.take k).foldl (farStep t) m
theorem farTo_succ (t : Nat) (m : EM) (ds : List DD) (k : Nat) (h : k < ds.length) : farTo t m ds (k + 1) = farStep t (farTo t m ds k) ds[k]! := by
  unfold farTo
  rw [List.take_succ_eq_append_getElem h, List.foldl_append]
  simp [h]
theorem far_facts {t j : Nat} {m : EM} {e : Int} (ds : List DD) (h : Inside m t e) (hl : Low m j) : ∀ k, k ≤ ds.length → Inside (farTo t m ds k) t e ∧ Low (farTo t m ds k) (j + k) ∧ (farTo t m ds k).th.length = m.th.length := by
  intro k
  induction k with
  | zero => intro _; exact ⟨h, hl, rfl⟩
  | succ k ih =>
    intro hk
    obtain ⟨g1, g2, g3⟩ := ih (by omega)
    rw [farTo_succ _ _ _ _ (by omega)]
    unfold farStep
    split
    · obtain ⟨l1, l2, l3⟩ := g2
      exact ⟨g1, ⟨by omega, l2, by omega⟩, g3⟩
    · rename_i hn
      obtain ⟨p1, p2⟩ := deed_low g2 ds[k]!.d ds[k]!.t ds[k]!.k ds[k]!.a
      exact ⟨(inside_deed g1 _ _ _ _ hn).1, p1, p2.trans g3⟩
theorem far_walk (t u : Int) (A A2 : Option Addr) (c c2 : Nat) (ds es : List DD) (w : World) (hd : DeedsAt w A ds) (he : DeedsAt w A2 es) :
    Calls Try.prog 6 #[.agg #[.int .i64 t, .slice A ds.length c, .int .i64 u, .slice A2 es.length c2]] w fun e w' => e = .returned (.bool true) ∧ Below w.heap.size w w' := by
  have hb0 := (Below.refl w.heap.size w).alloc (Nat.le_refl _) (.cells #[.int .i64 t, .slice A ds.length c, .int .i64 u, .slice A2 es.length c2] 62 (0, 0))
  have HB0 := Aside0.mk hb0
  have HD := Aside0.mk hd
  have HE := Aside0.mk he
  clear hb0 hd he
  go_enter Try.func6, Try.ntmps6
  go_wp2
  go_quiet (fail)
  go_wp2_with (first
    | (go_at_call 12; refine (awake_calls _).mono ?_; rintro e w1 ⟨rfl, hb⟩; have B1 := Aside0.mk (btrans HB0.out (btrans (pw_below_drewN (Below.refl _ _) _) hb)); clear hb)
    | (go_at_call 22; refine (made_calls t A c ds w1 (HD.out.below B1.out)).mono ?_; rintro e w2 ⟨n, g, tv, wv, iv, cur, hn1, hn4, rfl, hm, hrb, ho, hb⟩; have M2 := Aside0.mk hm; have HRB := Aside0.mk hrb; have B2 := Aside0.mk (btrans B1.out hb); have hone : Aside0 (cur.all (·.oneCell') = true) := (by constructor; obtain ⟨A5, c5, hiv⟩ := own_form ho; exact hrb.one (by rw [hiv]; rfl)); clear hm hrb ho hb)
    | ((with_reducible refine gate_ (.alloc 38) rfl ?_); refine wpList_alloc38 rfl rfl ?_; intro W3 hz hb hs; have HZ := Aside0.mk hz; have M3 := Aside0.mk (M2.out.grow hb); have B3 := Aside0.mk (btrans B2.out hb); have hsz2 := B2.out.size; clear hz hb hs)
    | ((with_reducible refine gate_ (.store 38 (.tmp 8) (.tmp 31)) rfl ?_); refine wpList_store_whole rfl 38 (.tmp 8) (.tmp 31) rfl w2.heap.size cur zero30 38 rfl rfl HZ.out HRB.out.size.symm (by rw [info38, HRB.out.size]) hone.out ?_; intro W4 h3 far e1 e2 e3 e4; have M4 := Aside0.mk (man_keep M3.out (w' := W4) (fun k hk => far k (by have := (M2.out.foot_lt k hk).2; omega))); have B4 := Aside0.mk (below_store B3.out hsz2 far e1 e2 e3 e4); clear h3 far e1 e2 e3 e4 M3 B3 HZ M2 hone HRB))
  obtain ⟨hpl, pl4⟩ := playTo_low n ds (min ds.length 150) (Nat.min_le_left _ _)
  have hK : min ds.length 150 ≤ 150 := Nat.min_le_right _ _
  generalize min ds.length 150 = K at *
  generalize playTo (newM n) ds K = m0 at *
  obtain ⟨ku, hku, eku⟩ := mod_at u n hn1 hn4
  have hin := in_at M4.out ku (by omega)
  have hins : Inside (inned m0 ku) ku m0.ep := inside_in (by omega) hpl.2.1
  have hlow : Low (inned m0 ku) K := hpl
  have hth : (inned m0 ku).th.length = n := by simp [inned, pl4]
  have HF := Aside0.mk (far_facts es hins hlow)
  have HFS := Aside0.mk (farTo_succ ku (inned m0 ku) es)
  have hep0 : (inned m0 ku).ep = m0.ep := rfl
  have HEP0 := Aside0.mk hep0
  have HTH := Aside0.mk hth
  rw [← eku] at hin
  have EKU := Aside0.mk eku
  have HIN := Aside0.mk hin
  have hBw : w.heap.size ≤ w1.heap.size := B1.out.size
  have hep1 : 0 ≤ m0.ep := hpl.2.1
  have hep2 : m0.ep ≤ 450 := by have := hpl.2.2; omega
  clear hin hins hlow hep0 hth eku hpl
  generalize wrap64 ((IntKind.u64.wrap u).tmod (n : Int)) = T at *
  have tok1 : True := trivial
  go_wp2_with (first
    | (go_at_call 23; refine (HIN.out).mono ?_; rintro e w5 ⟨rfl, wv5, hm, hk, hb, _⟩; have M5 := Aside0.mk hm; have B5 := Aside0.mk (B4.out.trans (hb.mono hBw)); clear hm hk hb M4 B4)
    | (go_at_call 21; have _t := tok1; clear _t tok1; refine (epoch_calls M5.out (by rw [HTH.out]; omega)).mono ?_; rw [HEP0.out]; rintro e w6 ⟨rfl, hw⟩; rw [hw]; clear hw))
  clear HIN B1 B2
  go_loopg [12, 13, 14, 15] (min es.length 150) (fun gg v12 v13 v14 v15 wr => ∃ (kk : Nat) (wvk : Value), kk ≤ min es.length 150 ∧ min es.length 150 - kk ≤ gg ∧ v13 = .int .i64 kk ∧ v12 = .int .i64 (farTo ku (inned m0 ku) es kk).ep ∧ Aside0 (Man w1.heap.size wr g tv wvk (farTo ku (inned m0 ku) es kk)) ∧ Aside0 (Below w.heap.size w wr))
  case atStart => exact ⟨0, _, Nat.zero_le _, by omega, rfl, rfl, M5, B5⟩
  case round =>
    clear M5 B5
    obtain ⟨kk, wvk, hkk, hgg, rfl, rfl, M5, B5⟩ := hrel
    by_cases hlt : kk < min es.length 150
    · have hl1 : kk < es.length := by omega
      have hl2 : kk < 150 := by omega
      have hl2i : (kk : Int) < 150 := by omega
      obtain ⟨ad, rfl, e1, e2, e3, e4⟩ := HE.out kk hl1
      rw [add_field ad (kk * 4) 1 (by decide)] at e2
      rw [add_field ad (kk * 4) 2 (by decide)] at e3
      rw [add_field ad (kk * 4) 3 (by decide)] at e4
      replace e1 := (B5.out.cell (World.block_lt_of_cell? w _ e1)).trans e1
      replace e2 := (B5.out.cell (World.block_lt_of_cell? w _ e2)).trans e2
      replace e3 := (B5.out.cell (World.block_lt_of_cell? w _ e3)).trans e3
      replace e4 := (B5.out.cell (World.block_lt_of_cell? w _ e4)).trans e4
      obtain ⟨g1, ⟨g2, g3, g4⟩, g5⟩ := HF.out kk (by omega)
      obtain ⟨k1, k2, k5⟩ := HF.out (kk + 1) (by omega)
      have hs := HFS.out kk hl1
      have hgep := g1.ep
      have hkep := k1.ep
      generalize es[kk]! = x at *
      generalize hS : farTo ku (inned m0 ku) es kk = S at *
      generalize hS' : farTo ku (inned m0 ku) es (kk + 1) = S' at *
      have hbe := (Below.refl wr.heap.size wr).alloc (Nat.le_refl _) (.cells #[.int .i64 x.d, .int .i64 x.t, .int .i64 x.k, .int .i64 x.a] 45 (0, 0))
      have M6 := Aside0.mk (M5.out.grow hbe)
      have B6 := Aside0.mk (B5.out.trans (hbe.mono B5.out.size))
      have hw1r : w1.heap.size ≤ wr.heap.size := by have := M5.out.bg; have := blk_lt M5.out.top; omega
      have hbz := hbe.size
      have H1 := Aside0.mk hs
      have HG1 := Aside0.mk g1
      have HSS := Aside0.mk hS'
      clear hbe hs g1 k1 k2 hS hS'
      by_cases hx : x.t = T ∧ x.d ≤ 1
      · obtain ⟨hx1, hx2⟩ := hx
        have hq : (x.t == T) = true := by simp [hx1]
        have hq2 : decide (x.d ≤ 1) = true := by simpa using hx2
        have hsame : Aside0 (S' = S) := ⟨by rw [H1.out]; unfold farStep; rw [if_pos ⟨hx1.trans EKU.out, hx2⟩]⟩
        clear hx1 hx2
        go_wp2
        go_roundg (min es.length 150 - (kk + 1))
        case measure => omega
        case rel => exact ⟨kk + 1, _, by omega, by omega, by go_num, by rw [HSS.out, hsame.out], by rw [HSS.out, hsame.out]; exact M6, B6⟩
      · have hn : ¬ (x.t = (ku : Int) ∧ x.d ≤ 1) := fun h => hx ⟨h.1.trans EKU.out.symm, h.2⟩
        have hst : S' = (deed S x.d x.t x.k x.a).1 := by rw [H1.out]; unfold farStep; rw [if_neg hn]; rfl
        have hle : S.ep ≤ S'.ep := by rw [hst]; exact (inside_deed HG1.out _ _ _ _ hn).2
        have HST := Aside0.mk hst
        have hdo := do_calls M6.out (Nat.le_trans hw1r hbz) (by rw [g5, HTH.out]; omega) (by omega) g3 (by omega) x.d x.t x.k x.a
        have HDO := Aside0.mk hdo
        have hwr : IntKind.i64.wrap (m0.ep + 1) = m0.ep + 1 := IntWalk.i64_in _ (by omega)
        have hd1 : decide (S'.ep < S.ep) = false := decide_eq_false (by omega)
        have hd2 : decide (m0.ep + 1 < S'.ep) = false := decide_eq_false (by omega)
        have hpos' : 0 < S'.th.length := by rw [k5, HTH.out]; omega
        have tok2 : True := trivial
        clear hst hdo hn
        by_cases hq1 : x.t = T
        · have hq : (x.t == T) = true := by simp [hq1]
          have hq2 : decide (x.d ≤ 1) = false := decide_eq_false (fun h => hx ⟨hq1, h⟩)
          clear hx hq1
          go_wp2_with (first
            | (go_at_call 16; refine (HDO.out).mono ?_; rintro e w7 ⟨v, rfl, _, wv7, hm, hk, hb, _⟩; rw [← HST.out] at hm; have M7 := Aside0.mk hm; have B7 := Aside0.mk (B6.out.trans (hb.mono hBw)); clear hm hk hb)
            | (go_at_call 21; have _t := tok2; clear _t tok2; refine (epoch_calls M7.out hpos').mono ?_; rintro e w8 ⟨rfl, hw⟩; rw [hw]; clear hw))
          go_roundg (min es.length 150 - (kk + 1))
          case measure => omega
          case rel => exact ⟨kk + 1, _, by omega, by omega, by go_num, by rw [HSS.out], by rw [HSS.out]; exact M7, B7⟩
        · have hq : (x.t == T) = false := by simpa using hq1
          clear hx hq1
          go_wp2_with (first
            | (go_at_call 16; refine (HDO.out).mono ?_; rintro e w7 ⟨v, rfl, _, wv7, hm, hk, hb, _⟩; rw [← HST.out] at hm; have M7 := Aside0.mk hm; have B7 := Aside0.mk (B6.out.trans (hb.mono hBw)); clear hm hk hb)
            | (go_at_call 21; have _t := tok2; clear _t tok2; refine (epoch_calls M7.out hpos').mono ?_; rintro e w8 ⟨rfl, hw⟩; rw [hw]; clear hw))
          go_roundg (min es.length 150 - (kk + 1))
          case measure => omega
          case rel => exact ⟨kk + 1, _, by omega, by omega, by go_num, by rw [HSS.out], by rw [HSS.out]; exact M7, B7⟩
    · have hcase : (kk < es.length ∧ ¬ (kk < 150)) ∨ ¬ (kk < es.length) := by omega
      rcases hcase with ⟨h1, h2⟩ | h1
      all_goals
        go_wp2
        go_ret
        exact ⟨rfl, B5.out⟩
end Go.Proofs.Ytcfodmnpmjkpbaa.Ep
