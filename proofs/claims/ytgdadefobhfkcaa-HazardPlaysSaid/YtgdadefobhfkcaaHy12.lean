/- The walk of HazardBounds: plain lemmas; no condition. -/
import Derived.Test.YtgdadefobhfkcaaHy11
namespace Go.Proofs.Ytgdadefobhfkcaa.Hy
open Go.RowKit Go.Proofs.YtgdadefobhfkcaaW.PrintWords Go.Proofs.YtgdadefobhfkcaaW.PrintLast Go.Proofs.YtgdadefobhfkcaaW.PrintMore
set_option linter.unusedVariables false
set_option linter.unusedSimpArgs false

/-- A deed: what, thread, hold, address. -/
structure DD where
  d : Int
  t : Int
  k : Int
  a : Int
instance : Inhabited DD := ⟨⟨0, 0, 0, 0⟩⟩
def DeedsAt (w : World) (A : Option Addr) (ds : List DD) : Prop := ∀ j, j < ds.length → ∃ ad, A = some ad ∧ w.cell? (ad.add (j * 4)) = some (.int .i64 ds[j]!.d) ∧ w.cell? (ad.add (j * 4 + 1)) = some (.int .i64 ds[j]!.t) ∧ w.cell? (ad.add (j * 4 + 2)) = some (.int .i64 ds[j]!.k) ∧ w.cell? (ad.add (j * 4 + 3)) = some (.int .i64 ds[j]!.a)
theorem add_field (ad : Addr) (m i : Nat) (hi : 0 < i) : ad.add (m + i) = ⟨(ad.add m).block, (ad.add m).off + i, none⟩ := by
  unfold Addr.add
  by_cases hm : m = 0
  · subst hm
    simp
    omega
  · simp [hm, Nat.add_assoc]
def step1 (m : HM) (x : DD) : HM × List Int × Int := deed m x.d x.t x.k x.a
def playTo (m : HM) (ds : List DD) (k : Nat) : HM := (ds.take k).foldl (fun m x => (step1 m x).1) m
theorem playTo_succ (m : HM) (ds : List DD) (k : Nat) (h : k < ds.length) : playTo m ds (k + 1) = (step1 (playTo m ds k) ds[k]!).1 := by
  unfold playTo
  rw [List.take_succ_eq_append_getElem h, List.foldl_append]
  simp [h]
theorem DeedsAt.below {w w' : World} {A : Option Addr} {ds : List DD} (h : DeedsAt w A ds) (hb : Below w.heap.size w w') : DeedsAt w' A ds := by
  intro j hj
  obtain ⟨ad, e, h1, h2, h3, h4⟩ := h j hj
  exact ⟨ad, e, (hb.cell (World.block_lt_of_cell? w _ h1)).trans h1, (hb.cell (World.block_lt_of_cell? w _ h2)).trans h2, (hb.cell (World.block_lt_of_cell? w _ h3)).trans h3, (hb.cell (World.block_lt_of_cell? w _ h4)).trans h4⟩
set_option maxHeartbeats 8000000 in
set_option maxRecDepth 100000 in
theorem bounds_walk (n : Nat) (A : Option Addr) (c : Nat) (ds : List DD) (w : World) (hd : DeedsAt w A ds) (h1 : 1 ≤ n) (h4 : n ≤ 4) (hl : ds.length ≤ 200) (hP : ∀ k, k ≤ ds.length → (playTo (newM n) ds k).ws.length ≤ 3 * n * n) :
    Calls Try.prog 5 #[.int .i64 n, .slice A ds.length c] w fun e w' => e = .returned (.bool true) ∧ Below w.heap.size w w' := by
  have hnew := new_calls w.heap.size n w (Nat.le_refl _) h1 h4
  have hb0 := fun W => bound_calls (n : Int) W
  rw [if_pos (by omega), if_pos (by omega)] at hb0
  have hcases : n = 1 ∨ n = 2 ∨ n = 3 ∨ n = 4 := by omega
  have HD := Aside0.mk hd
  have HP := Aside0.mk hP
  have HN := Aside0.mk hnew
  have HB0 := Aside0.mk hb0
  have HS := Aside0.mk (playTo_succ (newM n) ds)
  have hN48 : 3 * n * n ≤ 48 := by rcases hcases with rfl | rfl | rfl | rfl <;> decide
  have hq : (3 * (n : Int) * n != wrap64 (3 * (n : Int) * n)) = false := by rcases hcases with rfl | rfl | rfl | rfl <;> decide +kernel
  have HQ := Aside0.mk (show ((3 * n * n : Nat) : Int) = 3 * (n : Int) * n by push_cast; rfl)
  clear hd hP hnew hb0 hcases
  go_enter Try.func5, Try.ntmps5
  go_wp2_with (first
    | (go_at_call 10; refine (HN.out).mono ?_; rintro e w1 ⟨g, Ag, wv1, rfl, hm, hb, _⟩; have M1 := Aside0.mk hm; have B1 := Aside0.mk hb; clear hm hb)
    | (go_at_call 17; refine ((HB0.out) _).mono ?_; rintro e w2 ⟨rfl, rfl⟩))
  go_loopg [9] ds.length (fun gg v9 wr => ∃ (kk : Nat) (wvk : Value), kk ≤ ds.length ∧ ds.length - kk ≤ gg ∧ v9 = .int .i64 kk ∧ Aside0 (Man w.heap.size wr g Ag wvk (playTo (newM n) ds kk)) ∧ Aside0 (Below w.heap.size w wr))
  case atStart => exact ⟨0, _, Nat.zero_le _, by omega, rfl, M1, B1⟩
  case round =>
    clear M1 B1
    obtain ⟨kk, wvk, hkk, hgg, rfl, M1, B1⟩ := hrel
    by_cases hlt : kk < ds.length
    · obtain ⟨ad, rfl, e1, e2, e3, e4⟩ := HD.out.below B1.out kk hlt
      rw [add_field ad (kk * 4) 1 (by decide)] at e2
      rw [add_field ad (kk * 4) 2 (by decide)] at e3
      rw [add_field ad (kk * 4) 3 (by decide)] at e4
      have hlen := HP.out kk hkk
      have hlen2 := HP.out (kk + 1) hlt
      have hsn := HS.out kk hlt
      have hdone := done_calls M1.out B1.out.size (by omega) ds[kk]!.d ds[kk]!.t ds[kk]!.k ds[kk]!.a
      have HSN := Aside0.mk hsn
      have HDN := Aside0.mk hdone
      have HL2 := Aside0.mk hlen2
      generalize ds[kk]! = x at *
      clear hsn hdone hlen hlen2 M1
      go_wp2_with (first
        | (go_at_call 11; refine (HDN.out).mono ?_; rintro e w3 ⟨v, rfl, _, wv3, hm, _, hb, _⟩; have M3 := Aside0.mk (show Man w.heap.size w3 g Ag wv3 (playTo (newM n) ds (kk + 1)) from (show playTo (newM n) ds (kk + 1) = _ from HSN.out) ▸ hm); have B3 := Aside0.mk (B1.out.trans hb); clear hm hb)
        | (go_at_call 13; refine (waiting_calls M3.out (by have := HL2.out; omega)).mono ?_; rintro e w4 ⟨v, rfl, hr, hb⟩; obtain ⟨A4, c4, rfl⟩ := Kd.R_slice hr; have M4 := Aside0.mk (M3.out.grow hb); have B4 := Aside0.mk (B3.out.trans (hb.mono B3.out.size)); have hle : decide (3 * (n : Int) * n < ((playTo (newM n) ds (kk + 1)).ws.length : Int)) = false := (by have h1 := HL2.out; have h2 := HQ.out; apply decide_eq_false; omega); clear hr hb M3))
      go_roundg (ds.length - (kk + 1))
      case measure => omega
      case rel => exact ⟨kk + 1, _, by omega, by omega, by go_num, M4, B4⟩
    · go_wp2_with (go_at_call 9; refine (sane_calls _).mono ?_; rintro e w5 ⟨rfl, hb⟩; have B5 := Aside0.mk (B1.out.trans (hb.mono B1.out.size)); clear hb)
      go_ret
      exact ⟨rfl, B5.out⟩
set_option maxHeartbeats 8000000 in
set_option maxRecDepth 100000 in
theorem bounds_long (t : Int) (A : Option Addr) (c : Nat) (ds : List DD) (w : World) (hl : 200 < ds.length) :
    Calls Try.prog 5 #[.int .i64 t, .slice A ds.length c] w fun e w' => e = .returned (.bool true) ∧ Below w.heap.size w w' := by
  go_enter Try.func5, Try.ntmps5
  go_wp2_with (go_at_call 9; refine (sane_calls _).mono ?_; rintro e w5 ⟨rfl, hb⟩; have B5 := Aside0.mk hb; clear hb)
  go_ret
  exact ⟨rfl, B5.out⟩
set_option maxHeartbeats 8000000 in
set_option maxRecDepth 100000 in
theorem bounds_none (t : Int) (A : Option Addr) (c : Nat) (ds : List DD) (w : World) (hl : ds.length ≤ 200) (h : t < 1 ∨ 4 < t) :
    Calls Try.prog 5 #[.int .i64 t, .slice A ds.length c] w fun e w' => e = .returned (.bool true) ∧ Below w.heap.size w w' := by
  have HN := Aside0.mk (new_bad t w h)
  have hb0 := fun W => bound_calls t W
  rw [if_neg (by omega), if_neg (by omega)] at hb0
  have HB0 := Aside0.mk hb0
  clear hb0
  go_enter Try.func5, Try.ntmps5
  go_wp2_with (first
    | (go_at_call 10; refine (HN.out).mono ?_; rintro e w1 ⟨rfl, hw⟩; rw [hw]; clear hw)
    | (go_at_call 17; refine ((HB0.out) _).mono ?_; rintro e w2 ⟨rfl, hw⟩; rw [hw]; clear hw))
  go_loopg [9] 0 (fun gg v9 wr => v9 = .int .i64 0 ∧ w = wr)
  case atStart => exact ⟨rfl, rfl⟩
  case round =>
    obtain ⟨rfl, rfl⟩ := hrel
    go_wp2_with (go_at_call 9; refine (sane_calls _).mono ?_; rintro e w5 ⟨rfl, hb⟩; have B5 := Aside0.mk hb; clear hb)
    all_goals go_ret
    all_goals exact ⟨rfl, B5.out⟩
end Go.Proofs.Ytgdadefobhfkcaa.Hy
