/- What played does, and what two managers leave of one another: plain lemmas; no condition. -/
import Derived.Test.YtgdadefobhfkcaaHyC0
import Derived.Test.YtgdadefobhfkcaaHyP
namespace Go.Proofs.Ytgdadefobhfkcaa.Hy
open Go.RowKit Go.Proofs.YtgdadefobhfkcaaW.PrintWords Go.Proofs.YtgdadefobhfkcaaW.PrintLast Go.Proofs.YtgdadefobhfkcaaW.PrintMore
set_option linter.unusedVariables false
set_option linter.unusedSimpArgs false
set_option maxHeartbeats 8000000
set_option maxRecDepth 100000
theorem play_from {m : HM} (h : Good m) (ds : List DD) : ∀ k, k ≤ ds.length → Good (playTo m ds k) ∧ (playTo m ds k).n = m.n := by
  intro k
  induction k with
  | zero => exact fun _ => ⟨h, rfl⟩
  | succ k ih =>
    intro hk
    obtain ⟨h1, h2⟩ := ih (by omega)
    rw [playTo_succ _ _ _ (by omega)]
    exact ⟨h1.deed _ _ _ _, (deed_n _ _ _ _ _).trans h2⟩
theorem few {m : HM} (h : Good m) (h4 : m.n ≤ 4) : m.ws.length ≤ 48 := by
  have := h.bound
  obtain h0 | h0 | h0 | h0 | h0 : m.n = 0 ∨ m.n = 1 ∨ m.n = 2 ∨ m.n = 3 ∨ m.n = 4 := by omega
  all_goals rw [h0] at this; omega
/-- No block of both. -/
def Apart (S T : Nat → Prop) : Prop := ∀ k, S k → ¬ T k
theorem man_apart {B : Nat} {w w' : World} {g g2 : Nat} {A A2 : Option Addr} {wv wv2 : Value} {m : HM} (hm : Man B w g A wv m) (hk : Kept w w' (foot g2 A2 wv2)) (ha : Apart (foot g A wv) (foot g2 A2 wv2)) : Man B w' g A wv m :=
  man_keep hm (fun k hf => hk.2 k (hm.foot_lt k hf).2 (ha k hf))
theorem apart_after {B : Nat} {w : World} {g g2 : Nat} {A A2 : Option Addr} {wv wv2 wv2' : Value} {m : HM} (hm : Man B w g A wv m) (ha : Apart (foot g A wv) (foot g2 A2 wv2)) (hw : ∀ k, wv2'.ownBlock = some k → wv2.ownBlock = some k ∨ w.heap.size ≤ k) : Apart (foot g A wv) (foot g2 A2 wv2') := by
  intro k hf hf2
  have hlt := (hm.foot_lt k hf).2
  rcases hf2 with h | h | h
  · exact ha k hf (.inl h)
  · exact ha k hf (.inr (.inl h))
  · rcases hw k h with h | h
    · exact ha k hf (.inr (.inr h))
    · omega
theorem apart_symm {S T : Nat → Prop} (h : Apart S T) : Apart T S := fun k a b => h k b a
theorem apart_new {B B' : Nat} {w w' : World} {g g2 : Nat} {A A2 : Option Addr} {wv wv2 : Value} {m m2 : HM} (hm : Man B w g A wv m) (hm2 : Man B' w' g2 A2 wv2 m2) (hB : w.heap.size ≤ B') : Apart (foot g A wv) (foot g2 A2 wv2) := by
  intro k h1 h2
  have := (hm.foot_lt k h1).2
  have := (hm2.foot_lt k h2).1
  omega
theorem played_calls (n : Nat) (A : Option Addr) (c : Nat) (ds : List DD) (w : World) (hd : DeedsAt w A ds) (h1 : 1 ≤ n) (h4 : n ≤ 4) (hl : ds.length ≤ 200) :
    Calls Try.prog 22 #[.int .i64 n, .slice A ds.length c] w fun e w' => ∃ g Ag wv, e = .returned (.pointer (some ⟨g, 0, none⟩)) ∧ Man w.heap.size w' g Ag wv (playTo (newM n) ds ds.length) ∧ Below w.heap.size w w' := by
  have HN := Aside0.mk (new_calls w.heap.size n w (Nat.le_refl _) h1 h4)
  have HD := Aside0.mk hd
  have HS := Aside0.mk (playTo_succ (newM n) ds)
  have HG := Aside0.mk (play_good n ds)
  clear hd
  go_enter Try.func22, Try.ntmps22
  go_wp2_with (go_at_call 10; refine (HN.out).mono ?_; rintro e w1 ⟨g, Ag, wv1, rfl, hm, hb, _⟩; have M1 := Aside0.mk hm; have B1 := Aside0.mk hb; clear hm hb)
  go_loopg [7] ds.length (fun gg v7 wr => ∃ (kk : Nat) (wvk : Value), kk ≤ ds.length ∧ ds.length - kk ≤ gg ∧ v7 = .int .i64 kk ∧ Aside0 (Man w.heap.size wr g Ag wvk (playTo (newM n) ds kk)) ∧ Aside0 (Below w.heap.size w wr))
  case atStart => exact ⟨0, _, Nat.zero_le _, by omega, rfl, M1, B1⟩
  case round =>
    clear M1 B1
    obtain ⟨kk, wvk, hkk, hgg, rfl, M1, B1⟩ := hrel
    by_cases hlt : kk < ds.length
    · obtain ⟨ad, rfl, e1, e2, e3, e4⟩ := HD.out.below B1.out kk hlt
      rw [add_field ad (kk * 4) 1 (by decide)] at e2
      rw [add_field ad (kk * 4) 2 (by decide)] at e3
      rw [add_field ad (kk * 4) 3 (by decide)] at e4
      obtain ⟨hgd, hgn⟩ := HG.out kk hkk
      have hlen := few hgd (by omega)
      have hsn := HS.out kk hlt
      have hdone := done_calls M1.out B1.out.size (by omega) ds[kk]!.d ds[kk]!.t ds[kk]!.k ds[kk]!.a
      have HSN := Aside0.mk hsn
      have HDN := Aside0.mk hdone
      generalize ds[kk]! = x at *
      clear hsn hdone hlen M1 hgd hgn
      go_wp2_with (go_at_call 11; refine (HDN.out).mono ?_; rintro e w3 ⟨v, rfl, _, wv3, hm, _, hb, _⟩; have M3 := Aside0.mk (show Man w.heap.size w3 g Ag wv3 (playTo (newM n) ds (kk + 1)) from (show playTo (newM n) ds (kk + 1) = _ from HSN.out) ▸ hm); have B3 := Aside0.mk (B1.out.trans hb); clear hm hb)
      go_roundg (ds.length - (kk + 1))
      case measure => omega
      case rel => exact ⟨kk + 1, _, by omega, by omega, by go_num, M3, B3⟩
    · have : kk = ds.length := by omega
      subst this
      go_wp2
      go_ret
      exact ⟨_, _, _, rfl, M1.out, B1.out⟩
theorem played_none (t : Int) (A : Option Addr) (c : Nat) (ds : List DD) (w : World) (h : t < 1 ∨ 4 < t) :
    Calls Try.prog 22 #[.int .i64 t, .slice A ds.length c] w fun e w' => e = .returned (.pointer none) ∧ w' = w := by
  have HN := Aside0.mk (new_bad t w h)
  go_enter Try.func22, Try.ntmps22
  go_wp2_with (go_at_call 10; refine (HN.out).mono ?_; rintro e w1 ⟨rfl, hw⟩; rw [hw]; clear hw)
  go_loopg [7] 0 (fun gg v7 wr => v7 = .int .i64 0 ∧ w = wr)
  case atStart => exact ⟨rfl, rfl⟩
  case round =>
    obtain ⟨rfl, hw⟩ := hrel
    subst hw
    by_cases hl : 0 < ds.length
    all_goals
      go_wp2
      go_ret
      exact ⟨rfl, rfl⟩
end Go.Proofs.Ytgdadefobhfkcaa.Hy
