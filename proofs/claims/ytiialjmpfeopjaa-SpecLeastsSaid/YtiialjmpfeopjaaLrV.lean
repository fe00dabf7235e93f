/- The law's run, walked: plain lemmas; no condition. -/
import Derived.Test.YtiialjmpfeopjaaXSa1
import Derived.Test.YtiialjmpfeopjaaRfD
import Derived.Test.YtiialjmpfeopjaaPwB
namespace Go.Proofs.Ytiialjmpfeopjaa.LrV
open Go.RowKit Go.Sort Go.Proofs.Ytiialjmpfeopjaa.XSa Go.Proofs.Ytiialjmpfeopjaa.Sp Go.Proofs.YtiialjmpfeopjaaW.PrintWords Go.Proofs.YtiialjmpfeopjaaW.PrintLast Go.Proofs.YtiialjmpfeopjaaW.PrintMore
set_option linter.unusedVariables false
set_option linter.unusedSimpArgs false
set_option maxHeartbeats 8000000
set_option maxRecDepth 100000
theorem awake_true : locklesslaw18_awake.f = some true := by
  unfold locklesslaw18_awake.f spec_Run.f
  have h : Sp.runS 2 1 (List.map callT [(⟨⟨#[101, 110, 113]⟩, 5, 0⟩ : S27), ⟨⟨#[101, 110, 113]⟩, 6, 0⟩, ⟨⟨#[100, 101, 113]⟩, 0, 0⟩]) = some ([0, 0, 5], [6], 0) := Sp.awake_run
  rw [if_pos (by decide), h]
  rfl
theorem run_at (r n : Int) (A : Option Addr) (c : Nat) (l : List S27) (o s : List Int) (w : World) (hC : Kd.C k27 w A l.length l) (hc : l.length ≤ c) (h : Sp.runS r n (l.map callT) = some (o, s, 0)) (ho : o.length = l.length) (hl : l.length ≤ 1000000) :
    Calls Try.prog 16 #[.int .i64 r, .int .i64 n, .slice A l.length c] w fun e w' => ∃ v, e = .returned (.tuple #[v, .bool true]) ∧ Kd.R (Kd.int .i64) 3 w' w.heap.size (fun _ => True) v o ∧ Below w.heap.size w w' := by
  have HC := Aside0.mk (spec_Run.calls r n A c l o s 0 w hC hc (by unfold spec_Run.f; rw [if_pos hl, h]))
  obtain ⟨L, hL⟩ : ∃ L, L = l.length := ⟨_, rfl⟩
  rw [← hL] at HC ho ⊢
  clear hC hL h
  go_enter Try.func16, Try.ntmps16
  go_wp2_with (go_at_call 24; refine (HC.out).mono ?_; rintro e w1 ⟨v0, v1, rfl, h0, h1, hb⟩; obtain ⟨A0, c0, rfl⟩ := Kd.R_slice h0; have H0 := Aside0.mk (Kd.R_mono h0 (fun _ _ => trivial) : Kd.R (Kd.int .i64) 3 w1 w.heap.size (fun _ => True) _ o); have B1 := Aside0.mk hb; rw [ho] at H0 ⊢; clear h0 h1 hb)
  go_ret2
  exact ⟨_, rfl, H0.out, B1.out⟩
end Go.Proofs.Ytiialjmpfeopjaa.LrV
