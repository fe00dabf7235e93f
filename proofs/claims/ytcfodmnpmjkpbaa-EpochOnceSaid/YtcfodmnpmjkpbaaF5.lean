/- Try and Retire of the reference: plain lemmas; no condition. -/
import Derived.Test.YtcfodmnpmjkpbaaF4
namespace Go.Proofs.Ytcfodmnpmjkpbaa.Ep
open Go.RowKit Go.Proofs.YtcfodmnpmjkpbaaW.PrintWords Go.Proofs.YtcfodmnpmjkpbaaW.PrintLast Go.Proofs.YtcfodmnpmjkpbaaW.PrintMore
set_option linter.unusedVariables false
set_option linter.unusedSimpArgs false
set_option maxHeartbeats 8000000
set_option maxRecDepth 100000
/-- A thread is inside, and behind. -/
def rbehind (m : RM) (t : Nat) : Bool := m.ins t && (m.lo t != m.now)
def rstuck (m : RM) : Bool := (List.range m.n).any (rbehind m)
def rraised (m : RM) : RM := { m with now := m.now + 1 }
def rtried (m : RM) : RM := if rstuck m then m else swept (rraised m)
def rtryBack (m : RM) : List Int := if rstuck m then [] else sweptBack (rraised m)
theorem range_any (p : Nat → Bool) (n t : Nat) (h : t < n) (hp : p t = true) : (List.range n).any p = true := List.any_eq_true.2 ⟨t, List.mem_range.2 h, hp⟩
theorem range_none (p : Nat → Bool) (n : Nat) (h : ∀ t, t < n → p t = false) : (List.range n).any p = false := by
  rw [List.any_eq_false]
  intro t ht
  rw [h t (List.mem_range.1 ht)]
  decide
section
variable {B : Nat} {w : World} {r : Nat} {iv : Value} {m : RM}
theorem put_now {cur : Array Value} {m : RM} {iv' : Value} (h : RefB cur iv' m) : RefB (cur.setIfInBounds 3 (.int .i64 (m.now + 1))) iv' (rraised m) :=
  h.put 3 _ (by omega) rfl (fun _ => rfl) (fun e => absurd rfl e) (by omega) (by omega) (by omega) (fun _ _ => ⟨_, rfl⟩) (fun t ht => by rw [if_neg (by omega)]; rfl) (fun t ht => by rw [if_neg (by omega)]; rfl) (fun _ => by omega)
theorem rtry_calls (hr : Ref B w r iv m) (hB : B ≤ w.heap.size) (hl : m.its.length ≤ 100000) (h0 : 0 ≤ m.now) (h1 : m.now ≤ 100000) :
    Calls Try.prog 50 #[.pointer (some ⟨r, 0, none⟩)] w fun e w' => ∃ v, e = .returned v ∧ Kd.R (Kd.int .i64) 3 w' w.heap.size (fun _ => True) v (rtryBack m) ∧ RAfter B w r iv (rtried m) w' := by
  obtain ⟨cur2, c1, c2⟩ := hr.top
  have k2 : w.cell? ⟨r, 2, none⟩ = some (.int .i64 m.n) := by rw [Go.Lib.cell_of_heap c1]; exact c2.k2
  have k3 : w.cell? ⟨r, 3, none⟩ = some (.int .i64 m.now) := by rw [Go.Lib.cell_of_heap c1]; exact c2.k3
  have f3 := blk_frozen c1 3
  have ki : ∀ t, t < 4 → w.cell? ⟨r, 16 + t, none⟩ = some (.bool (m.ins t)) := fun t ht => by rw [Go.Lib.cell_of_heap c1]; exact c2.ins t ht
  have kl : ∀ t, t < 4 → w.cell? ⟨r, 20 + t, none⟩ = some (.int .i64 (m.lo t)) := fun t ht => by rw [Go.Lib.cell_of_heap c1]; exact c2.lo t ht
  have KI := Aside0.mk ki
  have KL := Aside0.mk kl
  have hsm := hr.small
  have HR := Aside0.mk hr
  clear hr c1 c2 ki kl
  go_enter Try.func50, Try.ntmps50
  go_wp2
  go_loopg [3] m.n (fun gg v3 wr => ∃ kk q : Nat, kk ≤ m.n ∧ m.n - kk ≤ gg ∧ v3 = .int .i64 kk ∧ wr = w.drewN q ∧ Aside0 (∀ t : Nat, t < kk → rbehind m t = false))
  case atStart => exact ⟨0, 0, Nat.zero_le _, by omega, rfl, rfl, ⟨fun t ht => absurd ht (Nat.not_lt_zero _)⟩⟩
  case round =>
    obtain ⟨kk, q, hkk, hgg, rfl, rfl, HN⟩ := hrel
    by_cases hlt : kk < m.n
    · have hk4 : kk < 4 := by omega
      have hk4i : (kk : Int) < 4 := by omega
      have ki := KI.out kk hk4
      have kl := KL.out kk hk4
      cases hi : m.ins kk with
      | true =>
        rw [hi] at ki
        cases hq : (m.lo kk != m.now) with
        | true =>
          have hb : rbehind m kk = true := by simp [rbehind, hi, hq]
          have hst : rstuck m = true := range_any _ _ _ hlt hb
          have e1 : rtryBack m = [] := by unfold rtryBack; rw [hst]; rfl
          have e2 : rtried m = m := by unfold rtried; rw [hst]; rfl
          have E1 := Aside0.mk e1
          have E2 := Aside0.mk e2
          clear hi hb hst e1 e2
          go_wp2
          go_quiet (fail)
          go_wp2
          go_ret
          rw [E1.out, E2.out]
          exact ⟨_, rfl, Kd.R_nil _ _ _ _ _, RAfter.grow HR.out hB (pw_below_drewN (pw_below_drewN (Below.refl _ _) _) _)⟩
        | false =>
          have hb : rbehind m kk = false := by simp [rbehind, hi, hq]
          have HBB := Aside0.mk hb
          clear hi hb
          go_wp2
          go_quiet (fail)
          go_wp2
          go_roundg (m.n - (kk + 1))
          case measure => omega
          case rel =>
            refine ⟨kk + 1, _, by omega, by omega, by go_num, rfl, ⟨fun t ht => ?_⟩⟩
            by_cases e : t = kk
            · subst e; exact HBB.out
            · exact HN.out t (by omega)
      | false =>
        rw [hi] at ki
        have hb : rbehind m kk = false := by simp [rbehind, hi]
        have HBB := Aside0.mk hb
        clear hi hb
        go_wp2
        go_quiet (fail)
        go_wp2
        go_roundg (m.n - (kk + 1))
        case measure => omega
        case rel =>
          refine ⟨kk + 1, _, by omega, by omega, by go_num, rfl, ⟨fun t ht => ?_⟩⟩
          by_cases e : t = kk
          · subst e; exact HBB.out
          · exact HN.out t (by omega)
    · have hkn : kk = m.n := by omega
      subst hkn
      have hst : rstuck m = false := range_none _ _ HN.out
      have e1 : rtryBack m = sweptBack (rraised m) := by unfold rtryBack; rw [hst]; rfl
      have e2 : rtried m = swept (rraised m) := by unfold rtried; rw [hst]; rfl
      have E1 := Aside0.mk e1
      have E2 := Aside0.mk e2
      have hh := RHold.cell (m2 := rraised m) (i := 3) (v := .int .i64 (m.now + 1)) (RHold.refl HR.out) (fun cur h => put_now h) rfl rfl
      have hsz : (w.setCell ⟨r, 3, none⟩ (.int .i64 (m.now + 1))).heap.size = w.heap.size := by simp [World.setCell]
      have hrw : Ref B ((w.drewN q).setCell ⟨r, 3, none⟩ (.int .i64 (m.now + 1))) r iv (rraised m) := ref_keep hh.1 (fun _ _ => rfl)
      have hsw := sweep_calls hrw (by simpa [World.setCell] using hB) hl (show 0 ≤ m.now + 1 by omega) (show m.now + 1 ≤ 1000000 by omega)
      have HSW := Aside0.mk hsw
      have HH := Aside0.mk hh
      have HSZ := Aside0.mk hsz
      clear hh hsw hrw e1 e2 hst hsz
      go_wp2_with (go_at_call 46; refine (HSW.out).mono ?_; rintro e w5 ⟨v, rfl, hr5, ha5⟩; have HR5 := Aside0.mk hr5; have HA5 := Aside0.mk ha5; clear hr5 ha5)
      go_ret
      rw [E1.out, E2.out]
      refine ⟨_, rfl, Kd.R_lower HR5.out (by simp [World.setCell]), RAfter.then_ (iv1 := iv) (w1 := (w.drewN q).setCell ⟨r, 3, none⟩ (.int .i64 (m.now + 1))) ⟨by simp [World.setCell], HH.out.2.1.2⟩ ?_ (fun k hk => .inl hk) HA5.out⟩
      exact ⟨HH.out.2.2.os, HH.out.2.2.tape, HH.out.2.2.output, HH.out.2.2.size, HH.out.2.2.block⟩
end
end Go.Proofs.Ytcfodmnpmjkpbaa.Ep
