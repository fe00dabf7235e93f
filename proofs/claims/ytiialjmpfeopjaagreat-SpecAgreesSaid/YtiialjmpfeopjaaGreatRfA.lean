/- The document's tests of lists, walked: plain lemmas; no condition. -/
import Derived.Test.YtiialjmpfeopjaaGreatSm1
import Derived.BigQuiet
import Derived.Deep.QuietTactic
namespace Go.Proofs.YtiialjmpfeopjaaGreat.Sp
open Go.RowKit Go.Sort Go.Proofs.YtiialjmpfeopjaaGreatW.PrintWords Go.Proofs.YtiialjmpfeopjaaGreatW.PrintLast Go.Proofs.YtiialjmpfeopjaaGreatW.PrintMore
set_option linter.unusedVariables false
set_option linter.unusedSimpArgs false
set_option maxHeartbeats 8000000
set_option maxRecDepth 100000
def inR (x lo hi : Int) : Bool := decide (lo ≤ x) && decide (x ≤ hi)
theorem ref_in (x lo hi : Int) (w : World) : Calls Tryz.prog 33 #[.int .i64 x, .int .i64 lo, .int .i64 hi] w fun e w' => e = .returned (.bool (inR x lo hi)) ∧ w' = w := by
  unfold inR
  go_enter Tryz.func33, Tryz.ntmps33
  go_wp2
  all_goals go_ret
  all_goals (by_cases q1 : lo ≤ x <;> by_cases q2 : x ≤ hi <;> simp_all <;> omega)
def ruleR (r n : Int) : Bool := inR r 1 16 && inR n 1 8
theorem ref_rule (r n : Int) (w : World) : Calls Tryz.prog 18 #[.int .i64 r, .int .i64 n] w fun e w' => e = .returned (.bool (ruleR r n)) ∧ w' = w := by
  have h1 := fun W => ref_in r 1 16 W
  have h2 := fun W => ref_in n 1 8 W
  unfold ruleR
  generalize inR r 1 16 = p at *
  generalize inR n 1 8 = q at *
  have H1 := Aside0.mk h1
  have H2 := Aside0.mk h2
  clear h1 h2
  go_enter Tryz.func18, Tryz.ntmps18
  have tok1 : True := trivial
  go_wp2_with (first
    | (go_at_call 33; have _t := tok1; refine (H1.out _).mono ?_; rintro e w1 ⟨rfl, hw⟩; rw [hw]; clear hw tok1; have tok2 : True := trivial)
    | (go_at_call 33; have _t := tok2; refine (H2.out _).mono ?_; rintro e w1 ⟨rfl, hw⟩; rw [hw]; clear hw tok2))
  all_goals go_ret
  all_goals simp_all
def okR (lo hi o : Int) (s : List Int) (i : Nat) : Bool := inR (s.getD i 0) lo hi && ((!(decide (0 < i) && decide (0 < o)) || decide (s.getD (i - 1) 0 ≤ s.getD i 0)) && (!(decide (0 < i) && decide (1 < o)) || (s.getD (i - 1) 0 != s.getD i 0)))
def wordsR (lo hi o : Int) (s : List Int) : Bool := (List.range s.length).all (okR lo hi o s)
theorem wordsR_no {lo hi o : Int} {s : List Int} {k : Nat} (hk : k < s.length) (h : okR lo hi o s k = false) : wordsR lo hi o s = false := by
  unfold wordsR
  rw [List.all_eq_false]
  exact ⟨k, List.mem_range.2 hk, by rw [h]; decide⟩
theorem wordsR_yes {lo hi o : Int} {s : List Int} (h : ∀ k, k < s.length → okR lo hi o s k = true) : wordsR lo hi o s = true := by
  unfold wordsR
  rw [List.all_eq_true]
  exact fun k hk => h k (List.mem_range.1 hk)
theorem ref_words (lo hi o : Int) (ho : o = 0 ∨ o = 1 ∨ o = 2) (A : Option Addr) (c : Nat) (s : List Int) (w : World) (hr : Rd w A s) :
    Calls Tryz.prog 32 #[.slice A s.length c, .int .i64 lo, .int .i64 hi, .int .i64 o] w fun e w' => e = .returned (.bool (wordsR lo hi o s)) ∧ ∃ q, w' = w.drewN q := by
  have hmax := hr.max
  have HR := Aside0.mk hr
  have HI := Aside0.mk (fun x W => ref_in x lo hi W)
  clear hr
  go_enter Tryz.func32, Tryz.ntmps32
  go_wp2
  go_loopg [9] s.length (fun gg v9 wr => ∃ kk q : Nat, kk ≤ s.length ∧ s.length - kk ≤ gg ∧ v9 = .int .i64 kk ∧ wr = w.drewN q ∧ Aside0 (∀ j : Nat, j < kk → okR lo hi o s j = true))
  case atStart => exact ⟨0, 0, Nat.zero_le _, by omega, rfl, rfl, ⟨fun j hj => absurd hj (Nat.not_lt_zero _)⟩⟩
  case round =>
    obtain ⟨kk, q, hkk, hg, rfl, rfl, B⟩ := hrel
    by_cases hlt : kk < s.length
    · obtain ⟨ad, rfl, hc1⟩ := HR.out.at kk hlt
      have HN := Aside0.mk (fun (h : okR lo hi o s kk = true) (j : Nat) (hj : j < kk + 1) => (show okR lo hi o s j = true from by
        by_cases e : j = kk
        · rw [e]; exact h
        · exact B.out j (by omega)))
      have HF := Aside0.mk (fun (h : okR lo hi o s kk = false) => wordsR_no hlt h)
      have hok : okR lo hi o s kk = (inR (s.getD kk 0) lo hi && ((!(decide (0 < kk) && decide (0 < o)) || decide (s.getD (kk - 1) 0 ≤ s.getD kk 0)) && (!(decide (0 < kk) && decide (1 < o)) || (s.getD (kk - 1) 0 != s.getD kk 0)))) := rfl
      have HIx := Aside0.mk (fun W => HI.out (s.getD kk 0) W)
      cases hp : inR (s.getD kk 0) lo hi with
      | false =>
        rw [hp] at HIx hok
        have HFF := Aside0.mk (HF.out (by rw [hok]; rfl))
        generalize s.getD kk 0 = x at *
        clear hp hok HN HF
        go_wp2
        refine wp_region_quiet_lit (by kernel_rfl) (by kernel_rfl) ?_
        repeat (with_reducible refine wpQuiet_step (fun K hK => ?_); go_simp; (try (rw [if_neg ?hn]; (case hn => simp [undef]))); first | (with_reducible refine hK _ ?_; clear hK K) | (apply Exists.intro; refine ⟨fun _ => ?_, hK _ ?_⟩; (go_at_call 33; exact (HIx.out _).mono (fun e w' h => ⟨h.1, _, h.2⟩)); clear hK K))
        with_reducible refine wpQuiet_nil ?_
        intro _ hw'
        obtain ⟨nq, hw''⟩ := hw'
        subst hw''
        all_goals go_wp2
        all_goals go_ret
        all_goals exact ⟨by rw [HFF.out]; rfl, q + nq, by rw [World.drewN_drewN]⟩
      | true =>
        rw [hp, Bool.true_and] at hok
        rw [hp] at HIx
        rcases Nat.eq_zero_or_pos kk with hz | hz
        · have HNN := Aside0.mk (HN.out (by rw [hok, hz]; simp))
          subst hz
          rw [show ad.add 0 = ad from by simp [Addr.add]] at hc1
          generalize s.getD 0 0 = x at *
          clear hp hok HN HF
          go_wp2
          refine wp_region_quiet_lit (by kernel_rfl) (by kernel_rfl) ?_
          repeat (with_reducible refine wpQuiet_step (fun K hK => ?_); go_simp; (try (rw [if_neg ?hn]; (case hn => simp [undef]))); first | (with_reducible refine hK _ ?_; clear hK K) | (apply Exists.intro; refine ⟨fun _ => ?_, hK _ ?_⟩; (go_at_call 33; exact (HIx.out _).mono (fun e w' h => ⟨h.1, _, h.2⟩)); clear hK K))
          with_reducible refine wpQuiet_nil ?_
          intro _ hw'
          obtain ⟨nq, hw''⟩ := hw'
          subst hw''
          all_goals go_wp2
          all_goals go_roundg (s.length - 1)
          all_goals first
            | omega
            | exact ⟨1, _, by omega, by omega, by go_num, rfl, HNN⟩
        · obtain ⟨j, hj⟩ : ∃ j, kk = j + 1 := ⟨kk - 1, by omega⟩
          obtain ⟨ad2, ead, hc0⟩ := HR.out.at j (by omega)
          obtain rfl : ad = ad2 := Option.some.inj ead
          clear ead
          rw [show kk - 1 = j by omega] at hok
          have hpos : decide (0 < kk) = true := by simp [hz]
          rw [hpos, Bool.true_and, Bool.true_and] at hok
          generalize s.getD kk 0 = x at *
          generalize s.getD j 0 = y at *
          have hj1 : IntKind.i64.wrap ((kk : Int) - 1) = (j : Int) := by rw [show (kk : Int) - 1 = (j : Int) by omega]; exact IntWalk.i64_in _ (by omega)
          have hlj : j < s.length := by omega
          have HJ := Aside0.mk hj
          clear hp hj hpos
          rcases ho with rfl | rfl | rfl
          · have HNN := Aside0.mk (HN.out (by rw [hok]; simp))
            clear hok HN HF
            go_wp2
            refine wp_region_quiet_lit (by kernel_rfl) (by kernel_rfl) ?_
            repeat (with_reducible refine wpQuiet_step (fun K hK => ?_); go_simp; (try (rw [if_neg ?hn]; (case hn => simp [undef]))); first | (with_reducible refine hK _ ?_; clear hK K) | (apply Exists.intro; refine ⟨fun _ => ?_, hK _ ?_⟩; (go_at_call 33; exact (HIx.out _).mono (fun e w' h => ⟨h.1, _, h.2⟩)); clear hK K))
            with_reducible refine wpQuiet_nil ?_
            intro _ hw'
            obtain ⟨nq, hw''⟩ := hw'
            subst hw''
            all_goals go_wp2
            all_goals go_roundg (s.length - (kk + 1))
            all_goals first
              | omega
              | exact ⟨kk + 1, _, by omega, by omega, by go_num, rfl, HNN⟩
          · by_cases hxy : x < y
            · have HFF := Aside0.mk (HF.out (by rw [hok]; simp; omega))
              clear hok HN HF
              go_wp2
              refine wp_region_quiet_lit (by kernel_rfl) (by kernel_rfl) ?_
              repeat (with_reducible refine wpQuiet_step (fun K hK => ?_); go_simp; (try (rw [if_neg ?hn]; (case hn => simp [undef]))); first | (with_reducible refine hK _ ?_; clear hK K) | (apply Exists.intro; refine ⟨fun _ => ?_, hK _ ?_⟩; (go_at_call 33; exact (HIx.out _).mono (fun e w' h => ⟨h.1, _, h.2⟩)); clear hK K))
              with_reducible refine wpQuiet_nil ?_
              intro _ hw'
              obtain ⟨nq, hw''⟩ := hw'
              subst hw''
              all_goals go_wp2
              all_goals go_ret
              all_goals exact ⟨by rw [HFF.out]; rfl, q + nq, by rw [World.drewN_drewN]⟩
            · have HNN := Aside0.mk (HN.out (by rw [hok]; simp; omega))
              clear hok HN HF
              go_wp2
              refine wp_region_quiet_lit (by kernel_rfl) (by kernel_rfl) ?_
              repeat (with_reducible refine wpQuiet_step (fun K hK => ?_); go_simp; (try (rw [if_neg ?hn]; (case hn => simp [undef]))); first | (with_reducible refine hK _ ?_; clear hK K) | (apply Exists.intro; refine ⟨fun _ => ?_, hK _ ?_⟩; (go_at_call 33; exact (HIx.out _).mono (fun e w' h => ⟨h.1, _, h.2⟩)); clear hK K))
              with_reducible refine wpQuiet_nil ?_
              intro _ hw'
              obtain ⟨nq, hw''⟩ := hw'
              subst hw''
              all_goals go_wp2
              all_goals go_roundg (s.length - (kk + 1))
              all_goals first
                | omega
                | exact ⟨kk + 1, _, by omega, by omega, by go_num, rfl, HNN⟩
          · by_cases hxy : x < y
            · have HFF := Aside0.mk (HF.out (by rw [hok]; simp; omega))
              clear hok HN HF
              go_wp2
              refine wp_region_quiet_lit (by kernel_rfl) (by kernel_rfl) ?_
              repeat (with_reducible refine wpQuiet_step (fun K hK => ?_); go_simp; (try (rw [if_neg ?hn]; (case hn => simp [undef]))); first | (with_reducible refine hK _ ?_; clear hK K) | (apply Exists.intro; refine ⟨fun _ => ?_, hK _ ?_⟩; (go_at_call 33; exact (HIx.out _).mono (fun e w' h => ⟨h.1, _, h.2⟩)); clear hK K))
              with_reducible refine wpQuiet_nil ?_
              intro _ hw'
              obtain ⟨nq, hw''⟩ := hw'
              subst hw''
              all_goals go_wp2
              all_goals go_ret
              all_goals exact ⟨by rw [HFF.out]; rfl, q + nq, by rw [World.drewN_drewN]⟩
            · by_cases hxe : y = x
              · have HFF := Aside0.mk (HF.out (by rw [hok, hxe]; simp))
                subst hxe
                clear hok HN HF
                go_wp2
                refine wp_region_quiet_lit (by kernel_rfl) (by kernel_rfl) ?_
                repeat (with_reducible refine wpQuiet_step (fun K hK => ?_); go_simp; (try (rw [if_neg ?hn]; (case hn => simp [undef]))); first | (with_reducible refine hK _ ?_; clear hK K) | (apply Exists.intro; refine ⟨fun _ => ?_, hK _ ?_⟩; (go_at_call 33; exact (HIx.out _).mono (fun e w' h => ⟨h.1, _, h.2⟩)); clear hK K))
                with_reducible refine wpQuiet_nil ?_
                intro _ hw'
                obtain ⟨nq, hw''⟩ := hw'
                subst hw''
                all_goals go_wp2
                all_goals go_ret
                all_goals exact ⟨by rw [HFF.out]; rfl, q + nq, by rw [World.drewN_drewN]⟩
              · have HNN := Aside0.mk (HN.out (by rw [hok]; simp [hxe]; omega))
                have hne : (y == x) = false := by simpa using hxe
                clear hok HN HF hxe
                go_wp2
                refine wp_region_quiet_lit (by kernel_rfl) (by kernel_rfl) ?_
                repeat (with_reducible refine wpQuiet_step (fun K hK => ?_); go_simp; (try (rw [if_neg ?hn]; (case hn => simp [undef]))); first | (with_reducible refine hK _ ?_; clear hK K) | (apply Exists.intro; refine ⟨fun _ => ?_, hK _ ?_⟩; (go_at_call 33; exact (HIx.out _).mono (fun e w' h => ⟨h.1, _, h.2⟩)); clear hK K))
                with_reducible refine wpQuiet_nil ?_
                intro _ hw'
                obtain ⟨nq, hw''⟩ := hw'
                subst hw''
                all_goals go_wp2
                all_goals go_roundg (s.length - (kk + 1))
                all_goals first
                  | omega
                  | exact ⟨kk + 1, _, by omega, by omega, by go_num, rfl, HNN⟩
    · obtain rfl : kk = s.length := by omega
      have hall : wordsR lo hi o s = true := wordsR_yes B.out
      go_wp2
      go_ret
      exact ⟨by rw [hall]; rfl, _, rfl⟩
end Go.Proofs.YtiialjmpfeopjaaGreat.Sp
