/- The rules of the specification, walked: tickets, twin stacks: plain lemmas; no condition. -/
import Derived.Test.YtiialjmpfeopjaaGreatSm2
import Derived.Deep.RegionHeld3
import Derived.Deep.AppendLies
namespace Go.Proofs.YtiialjmpfeopjaaGreat.Sp
open Go.RowKit Go.Sort Go.Proofs.YtiialjmpfeopjaaGreatW.PrintWords Go.Proofs.YtiialjmpfeopjaaGreatW.PrintLast Go.Proofs.YtiialjmpfeopjaaGreatW.PrintMore
set_option linter.unusedVariables false
set_option linter.unusedSimpArgs false
set_option maxHeartbeats 8000000
set_option maxRecDepth 100000
def whichA : ActS := ⟨⟨#[103, 101, 116]⟩, 0, 0, 0, 4, false, fun _ _ _ _ => True, whichD⟩
theorem which_calls (w : World) :
    Calls Tryz.prog 57 #[] w fun e w' => ∃ v, e = .returned v ∧ ActV w' v whichA ∧ Below w.heap.size w w' := by
  have hd := which_do w
  have HD := Aside0.mk hd
  have B1 := Aside0.mk (Below.refl w.heap.size w)
  clear hd
  go_enter Tryz.func57, Tryz.ntmps57
  go_wp2
  refine bodyPost_ret (v := .agg #[.string ⟨#[103, 101, 116]⟩, .int .i64 0, .int .i64 0, .int .i64 0, .int .i64 4, .bool false, .func (.func 87) #[] #[]]) (by simp [results, Tryz.results57, go_sem]) rfl ⟨_, rfl, ⟨_, rfl, HD.out.mono (Stays.of ((Below.refl _ _).alloc (Nat.le_refl _) _)) (by simp only [alloc_size]; omega)⟩, B1.out.alloc B1.out.size _⟩
def ticketL (s : List Int) (k : Nat) : List Eff := ((List.range k).filter fun (n : Nat) => !s.contains (n : Int)).map fun (n : Nat) => ((n : Int), insL s (n : Int))
theorem ticketL_succ (s : List Int) (k : Nat) : ticketL s (k + 1) = ticketL s k ++ if s.contains (k : Int) = true then [] else [((k : Int), insL s k)] := by
  unfold ticketL
  rw [List.range_succ, List.filter_append, List.map_append]
  cases h : s.contains (k : Int) <;> simp [List.filter_cons, h, -List.contains_eq_mem]
theorem ticketL_len (s : List Int) (k : Nat) : (ticketL s k).length ≤ k := by
  unfold ticketL
  rw [List.length_map]
  exact Nat.le_trans (List.length_filter_le _ _) (by simp)
def ticketD : Deed := fun s _ _ _ => ticketL s (s.length + 13)
theorem ticket_do (w : World) : DoV w (.func (.func 94) #[] #[]) (fun s _ _ _ => s.Pairwise (· ≤ ·)) ticketD := by
  refine ⟨94, #[], rfl, enters_of Tryz.func94 (by kernel_rfl) rfl, fun W base v s op x y t hW hb1 hb2 ho hl hp => ?_⟩
  have ba := (Below.refl W.heap.size W).alloc (Nat.le_refl _) (.cells #[.string op, .int .i64 x, .int .i64 y] 24 (0, 0))
  show Calls _ _ _ _ fun e W' => ∃ v', e = .returned v' ∧ Effs W' base v' (ticketL s (s.length + 13)) ∧ Below base W W'
  have HS := Aside0.mk (ho.below ba)
  have BA := Aside0.mk (ba.mono hb2)
  have HP := Aside0.mk hp
  have HE0 : Aside0 (Effs (W.alloc (.cells #[.string op, .int .i64 x, .int .i64 y] 24 (0, 0))) base (.slice none 0 0) (ticketL s 0)) := ⟨Kd.R_nil _ _ _ _ _⟩
  obtain ⟨A, c, rfl⟩ := ho.slice
  have hwl : IntKind.i64.wrap ((s.length : Int) + 13) = ((s.length + 13 : Nat) : Int) := by rw [IntWalk.i64_in _ (by omega)]; simp
  clear hW ho hp ba
  go_enter Tryz.func94, Tryz.ntmps94
  go_wp2
  go_loopg [7, 12] (s.length + 13) (fun gg v7 v12 wr => ∃ kk : Nat, kk ≤ s.length + 13 ∧ s.length + 13 - kk ≤ gg ∧ v12 = .int .i64 kk ∧ Aside0 (Effs wr base v7 (ticketL s kk)) ∧ Aside0 (Own wr base (.slice A s.length c) s) ∧ Aside0 (Below base W wr))
  case atStart => exact ⟨0, Nat.zero_le _, by omega, rfl, HE0, HS, BA⟩
  case round =>
    clear HE0 HS BA
    obtain ⟨kk, hkk, hg, rfl, HE, HS, HB⟩ := hrel
    have hbw : base ≤ wr.heap.size := Nat.le_trans hb2 HB.out.size
    by_cases hlt : kk < s.length + 13
    · have hwr : IntKind.i64.wrap ((kk : Int) + 1) = (kk : Int) + 1 := IntWalk.i64_in _ (by omega)
      have HCON := Aside0.mk (contains_calls _ base s (kk : Int) wr HS.out (by omega))
      have HCLO := Aside0.mk (clone_calls A c s wr HS.out.rd (by omega))
      have HSN0 := Aside0.mk (ticketL_succ s kk)
      have HLL := Aside0.mk (ticketL_len s kk)
      have hlt7 : ∀ k, (u7 : Value).ownBlock = some k → k < wr.heap.size := fun k hk => (HE.out.lt k hk).1
      obtain ⟨A7, c7, rfl⟩ := HE.out.slice
      have HLT := Aside0.mk hlt7
      clear hlt7
      obtain ⟨q, hq⟩ : ∃ q, s.contains (kk : Int) = q := ⟨_, rfl⟩
      rw [hq] at HCON HSN0
      clear hq
      cases q with
      | true =>
        clear HCLO
        go_wp2_with (go_at_call 95; refine (HCON.out).mono ?_; rintro e w1 ⟨rfl, rfl⟩)
        go_roundg (s.length + 13 - (kk + 1))
        case measure => omega
        case rel => exact ⟨kk + 1, hlt, by omega, by go_num, by rw [HSN0.out]; simpa using HE, HS, HB⟩
      | false =>
        go_wp2_with (first
          | (go_at_call 95; refine (HCON.out).mono ?_; rintro e w1 ⟨rfl, hw⟩; rw [hw]; clear hw)
          | (go_at_call 40; refine (HCLO.out).mono ?_; rintro e w2 ⟨v2, rfl, ho2, hb2'⟩; have HO2 := Aside0.mk ho2; have B2 := Aside0.mk hb2'; clear ho2 hb2')
          | (go_at_call 55; refine (sortedI_calls _ wr.heap.size s (kk : Int) _ HO2.out B2.out.size (by omega) HP.out).mono ?_; rintro e w3 ⟨v3, rfl, ho3, hb3⟩; obtain ⟨A3, c3, rfl⟩ := ho3.slice; have hbb := B2.out.trans hb3; have HE3 := Aside0.mk (HE.out.below hbb); have HS3 := Aside0.mk (HS.out.below hbb); have BW3 := Aside0.mk (Nat.le_trans hbw hbb.size); have B3 := Aside0.mk (HB.out.trans (hbb.mono hbw)); have EM := Aside0.mk (eff_M (kk : Int) wr.heap.size ho3 hbw); clear hbb ho3 hb3 HE HS HB HO2 B2)
          | ((with_reducible refine gate_builtin (b := .append) (xs := #[.tmp 19, .tmp 26]) rfl ?_); at_builtin; refine Kd.R_append kE (w0 := w3) base rfl (.tmp 19) (.tmp 26) 68 72 (.agg #[.int .i64 0, .slice none 0 0]) 32 rfl Tryz.underlying68 info_eff rfl (by decide) (by omega) _ (ticketL s kk) ((kk : Int), insL s kk) [.int .i64 kk, _] (fun _ => True) (fun k => wr.heap.size ≤ k) rfl rfl EM.out (fun k hk => ⟨trivial, fun e => by have := (HE3.out.lt k e.symm).1; have := HLT.out k e.symm; omega⟩) (fun _ _ => trivial) HE3.out (Below.refl _ _) BW3.out (by have := HLL.out; omega) ?_; intro v1 wn ho hb hg hat; have HEN := Aside0.mk (show Effs wn base v1 _ from ho); have BN := Aside0.mk (B3.out.trans hb); have HSN := Aside0.mk (own_keep HS3.out HE3.out hg); clear ho hb hg hat))
        go_roundg (s.length + 13 - (kk + 1))
        case measure => omega
        case rel => exact ⟨kk + 1, hlt, by omega, by go_num, by rw [HSN0.out]; exact HEN, HSN, BN⟩
    · have hk : kk = s.length + 13 := by omega
      subst hk
      obtain ⟨A7, c7, rfl⟩ := HE.out.slice
      go_wp2
      go_ret
      exact ⟨_, rfl, HE.out, HB.out⟩
def ticketA : ActS := ⟨⟨#[110, 101, 120, 116]⟩, 1, 0, 900, 4, false, fun s _ _ _ => s.Pairwise (· ≤ ·), ticketD⟩
theorem ticket_calls (w : World) :
    Calls Tryz.prog 61 #[] w fun e w' => ∃ v, e = .returned v ∧ ActV w' v ticketA ∧ Below w.heap.size w w' := by
  have hd := ticket_do w
  have HD := Aside0.mk hd
  have B1 := Aside0.mk (Below.refl w.heap.size w)
  clear hd
  go_enter Tryz.func61, Tryz.ntmps61
  go_wp2
  refine bodyPost_ret (v := .agg #[.string ⟨#[110, 101, 120, 116]⟩, .int .i64 1, .int .i64 0, .int .i64 900, .int .i64 4, .bool false, .func (.func 94) #[] #[]]) (by simp [results, Tryz.results61, go_sem]) rfl ⟨_, rfl, ⟨_, rfl, HD.out.mono (Stays.of ((Below.refl _ _).alloc (Nat.le_refl _) _)) (by simp only [alloc_size]; omega)⟩, B1.out.alloc B1.out.size _⟩
end Go.Proofs.YtiialjmpfeopjaaGreat.Sp

namespace Go.Proofs.YtiialjmpfeopjaaGreat.Sp
open Go.RowKit Go.Sort Go.Proofs.YtiialjmpfeopjaaGreatW.PrintWords Go.Proofs.YtiialjmpfeopjaaGreatW.PrintLast Go.Proofs.YtiialjmpfeopjaaGreatW.PrintMore
set_option linter.unusedVariables false
set_option linter.unusedSimpArgs false
set_option maxHeartbeats 8000000
set_option maxRecDepth 100000
theorem cut0 (A : Option Addr) (c n : Nat) (h : n ≤ c) : ∀ W : World, (Instr.slice 22 (.slice A n c) none (some (.int .i64 0)) none).run Tryz.prog W = .ok (.slice A 0 c) W := by
  obtain ⟨i0, hi, _⟩ := Option.map_eq_some_iff.1 info_int
  exact cut_to 22 3 .i64 Tryz.underlying22 hi A n c 0 (by decide) (by omega) h
/-- slices.Grow of a nil slice: room for n numbers, none of them there yet. -/
theorem grow_nil (n : Nat) (W : World) (hn : n ≤ 100000) : Calls Tryz.prog 128 #[.slice none 0 0, .int .i64 n] W fun e w' => ∃ v : Value, e = .returned v ∧ Kd.R (Kd.int .i64) 3 w' W.heap.size (fun _ => True) v [] ∧ Below W.heap.size W w' := by
  by_cases h0 : n = 0
  · subst h0
    go_enter Tryz.func128, Tryz.ntmps128
    go_wp2
    go_ret
    exact ⟨_, rfl, Kd.R_nil _ _ _ _ _, Below.refl _ _⟩
  · have HB := Aside0.mk (Below.refl W.heap.size W)
    have hz := cut0 none 0 0 (Nat.le_refl _)
    have hpos : 0 < n := by omega
    clear h0
    go_enter Tryz.func128, Tryz.ntmps128
    go_wp2_with (at_builtin; refine Kd.R_append_zeros (Kd.int .i64) (w0 := W) W.heap.size rfl (.tmp 20) (.tmp 21) 22 3 3 (.int .i64 0) 8 rfl Tryz.underlying22 Tryz.underlying3 info_int rfl (by decide) (by omega) (.slice none 0 0) [] 0 (n : Int) (fun _ => True) rfl rfl rfl (fun _ _ => trivial) (Kd.R_nil _ _ _ _ _) (by omega) HB.out (Nat.le_refl _) ?aL ?_; (case aL => simp only [List.length_nil]; omega); intro v1 wn ho hb hg hat; obtain ⟨A1, c1, hv⟩ := Kd.R_slice ho; subst hv; have HO := Aside0.mk ho; have HB2 := Aside0.mk hb; have hcut := cut0 A1 c1 _ (Kd.R_reads' ho).2.1; clear ho hb hg hat)
    all_goals go_ret
    exact ⟨_, rfl, Kd.R_take HO.out (m := 0) (by omega), HB2.out⟩

/-- slices.Concat of three lists. -/
theorem concat_three (B : Nat) (A0 A1 A2 : Option Addr) (c0 c1 c2 : Nat) (l0 l1 l2 : List Int) (W : World) (g0 : W.cell? ⟨B, 0, none⟩ = some (.slice A0 l0.length c0)) (g1 : W.cell? ⟨B, 1, none⟩ = some (.slice A1 l1.length c1)) (g2 : W.cell? ⟨B, 2, none⟩ = some (.slice A2 l2.length c2)) (h0 : Rd W A0 l0) (h1 : Rd W A1 l1) (h2 : Rd W A2 l2) (hl0 : l0.length ≤ 2000) (hl1 : l1.length ≤ 2000) (hl2 : l2.length ≤ 2000) :
    Calls Tryz.prog 111 #[.slice (some ⟨B, 0, none⟩) 3 3] W fun e w' => ∃ v : Value, e = .returned v ∧ Own w' W.heap.size v (l0 ++ l1 ++ l2) ∧ Below W.heap.size W w' := by
  have H0 := Aside0.mk h0
  have H1 := Aside0.mk h1
  have H2 := Aside0.mk h2
  have hB : B < W.heap.size := World.block_lt_of_cell? W ⟨B, 0, none⟩ g0
  clear h0 h1 h2
  go_enter Tryz.func111, Tryz.ntmps111
  go_wp2
  go_loopg [3, 5, 11] 3 (fun gg v3 v5 v11 w' => ∃ kk : Nat, kk ≤ 3 ∧ 3 - kk ≤ gg ∧ W = w' ∧ v11 = .int .i64 kk ∧ v3 = .int .i64 ((if kk = 0 then 0 else if kk = 1 then l0.length else if kk = 2 then l0.length + l1.length else l0.length + l1.length + l2.length : Nat) : Int))
  case atStart => exact ⟨0, by omega, by omega, rfl, rfl, rfl⟩
  case round =>
    obtain ⟨kk, hkk, hg, rfl, rfl, rfl⟩ := hrel
    obtain rfl | rfl | rfl | rfl : kk = 0 ∨ kk = 1 ∨ kk = 2 ∨ kk = 3 := by omega
    · simp only [if_true]
      go_wp2
      go_roundg 2
      case measure => omega
      case rel => exact ⟨1, by omega, by omega, rfl, by go_num, by simp⟩
    · rw [if_neg (by decide), if_pos rfl]
      go_wp2
      go_roundg 1
      case measure => omega
      case rel => exact ⟨2, by omega, by omega, rfl, by go_num, by go_num⟩
    · rw [if_neg (by decide), if_neg (by decide), if_pos rfl]
      go_wp2
      go_roundg 0
      case measure => omega
      case rel => exact ⟨3, by omega, by omega, rfl, by go_num, by go_num⟩
    · rw [if_neg (by decide), if_neg (by decide), if_neg (by decide)]
      go_wp2_with (go_at_call 128; refine (grow_nil (l0.length + l1.length + l2.length) _ (by omega)).mono ?_; rintro e w' ⟨v, rfl, ho, hb⟩; have HO6 := Aside0.mk ho; have HB := Aside0.mk hb; clear ho hb)
      go_loopg [6, 8, 27] 3 (fun gg v6 v8 v27 w2 => ∃ kk : Nat, kk ≤ 3 ∧ 3 - kk ≤ gg ∧ v27 = .int .i64 kk ∧ Aside0 (Kd.R (Kd.int .i64) 3 w2 W.heap.size (fun _ => True) v6 (if kk = 0 then [] else if kk = 1 then l0 else if kk = 2 then l0 ++ l1 else l0 ++ l1 ++ l2)) ∧ Aside0 (Below W.heap.size W w2))
      case atStart => exact ⟨0, by omega, by omega, rfl, HO6, HB⟩
      case round =>
        clear HO6 HB
        obtain ⟨kk, hkk, hg2, rfl, HO6, HB⟩ := hrel
        obtain rfl | rfl | rfl | rfl : kk = 0 ∨ kk = 1 ∨ kk = 2 ∨ kk = 3 := by omega
        · have HC := Aside0.mk (Kd.C_below H0.out HB.out)
          have gc0 := (HB.out.cell (p := ⟨B, 0, none⟩) hB).trans g0
          simp only [if_true] at HO6
          go_wp2_with ((with_reducible refine gate_builtin (b := .append) (xs := #[.tmp 31, .tmp 32]) rfl ?_); at_builtin; refine Kd.R_append_rows (Kd.int .i64) (w0 := W) W.heap.size rfl (.tmp 31) (.tmp 32) 22 3 (.int .i64 0) 8 rfl Tryz.underlying22 info_int rfl (by decide) (by omega) u6 [] l0 _ _ _ (fun _ => True) (fun _ => False) rfl rfl ?aO ?aR (fun _ _ h => h) (fun _ h => h.elim) ?aF ?aB ?aS ?aL ?_; (case aR => exact HC.out); (case aB => exact (by repeat (first | (with_reducible first | exact HB.out | apply below_alloc | apply pw_below_drewN | apply below_drew1) | exact HB.out))); (case aF => exact (fun _ _ => trivial)); (case aO => exact (by (with_reducible repeat (first | apply Kd.R_alloc | apply Kd.R_drewN | apply Kd.R_drew)); exact HO6.out)); (case aS => exact (below_size (by repeat (first | (with_reducible first | exact HB.out | apply below_alloc | apply pw_below_drewN | apply below_drew1) | exact HB.out)))); (case aL => (simp only [List.length_nil]; omega)); intro v1 wn ho hb hg hat; have n8_ := Aside0.mk hb; have n9_ := Aside0.mk ho; clear HB; clear HO6; have HB := n8_; have HO6 := n9_; clear n8_ n9_; clear ho hb hg hat)
          go_roundg 2
          case measure => omega
          case rel => exact ⟨1, by omega, by omega, by go_num, HO6, HB⟩
        · have HC := Aside0.mk (Kd.C_below H1.out HB.out)
          have gc0 := (HB.out.cell (p := ⟨B, 1, none⟩) hB).trans g1
          rw [if_neg (by decide), if_pos rfl] at HO6
          go_wp2_with ((with_reducible refine gate_builtin (b := .append) (xs := #[.tmp 31, .tmp 32]) rfl ?_); at_builtin; refine Kd.R_append_rows (Kd.int .i64) (w0 := W) W.heap.size rfl (.tmp 31) (.tmp 32) 22 3 (.int .i64 0) 8 rfl Tryz.underlying22 info_int rfl (by decide) (by omega) u6 l0 l1 _ _ _ (fun _ => True) (fun _ => False) rfl rfl ?aO ?aR (fun _ _ h => h) (fun _ h => h.elim) ?aF ?aB ?aS ?aL ?_; (case aR => exact HC.out); (case aB => exact (by repeat (first | (with_reducible first | exact HB.out | apply below_alloc | apply pw_below_drewN | apply below_drew1) | exact HB.out))); (case aF => exact (fun _ _ => trivial)); (case aO => exact (by (with_reducible repeat (first | apply Kd.R_alloc | apply Kd.R_drewN | apply Kd.R_drew)); exact HO6.out)); (case aS => exact (below_size (by repeat (first | (with_reducible first | exact HB.out | apply below_alloc | apply pw_below_drewN | apply below_drew1) | exact HB.out)))); (case aL => ((try simp only [List.length_append]); omega)); intro v1 wn ho hb hg hat; have n8_ := Aside0.mk hb; have n9_ := Aside0.mk ho; clear HB; clear HO6; have HB := n8_; have HO6 := n9_; clear n8_ n9_; clear ho hb hg hat)
          go_roundg 1
          case measure => omega
          case rel => exact ⟨2, by omega, by omega, by go_num, HO6, HB⟩
        · have HC := Aside0.mk (Kd.C_below H2.out HB.out)
          have gc0 := (HB.out.cell (p := ⟨B, 2, none⟩) hB).trans g2
          rw [if_neg (by decide), if_neg (by decide), if_pos rfl] at HO6
          go_wp2_with ((with_reducible refine gate_builtin (b := .append) (xs := #[.tmp 31, .tmp 32]) rfl ?_); at_builtin; refine Kd.R_append_rows (Kd.int .i64) (w0 := W) W.heap.size rfl (.tmp 31) (.tmp 32) 22 3 (.int .i64 0) 8 rfl Tryz.underlying22 info_int rfl (by decide) (by omega) u6 (l0 ++ l1) l2 _ _ _ (fun _ => True) (fun _ => False) rfl rfl ?aO ?aR (fun _ _ h => h) (fun _ h => h.elim) ?aF ?aB ?aS ?aL ?_; (case aR => exact HC.out); (case aB => exact (by repeat (first | (with_reducible first | exact HB.out | apply below_alloc | apply pw_below_drewN | apply below_drew1) | exact HB.out))); (case aF => exact (fun _ _ => trivial)); (case aO => exact (by (with_reducible repeat (first | apply Kd.R_alloc | apply Kd.R_drewN | apply Kd.R_drew)); exact HO6.out)); (case aS => exact (below_size (by repeat (first | (with_reducible first | exact HB.out | apply below_alloc | apply pw_below_drewN | apply below_drew1) | exact HB.out)))); (case aL => ((try simp only [List.length_append]); omega)); intro v1 wn ho hb hg hat; have n8_ := Aside0.mk hb; have n9_ := Aside0.mk ho; clear HB; clear HO6; have HB := n8_; have HO6 := n9_; clear n8_ n9_; clear ho hb hg hat)
          go_roundg 0
          case measure => omega
          case rel => exact ⟨3, by omega, by omega, by go_num, HO6, HB⟩
        · rw [if_neg (by decide), if_neg (by decide), if_neg (by decide)] at HO6
          go_wp2
          go_ret
          exact ⟨_, rfl, Own.of_R HO6.out, HB.out⟩
end Go.Proofs.YtiialjmpfeopjaaGreat.Sp

namespace Go.Proofs.YtiialjmpfeopjaaGreat.Sp
open Go.RowKit Go.Sort Go.Proofs.YtiialjmpfeopjaaGreatW.PrintWords Go.Proofs.YtiialjmpfeopjaaGreatW.PrintLast Go.Proofs.YtiialjmpfeopjaaGreatW.PrintMore
set_option linter.unusedVariables false
set_option linter.unusedSimpArgs false
set_option maxHeartbeats 8000000
set_option maxRecDepth 100000
def Apart (v u : Value) : Prop := v.ownBlock = none ∨ v.ownBlock ≠ u.ownBlock
theorem Apart.of {w1 w2 w3 : World} {b : Nat} {v u : Value} {s t : List Int} (h : Own w1 b v s) (h2 : Own w3 w2.heap.size u t) (hz : w1.heap.size ≤ w2.heap.size) : Apart v u := by
  cases e : v.ownBlock with
  | none => exact .inl e
  | some k =>
    refine .inr fun e2 => ?_
    have := h.lt k e
    have := h2.base_le k (e2.symm.trans e)
    omega
theorem mid_run (A : Option Addr) (c : Nat) (s : List Int) (i j : Nat) (hij : i ≤ j) (hj : j ≤ s.length) (hc : s.length ≤ c) :
    ∃ A' : Option Addr, (∀ W : World, (Instr.slice 22 (.slice A s.length c) (some (.int .i64 i)) (some (.int .i64 j)) none).run Tryz.prog W = .ok (.slice A' ((s.take j).drop i).length (c - i)) W) ∧ (∀ w : World, Rd w A s → Rd w A' ((s.take j).drop i)) ∧ ((s.take j).drop i).length ≤ c - i := by
  obtain ⟨i0, hi, hz⟩ := Option.map_eq_some_iff.1 info_int
  simp only [Prod.mk.injEq] at hz
  have hl : ((s.take j).drop i).length = j - i := by rw [List.length_drop, List.length_take]; omega
  refine ⟨if c = i then A else A.map (·.add (i * 1)), fun W => ?_, fun w h => Kd.C_mid (c := c) h hij hj hc, by omega⟩
  have := cut_mid 22 3 .i64 .i64 Tryz.underlying22 hi 1 hz.2.1 A s.length c (i : Int) (j : Int) (by omega) (by omega) (by omega) hc W
  rw [Int.toNat_natCast, Int.toNat_natCast] at this
  rw [this, hl]
theorem clone_then {W X : World} {A : Option Addr} {s : List Int} (c : Nat) (hX : Below W.heap.size W X) (hr : Rd W A s) (hl : s.length ≤ 1000000) :
    Calls Tryz.prog 40 #[.slice A s.length c] X fun e w1 => ∃ v, e = .returned v ∧ Own w1 W.heap.size v s ∧ Below W.heap.size W w1 :=
  (clone_calls A c s X (hr.below hX) hl).mono fun _ _ ⟨v, e, ho, hb⟩ => ⟨v, e, ho.lower hX.size, hX.trans (hb.mono hX.size)⟩
theorem clone_after {W w1 X : World} {A : Option Addr} {a b : List Int} {va : Value} (c : Nat) (h1 : Own w1 W.heap.size va a) (hX : Below w1.heap.size w1 X) (hW : Below W.heap.size W w1) (hr : Rd W A b) (hl : b.length ≤ 1000000) :
    Calls Tryz.prog 40 #[.slice A b.length c] X fun e w2 => ∃ vb, e = .returned vb ∧ Own w2 W.heap.size va a ∧ Own w2 W.heap.size vb b ∧ Apart va vb ∧ Below W.heap.size W w2 :=
  (clone_calls A c b X ((hr.below hW).below hX) hl).mono fun _ _ ⟨v, e, ho, hb⟩ => ⟨v, e, (h1.below hX).below hb, ho.lower (Nat.le_trans hW.size hX.size), Apart.of h1 ho hX.size, (hW.trans (hX.mono hW.size)).trans (hb.mono (Nat.le_trans hW.size hX.size))⟩
theorem stacks_calls (W : World) (base : Nat) (v : Value) (s : List Int) (n : Nat) (ho : Own W base v s) (hn : s.getD 0 0 = (n : Int)) (h2 : n + 1 ≤ s.length) (hl : s.length ≤ 1000) :
    Calls Tryz.prog 109 #[v] W fun e W' => ∃ va vb, e = .returned (.tuple #[va, vb]) ∧ Own W' W.heap.size va ((s.take (n + 1)).drop 1) ∧ Own W' W.heap.size vb (s.drop (n + 1)) ∧ Apart va vb ∧ Below W.heap.size W W' := by
  obtain ⟨bv, cp, rfl, hlt, hc⟩ := ho.cellAt 0 (by omega)
  rw [hn] at hc
  have hcp : s.length ≤ cp := (Kd.R_reads' ho.R).2.1
  obtain ⟨A1, hr1, hrd1, _⟩ := mid_run (some ⟨bv, 0, none⟩) cp s 1 (n + 1) (by omega) h2 hcp
  obtain ⟨A2, hr2, hrd2, _⟩ := rest_run (some ⟨bv, 0, none⟩) cp s (n + 1) h2 hcp
  have e1 : ((n + 1 : Nat) : Int) = 1 + (n : Int) := by omega
  have e2 : ((1 : Nat) : Int) = 1 := rfl
  rw [e1] at hr1 hr2
  rw [e2] at hr1
  have R1 := Aside0.mk (hrd1 W ho.rd)
  have R2 := Aside0.mk (hrd2 W ho.rd)
  have hw : IntKind.i64.wrap (1 + (n : Int)) = 1 + (n : Int) := IntWalk.i64_in _ (by omega)
  have l1 : ((s.take (n + 1)).drop 1).length ≤ 1000000 := by rw [List.length_drop, List.length_take]; omega
  have l2 : (s.drop (n + 1)).length ≤ 1000000 := by rw [List.length_drop]; omega
  have B0 := Aside0.mk (Below.refl W.heap.size W)
  have HLT := Aside0.mk hlt
  have tok1 : True := trivial
  have hpz : (0 : Int) < (s.length : Int) := by omega
  have hpn : 0 < s.length := by omega
  clear ho hrd1 hrd2 hn e1 e2
  generalize (s.take (n + 1)).drop 1 = a at *
  generalize s.drop (n + 1) = b at *
  go_enter Tryz.func109, Tryz.ntmps109
  go_wp2
  go_region_held3 (fun w' => w'.cell? ⟨bv, 0, none⟩ = some (.int .i64 n)) (first | go_keep | exact hc | exact hc1 | exact hc2) (first
    | (go_at_call 40; have _t := tok1; refine (clone_then (W := W) (A := A1) (s := a) _ (by repeat (first | exact Below.refl _ _ | apply pw_below_drewN | apply below_drew1)) R1.out l1).mono ?_; rintro e w1 ⟨va, rfl, ho1, hb1⟩; have HO1 := Aside0.mk ho1; have B1 := Aside0.mk hb1; have hc1 := (B1.out.cell (p := ⟨bv, 0, none⟩) HLT.out).trans hc; clear ho1 hb1 tok1 _t)
    | (go_at_call 40; refine (clone_after (A := A2) (b := b) _ HO1.out (by repeat (first | exact Below.refl _ _ | apply pw_below_drewN | apply below_drew1)) B1.out R2.out l2).mono ?_; rintro e w2 ⟨vb, rfl, ho1, ho2, hap, hb2⟩; have AP := Aside0.mk hap; have HO1' := Aside0.mk ho1; have HO2 := Aside0.mk ho2; have B2 := Aside0.mk hb2; have hc2 := (B2.out.cell (p := ⟨bv, 0, none⟩) HLT.out).trans hc; clear ho1 ho2 hap hb2))
  all_goals go_wp2
  all_goals go_ret2
  all_goals exact ⟨_, _, rfl, HO1'.out, HO2.out, AP.out, B2.out⟩
end Go.Proofs.YtiialjmpfeopjaaGreat.Sp

namespace Go.Proofs.YtiialjmpfeopjaaGreat.Sp
open Go.RowKit Go.Sort Go.Proofs.YtiialjmpfeopjaaGreatW.PrintWords Go.Proofs.YtiialjmpfeopjaaGreatW.PrintLast Go.Proofs.YtiialjmpfeopjaaGreatW.PrintMore
set_option linter.unusedVariables false
set_option linter.unusedSimpArgs false
set_option maxHeartbeats 8000000
set_option maxRecDepth 100000
theorem joined_calls (W : World) (A0 A1 : Option Addr) (c0 c1 : Nat) (a b : List Int) (ha : Rd W A0 a) (hb : Rd W A1 b) (hla : a.length ≤ 2000) (hlb : b.length ≤ 2000) :
    Calls Tryz.prog 110 #[.slice A0 a.length c0, .slice A1 b.length c1] W fun e W' => ∃ v, e = .returned v ∧ Own W' W.heap.size v ((a.length : Int) :: (a ++ b)) ∧ Below W.heap.size W W' := by
  have b1 := (Below.refl W.heap.size W).alloc (Nat.le_refl _) (.cells #[.int .i64 (a.length : Int)] 3 (0, 0))
  have b2 := b1.alloc b1.size (.cells #[.slice (some ⟨W.heap.size, 0, none⟩) 1 1, .slice A0 a.length c0, .slice A1 b.length c1] 22 (0, 0))
  have o1 := own_one W W.heap.size (a.length : Int) (Nat.le_refl _)
  have HR0 := Aside0.mk ((o1.below ((Below.refl _ _).alloc (Nat.le_refl _) (.cells #[.slice (some ⟨W.heap.size, 0, none⟩) 1 1, .slice A0 a.length c0, .slice A1 b.length c1] 22 (0, 0)))).rd)
  have HRA := Aside0.mk (ha.below b2)
  have HRB := Aside0.mk (hb.below b2)
  have hn := heap_alloc_new (W.alloc (.cells #[.int .i64 (a.length : Int)] 3 (0, 0))) (.cells #[.slice (some ⟨W.heap.size, 0, none⟩) 1 1, .slice A0 a.length c0, .slice A1 b.length c1] 22 (0, 0))
  rw [alloc_size] at hn
  have G0 := Aside0.mk (show _ = some (Value.slice (some ⟨W.heap.size, 0, none⟩) [(a.length : Int)].length 1) from Go.Lib.cell_of_heap hn 0)
  have G1 := Aside0.mk (show _ = some (Value.slice A0 a.length c0) from Go.Lib.cell_of_heap hn 1)
  have G2 := Aside0.mk (show _ = some (Value.slice A1 b.length c1) from Go.Lib.cell_of_heap hn 2)
  have B2 := Aside0.mk b2
  clear b1 b2 o1 ha hb hn
  go_enter Tryz.func110, Tryz.ntmps110
  go_wp2_with (go_at_call 111; go_loud (refine (concat_three _ (some ⟨W.heap.size, 0, none⟩) A0 A1 1 c0 c1 [(a.length : Int)] a b _ G0.out G1.out G2.out HR0.out HRA.out HRB.out (by simp) hla hlb).mono ?_); rintro e w2 ⟨v, rfl, ho, hb⟩; have HO := Aside0.mk (ho.lower B2.out.size); have HB := Aside0.mk (B2.out.trans (hb.mono B2.out.size)); clear ho hb)
  go_ret
  exact ⟨_, rfl, HO.out, HB.out⟩
def popR (a : List Int) : Int := if a = [] then -1 else a.getD (a.length - 1) 0
def popL (a : List Int) : List Int := a.take (a.length - 1)
theorem pop_calls (W : World) (base : Nat) (v : Value) (a : List Int) (ho : Own W base v a) (hl : a.length ≤ 2000) :
    Calls Tryz.prog 112 #[v] W fun e W' => ∃ v', e = .returned (.tuple #[.int .i64 (popR a), v', .bool (decide (a ≠ []))]) ∧ Own W' base v' (popL a) ∧ v'.ownBlock = v.ownBlock ∧ ∃ q, W' = W.drewN q := by
  by_cases hz : a = []
  · subst hz
    obtain ⟨A, c, rfl⟩ := ho.slice
    have HO := Aside0.mk ho
    clear ho
    go_enter Tryz.func112, Tryz.ntmps112
    go_wp2
    refine bodyPost_ret (v := .tuple #[.int .i64 (-1), .slice A 0 c, .bool false]) (by simp [results, Tryz.results112, go_sem]) rfl ⟨_, rfl, HO.out, rfl, 0, rfl⟩
  · have hpos : 0 < a.length := List.length_pos_iff.2 hz
    have e1 : popR a = a.getD (a.length - 1) 0 := by unfold popR; rw [if_neg hz]
    have e2 : decide (a ≠ []) = true := decide_eq_true hz
    rw [e1, e2]
    obtain ⟨m, hm⟩ : ∃ m, a.length = m + 1 := ⟨a.length - 1, by omega⟩
    have e3 : a.length - 1 = m := by omega
    unfold popL
    rw [e3]
    obtain ⟨bv, cp, rfl, hlt, hc⟩ := ho.cellAt m (by omega)
    have hcp : a.length ≤ cp := (Kd.R_reads' ho.R).2.1
    have HT := Aside0.mk (own_cut ho m (by omega))
    obtain ⟨i0, hi, hz1⟩ := Option.map_eq_some_iff.1 info_int
    have hrun : ∀ W : World, (Instr.slice 22 (.slice (some ⟨bv, 0, none⟩) a.length cp) none (some (.int .i64 (m : Int))) none).run Tryz.prog W = .ok (.slice (some ⟨bv, 0, none⟩) m cp) W := by
      intro W
      have := cut_to 22 3 .i64 Tryz.underlying22 hi (some ⟨bv, 0, none⟩) a.length cp (m : Int) (by omega) (by omega) hcp W
      rwa [Int.toNat_natCast] at this
    have hw : IntKind.i64.wrap ((a.length : Int) - 1) = (m : Int) := by rw [IntWalk.i64_in _ (by omega)]; omega
    have hz0 : ((a.length : Int) == 0) = false := by simp; omega
    generalize a.getD m 0 = x at *
    have hm1 : (m : Int) < (a.length : Int) := by omega
    have hm2 : m < a.length := by omega
    have hm3 : (0 : Int) ≤ (m : Int) := by omega
    clear ho hz e1 e2 e3 hi hz1 hm
    go_enter Tryz.func112, Tryz.ntmps112
    go_wp2
    go_quiet (fail)
    all_goals go_wp2
    all_goals refine bodyPost_ret (v := .tuple #[.int .i64 x, .slice (some ⟨bv, 0, none⟩) m cp, .bool true]) (by simp [results, Tryz.results112, go_sem]) rfl ⟨_, rfl, HT.out, rfl, _, rfl⟩
end Go.Proofs.YtiialjmpfeopjaaGreat.Sp

namespace Go.Proofs.YtiialjmpfeopjaaGreat.Sp
open Go.RowKit Go.Sort Go.Proofs.YtiialjmpfeopjaaGreatW.PrintWords Go.Proofs.YtiialjmpfeopjaaGreatW.PrintLast Go.Proofs.YtiialjmpfeopjaaGreatW.PrintMore
set_option linter.unusedVariables false
set_option linter.unusedSimpArgs false
set_option maxHeartbeats 8000000
set_option maxRecDepth 100000
def TwoV (w : World) (V : Value) (F : List Int → List Int → Int × List Int × List Int) : Prop := ∃ g cap, V = .func (.func g) #[] cap ∧ (∀ args w, (callFunc g args).run Tryz.prog w = .ok (.enter g args) w) ∧
  ∀ (W : World) (base : Nat) (va vb : Value) (a b : List Int), Stays w W → w.heap.size ≤ base → base ≤ W.heap.size → Own W base va a → Own W base vb b → Apart va vb → a.length ≤ 1000 → b.length ≤ 1000 →
    Calls Tryz.prog g (#[va, vb] ++ cap) W fun e W' => ∃ va' vb', e = .returned (.tuple #[.int .i64 (F a b).1, va', vb']) ∧ Own W' base va' (F a b).2.1 ∧ Own W' base vb' (F a b).2.2 ∧ Below base W W'
theorem Own.drewN {w : World} {b q : Nat} {v : Value} {s : List Int} (h : Own w b v s) : Own (w.drewN q) b v s := h
theorem geta_two {w : World} {b : Nat} (hbox : w.heap[b]? = some (.cells #[.func (.func 112) #[] #[]] 127 (0, 0))) : TwoV w (.func (.func 117) #[] #[.pointer (some ⟨b, 0, none⟩)]) (fun x y => (popR x, popL x, y)) := by
  refine ⟨117, _, rfl, enters_of Tryz.func117 (by kernel_rfl) rfl, fun W base va vb x y hW hb1 hb2 ho1 ho2 hap hl1 hl2 => ?_⟩
  have cb := into_at hbox hW (by decide) (by decide)
  have H1 := Aside0.mk ho1
  have H2 := Aside0.mk ho2
  have eg := enters_of Tryz.func112 (by kernel_rfl) rfl
  clear hW hbox hap
  dsimp only
  go_enter Tryz.func117, Tryz.ntmps117
  go_wp2_with ((first | go_at_call 112 | go_at_fn 112); refine (pop_calls _ base _ x H1.out (by omega)).mono ?_; rintro e w1 ⟨v1, rfl, ho, he, q, rfl⟩; have H3 := Aside0.mk ho; clear ho he)
  refine bodyPost_ret (v := .tuple #[.int .i64 (popR x), v1, vb]) (by simp [results, Tryz.results117, go_sem]) rfl ⟨_, _, rfl, H3.out, H2.out, by repeat (first | exact Below.refl _ _ | apply pw_below_drewN)⟩
theorem getb_two {w : World} {b : Nat} (hbox : w.heap[b]? = some (.cells #[.func (.func 112) #[] #[]] 127 (0, 0))) : TwoV w (.func (.func 118) #[] #[.pointer (some ⟨b, 0, none⟩)]) (fun x y => (popR y, x, popL y)) := by
  refine ⟨118, _, rfl, enters_of Tryz.func118 (by kernel_rfl) rfl, fun W base va vb x y hW hb1 hb2 ho1 ho2 hap hl1 hl2 => ?_⟩
  have cb := into_at hbox hW (by decide) (by decide)
  have H1 := Aside0.mk ho1
  have H2 := Aside0.mk ho2
  have eg := enters_of Tryz.func112 (by kernel_rfl) rfl
  clear hW hbox hap
  dsimp only
  go_enter Tryz.func118, Tryz.ntmps118
  go_wp2_with ((first | go_at_call 112 | go_at_fn 112); refine (pop_calls _ base _ y H2.out (by omega)).mono ?_; rintro e w1 ⟨v1, rfl, ho, he, q, rfl⟩; have H3 := Aside0.mk ho; clear ho he)
  refine bodyPost_ret (v := .tuple #[.int .i64 (popR y), va, v1]) (by simp [results, Tryz.results118, go_sem]) rfl ⟨_, _, rfl, H1.out, H3.out, by repeat (first | exact Below.refl _ _ | apply pw_below_drewN)⟩
end Go.Proofs.YtiialjmpfeopjaaGreat.Sp

namespace Go.Proofs.YtiialjmpfeopjaaGreat.Sp
open Go.RowKit Go.Sort Go.Proofs.YtiialjmpfeopjaaGreatW.PrintWords Go.Proofs.YtiialjmpfeopjaaGreatW.PrintLast Go.Proofs.YtiialjmpfeopjaaGreatW.PrintMore
set_option linter.unusedVariables false
set_option linter.unusedSimpArgs false
set_option maxHeartbeats 8000000
set_option maxRecDepth 100000
theorem Apart.cong {v v1 u : Value} (he : v1.ownBlock = v.ownBlock) (h : Apart v u) : Apart v1 u := by
  unfold Apart at *
  rw [he]
  exact h
theorem move_two {w : World} {b : Nat} (hbox : w.heap[b]? = some (.cells #[.func (.func 112) #[] #[]] 127 (0, 0))) : TwoV w (.func (.func 119) #[] #[.pointer (some ⟨b, 0, none⟩)]) (fun x y => (popR x, popL x, if x = [] then y else y ++ [popR x])) := by
  refine ⟨119, _, rfl, enters_of Tryz.func119 (by kernel_rfl) rfl, fun W base va vb x y hW hb1 hb2 ho1 ho2 hap hl1 hl2 => ?_⟩
  have cb := into_at hbox hW (by decide) (by decide)
  have H1 := Aside0.mk ho1
  have H2 := Aside0.mk ho2
  have AP := Aside0.mk hap
  have HB2 := Aside0.mk hb2
  have HY := Aside0.mk hl2
  clear hW hbox hap ho1 ho2 hl2
  dsimp only
  by_cases hz : x = []
  · have ed : decide (x ≠ []) = false := by simp [hz]
    rw [if_pos hz]
    clear hz
    go_enter Tryz.func119, Tryz.ntmps119
    go_wp2_with (go_at_call 112; refine (pop_calls _ base _ x H1.out (by omega)).mono ?_; rw [ed]; rintro e w1 ⟨v1, rfl, ho, he, q, rfl⟩; have H3 := Aside0.mk ho; clear ho he)
    refine bodyPost_ret (v := .tuple #[.int .i64 (popR x), v1, vb]) (by simp [results, Tryz.results119, go_sem]) rfl ⟨_, _, rfl, H3.out, H2.out, by repeat (first | exact Below.refl _ _ | apply pw_below_drewN)⟩
  · have ed : decide (x ≠ []) = true := decide_eq_true hz
    rw [if_neg hz]
    clear hz
    obtain ⟨A1, c1, rfl⟩ := H2.out.slice
    go_enter Tryz.func119, Tryz.ntmps119
    go_wp2_with (first
      | (go_at_call 112; refine (pop_calls _ base _ x H1.out (by omega)).mono ?_; rw [ed]; rintro e w1 ⟨v1, rfl, ho, he, q, rfl⟩; have H3 := Aside0.mk ho; have AP1 := Aside0.mk (Apart.cong he AP.out); clear ho he)
      | ((with_reducible refine gate_builtin (b := .append) (xs := #[.tmp 19, .tmp 21]) rfl ?_); at_builtin; refine Kd.R_append (Kd.int .i64) (w0 := W) base rfl (.tmp 19) (.tmp 21) 22 3 (.int .i64 0) 8 rfl Tryz.underlying22 info_int rfl (by decide) (by omega) _ y (popR x) [.int .i64 (popR x)] (fun _ => True) (fun _ => False) rfl rfl ?aP (fun _ hk => hk.elim) (fun _ _ => trivial) H2.out.R (pw_below_drewN (Below.refl _ _) _) HB2.out (by have := HY.out; omega) ?_; (case aP => exact rfl); intro v2 wn ho hb hg hat; have H4 := Aside0.mk (show Own wn base v2 _ from Own.of_R ho); have H5 := Aside0.mk (show Own wn base v1 _ from own_other H3.out hg AP1.out); have BN := Aside0.mk hb; clear ho hb hg hat))
    refine bodyPost_ret (v := .tuple #[.int .i64 (popR x), v1, v2]) (by simp [results, Tryz.results119, go_sem]) rfl ⟨_, _, rfl, H5.out, H4.out, BN.out⟩
theorem putb_calls (v : Value) (base : Nat) (s : List Int) (x : Int) (w : World) (h : Own w base v s) (hb : base ≤ w.heap.size) (hl : s.length ≤ 100000) :
    Calls Tryz.prog 116 #[v, .int .i64 x] w fun e w' => ∃ v', e = .returned v' ∧ Own w' base v' (s ++ [x]) ∧ Below base w w' := by
  have HO := Aside0.mk h.R
  obtain ⟨A, c, rfl⟩ := h.slice
  clear h
  go_enter Tryz.func116, Tryz.ntmps116
  go_wp2_with ((with_reducible refine gate_builtin (b := .append) (xs := #[.tmp 5, .tmp 7]) rfl ?_); at_builtin; refine Kd.R_append (Kd.int .i64) (w0 := w) base rfl (.tmp 5) (.tmp 7) 22 3 (.int .i64 0) 8 rfl Tryz.underlying22 info_int rfl (by decide) (by omega) _ s x [.int .i64 x] (fun _ => True) (fun _ => False) rfl rfl ?aP (fun _ hk => hk.elim) (fun _ _ => trivial) HO.out (Below.refl _ _) hb (by omega) ?_; (case aP => exact rfl); intro v1 wn ho hb hg hat; have H1 := Aside0.mk (show Own wn base v1 _ from Own.of_R ho); have BN := Aside0.mk hb; clear ho hb hg hat)
  go_ret
  exact ⟨_, rfl, H1.out, BN.out⟩
theorem putb_into (w : World) : Into w (.func (.func 116) #[] #[]) (fun _ _ => True) (fun s x => s ++ [x]) :=
  ⟨116, #[], rfl, enters_of Tryz.func116 (by kernel_rfl) rfl, fun W base v s x _ _ h2 ho hl _ => putb_calls v base s x W ho h2 (by omega)⟩
end Go.Proofs.YtiialjmpfeopjaaGreat.Sp

namespace Go.Proofs.YtiialjmpfeopjaaGreat.Sp
open Go.RowKit Go.Sort Go.Proofs.YtiialjmpfeopjaaGreatW.PrintWords Go.Proofs.YtiialjmpfeopjaaGreatW.PrintLast Go.Proofs.YtiialjmpfeopjaaGreatW.PrintMore
set_option linter.unusedVariables false
set_option linter.unusedSimpArgs false
set_option maxHeartbeats 8000000
set_option maxRecDepth 100000
def twA (s : List Int) : List Int := (s.take ((s.getD 0 0).toNat + 1)).drop 1
def twB (s : List Int) : List Int := s.drop ((s.getD 0 0).toNat + 1)
def twPre (s : List Int) : Prop := 0 ≤ s.getD 0 0 ∧ (s.getD 0 0).toNat + 1 ≤ s.length
def joinL (a b : List Int) : List Int := (a.length : Int) :: (a ++ b)
def noneD (F : List Int → List Int → Int × List Int × List Int) : Deed := fun s _ _ _ => [((F (twA s) (twB s)).1, joinL (F (twA s) (twB s)).2.1 (F (twA s) (twB s)).2.2)]
theorem none1_calls {w : World} {V : Value} {F : List Int → List Int → Int × List Int × List Int} (hT : TwoV w V F) (hF : ∀ a b, a.length ≤ 1000 → b.length ≤ 1000 → (F a b).2.1.length ≤ 2000 ∧ (F a b).2.2.length ≤ 2000) {b0 b1 b2 : Nat}
    (hbox : w.heap[b0]? = some (.cells #[V] 128 (0, 0))) (hst : w.heap[b1]? = some (.cells #[.func (.func 109) #[] #[]] 124 (0, 0))) (hjo : w.heap[b2]? = some (.cells #[.func (.func 110) #[] #[]] 126 (0, 0))) :
    DoV w (.func (.func 114) #[] #[.pointer (some ⟨b0, 0, none⟩), .pointer (some ⟨b1, 0, none⟩), .pointer (some ⟨b2, 0, none⟩)]) (fun s _ _ _ => twPre s) (noneD F) := by
  refine ⟨114, _, rfl, enters_of Tryz.func114 (by kernel_rfl) rfl, fun W base v s op x y t hW hb1 hb2 ho hl hp => ?_⟩
  obtain ⟨p0, p1⟩ := hp
  obtain ⟨g, cap, rfl, eg, hc⟩ := hT
  have ba := (Below.refl W.heap.size W).alloc (Nat.le_refl _) (.cells #[.string op, .int .i64 x, .int .i64 y] 24 (0, 0))
  have c0 := into_at hbox (hW.trans (Stays.of ba)) (by decide) (by decide)
  have c1 := into_at hst (hW.trans (Stays.of ba)) (by decide) (by decide)
  have hst' : ∀ X, Below W.heap.size W X → Calls Tryz.prog 109 #[v] X fun e W' => ∃ va vb, e = .returned (.tuple #[va, vb]) ∧ Own W' W.heap.size va (twA s) ∧ Own W' W.heap.size vb (twB s) ∧ Apart va vb ∧ Below W.heap.size W W' := fun X hX =>
    (stacks_calls X base v s (s.getD 0 0).toNat (ho.below hX) (Int.toNat_of_nonneg p0).symm p1 hl).mono fun _ _ ⟨va, vb, e, h1, h2, h3, h4⟩ => ⟨va, vb, e, h1.lower hX.size, h2.lower hX.size, h3, hX.trans (h4.mono hX.size)⟩
  show Calls _ _ _ _ fun e W' => ∃ v', e = .returned v' ∧ Effs W' base v' [((F (twA s) (twB s)).1, joinL (F (twA s) (twB s)).2.1 (F (twA s) (twB s)).2.2)] ∧ Below base W W'
  have la : (twA s).length ≤ 1000 := by unfold twA; rw [List.length_drop, List.length_take]; omega
  have lb : (twB s).length ≤ 1000 := by unfold twB; rw [List.length_drop]; omega
  have hF' := hF _ _ la lb
  have HST := Aside0.mk hst'
  have HG := Aside0.mk (fun W base va vb h1 h2 h3 h4 h5 h6 => hc W base va vb (twA s) (twB s) h1 h2 h3 h4 h5 h6 la lb)
  have HF := Aside0.mk hF'
  have HW := Aside0.mk hW
  have BW := Aside0.mk ba
  have tok1 : True := trivial
  have BX := Aside0.mk hbox
  have BS := Aside0.mk hst
  have BJ := Aside0.mk hjo
  have HWZ := Aside0.mk (Nat.le_trans hb1 hb2)
  have HB2 := Aside0.mk hb2
  have ST0 := Aside0.mk (hW.trans (Stays.of ba))
  clear hW ho ba hc hst' hF hF' la lb hbox hst hjo p0 p1 hb1 hb2
  generalize F (twA s) (twB s) = r at *
  generalize twA s = a at *
  generalize twB s = b at *
  obtain ⟨r1, ra, rb⟩ := r
  dsimp only at HG HF ⊢
  go_enter Tryz.func114, Tryz.ntmps114
  go_wp2
  go_region_held3 (fun w' => w'.cell? ⟨b0, 0, none⟩ = some (.func (.func g) #[] cap) ∧ w'.cell? ⟨b1, 0, none⟩ = some (.func (.func 109) #[] #[])) (first | go_keep | exact ⟨c0, c1⟩ | exact ⟨d0, d1⟩ | exact ⟨f0, f1⟩) (first
    | (go_at_call 109; have _t := tok1; refine (HST.out _ (by repeat (first | exact BW.out | apply pw_below_drewN | apply below_drew1))).mono ?_; rintro e w1 ⟨va, vb, rfl, h1, h2, h3, h4⟩; have HA := Aside0.mk h1; have HB := Aside0.mk h2; have HAP := Aside0.mk h3; have B1 := Aside0.mk h4; have d0 := into_at BX.out (HW.out.trans (Stays.of h4)) (by decide) (by decide); have d1 := into_at BS.out (HW.out.trans (Stays.of h4)) (by decide) (by decide); clear h1 h2 h3 h4 tok1 _t)
    | (go_at_fn g; refine (HG.out _ W.heap.size va vb (HW.out.trans (Stays.of (by repeat (first | exact B1.out | apply pw_below_drewN | apply below_drew1)))) HWZ.out (by exact B1.out.size) (by repeat (first | exact HA.out | apply Own.drew_ | apply Own.drewN_)) (by repeat (first | exact HB.out | apply Own.drew_ | apply Own.drewN_)) HAP.out).mono ?_; rintro e w2 ⟨va', vb', rfl, h1, h2, h3⟩; have HA2 := Aside0.mk h1; have HB2' := Aside0.mk h2; have B2 := Aside0.mk (show Below W.heap.size W w2 from Below.trans (by repeat (first | exact B1.out | apply pw_below_drewN | apply below_drew1)) h3); have f0 := into_at BX.out (HW.out.trans (Stays.of B2.out)) (by decide) (by decide); have f1 := into_at BS.out (HW.out.trans (Stays.of B2.out)) (by decide) (by decide); clear h1 h2 h3))
  all_goals
    obtain ⟨A0, e0, rfl⟩ := HA2.out.slice
    obtain ⟨A1, e1, rfl⟩ := HB2'.out.slice
    have f2 := into_at BJ.out (HW.out.trans (Stays.of B2.out)) (by decide) (by decide)
    go_wp2_with (first
      | (go_at_call 110; refine (joined_calls _ A0 A1 e0 e1 ra rb HA2.out.rd HB2'.out.rd HF.out.1 HF.out.2).mono ?_; rintro e w3 ⟨v3, rfl, ho, hb⟩; have H3 := Aside0.mk (ho.lower (show base ≤ _ from Nat.le_trans HB2.out B2.out.size)); have B3 := Aside0.mk ((B2.out.mono HB2.out).trans (hb.mono (Nat.le_trans HB2.out B2.out.size))); have Z3 := Aside0.mk (Nat.le_trans (Nat.le_trans HB2.out B2.out.size) hb.size); clear ho hb)
      | (go_at_call 78; refine (one_calls _ _ base _ _ H3.out Z3.out).mono ?_; rintro e w4 ⟨v4, rfl, he, hb⟩; have HE := Aside0.mk he; have B4 := Aside0.mk (B3.out.trans (hb.mono Z3.out)); clear he hb))
    go_ret
    exact ⟨_, rfl, HE.out, B4.out⟩
end Go.Proofs.YtiialjmpfeopjaaGreat.Sp

namespace Go.Proofs.YtiialjmpfeopjaaGreat.Sp
open Go.RowKit Go.Sort Go.Proofs.YtiialjmpfeopjaaGreatW.PrintWords Go.Proofs.YtiialjmpfeopjaaGreatW.PrintLast Go.Proofs.YtiialjmpfeopjaaGreatW.PrintMore
set_option linter.unusedVariables false
set_option linter.unusedSimpArgs false
set_option maxHeartbeats 8000000
set_option maxRecDepth 100000
theorem TwoV.mono {w w1 : World} {V : Value} {F : List Int → List Int → Int × List Int × List Int} (h : TwoV w V F) (hb : Stays w w1) (hz : w.heap.size ≤ w1.heap.size) : TwoV w1 V F := by
  obtain ⟨g, cap, e, eg, hc⟩ := h
  exact ⟨g, cap, e, eg, fun W base va vb a b hW h1 => hc W base va vb a b (hb.trans hW) (Nat.le_trans hz h1)⟩
theorem none_calls (nm : ByteArray) (V : Value) (F : List Int → List Int → Int × List Int × List Int) (w : World) {b1 b2 : Nat} (hT : TwoV w V F) (hF : ∀ a b, a.length ≤ 1000 → b.length ≤ 1000 → (F a b).2.1.length ≤ 2000 ∧ (F a b).2.2.length ≤ 2000)
    (hst : w.heap[b1]? = some (.cells #[.func (.func 109) #[] #[]] 124 (0, 0))) (hjo : w.heap[b2]? = some (.cells #[.func (.func 110) #[] #[]] 126 (0, 0))) :
    Calls Tryz.prog 113 #[.string nm, V, .pointer (some ⟨b1, 0, none⟩), .pointer (some ⟨b2, 0, none⟩)] w fun e w' => ∃ v, e = .returned v ∧ ActV w' v ⟨nm, 0, 0, 0, 4, false, fun s _ _ _ => twPre s, noneD F⟩ ∧ Below w.heap.size w w' := by
  have b1' := (Below.refl w.heap.size w).alloc (Nat.le_refl _) (.cells #[V] 128 (0, 0))
  have n1 := heap_alloc_new w (.cells #[V] 128 (0, 0))
  have HD := Aside0.mk (none1_calls (hT.mono (Stays.of b1') b1'.size) hF n1 (blk_alloc hst _) (blk_alloc hjo _))
  have B1 := Aside0.mk b1'
  obtain ⟨g, cap, rfl, eg, hc⟩ := hT
  clear b1' n1 hc hF hst hjo
  go_enter Tryz.func113, Tryz.ntmps113
  go_wp2
  refine bodyPost_ret (v := .agg #[.string nm, .int .i64 0, .int .i64 0, .int .i64 0, .int .i64 4, .bool false, .func (.func 114) #[] #[.pointer (some ⟨w.heap.size, 0, none⟩), .pointer (some ⟨b1, 0, none⟩), .pointer (some ⟨b2, 0, none⟩)]]) (by simp [results, Tryz.results113, go_sem]) rfl ⟨_, rfl, ⟨_, rfl, HD.out.mono (Stays.of ((Below.refl _ _).alloc (Nat.le_refl _) _)) (by simp only [alloc_size]; omega)⟩, B1.out.alloc B1.out.size _⟩
end Go.Proofs.YtiialjmpfeopjaaGreat.Sp

namespace Go.Proofs.YtiialjmpfeopjaaGreat.Sp
open Go.RowKit Go.Sort Go.Proofs.YtiialjmpfeopjaaGreatW.PrintWords Go.Proofs.YtiialjmpfeopjaaGreatW.PrintLast Go.Proofs.YtiialjmpfeopjaaGreatW.PrintMore
set_option linter.unusedVariables false
set_option linter.unusedSimpArgs false
set_option maxHeartbeats 8000000
set_option maxRecDepth 100000
def putaL (s : List Int) (x : Int) : List Int := joinL (twA s ++ [x]) (twB s)
theorem Apart.symm {v u : Value} (h : Apart v u) : Apart u v := by
  rcases h with h | h
  · by_cases e : u.ownBlock = none
    · exact .inl e
    · exact .inr (fun e2 => e (e2.trans h))
  · exact .inr (Ne.symm h)
theorem own_lies {w : World} {base g cap : Nat} {a : List Int} {x : Int} (h : w.ownsRow base 3 1 (.slice (some ⟨g, 0, none⟩) (a.length + 1) cap) (a.length + 1) (nums .i64 a ++ [.int .i64 x])) : Own w base (.slice (some ⟨g, 0, none⟩) (a ++ [x]).length cap) (a ++ [x]) := by
  unfold Own
  have e1 : (a ++ [x]).length = a.length + 1 := by simp
  have e2 : nums .i64 (a ++ [x]) = nums .i64 a ++ [.int .i64 x] := by simp [nums]
  rw [e1, e2]
  exact h
theorem puta_join {W w1 X w2 : World} {base g cap e1 : Nat} {va : Value} {A1 : Option Addr} {a b : List Int} {x : Int} (hz : base ≤ W.heap.size) (hBW : Below W.heap.size W w1) (hX : Below w1.heap.size w1 X) (hg : X.grownBy w2 va.ownBlock) (hbl : ∀ k, va.ownBlock = some k → W.heap.size ≤ k) (hb : Own w1 W.heap.size (.slice A1 b.length e1) b) (hap : Apart va (.slice A1 b.length e1))
    (ho : w2.ownsRow W.heap.size 3 1 (.slice (some ⟨g, 0, none⟩) (a.length + 1) cap) (a.length + 1) (nums .i64 a ++ [.int .i64 x])) (la : a.length ≤ 1000) (lb : b.length ≤ 1000) :
    Calls Tryz.prog 110 #[.slice (some ⟨g, 0, none⟩) (a.length + 1) cap, .slice A1 b.length e1] w2 fun e w3 => ∃ v, e = .returned v ∧ Own w3 base v (joinL (a ++ [x]) b) ∧ Below W.heap.size W w3 := by
  have HA2 := own_lies ho
  have HBb : Own w2 W.heap.size (.slice A1 b.length e1) b := own_other (hb.below hX) hg (Apart.symm hap)
  have B2 : Below W.heap.size W w2 := Below.grown (hBW.trans (hX.mono hBW.size)) hg (Nat.le_trans hBW.size hX.size) hbl
  have el : (a ++ [x]).length = a.length + 1 := by simp
  have := joined_calls w2 (some ⟨g, 0, none⟩) A1 cap e1 (a ++ [x]) b HA2.rd HBb.rd (by omega) (by omega)
  rw [el] at this
  refine this.mono ?_
  rintro e w3 ⟨v, rfl, h1, h2⟩
  refine ⟨v, rfl, ?_, B2.trans (h2.mono B2.size)⟩
  unfold joinL
  rw [el]
  exact h1.lower (Nat.le_trans hz B2.size)
theorem puta_into {w : World} {b1 b2 : Nat}
    (hst : w.heap[b1]? = some (.cells #[.func (.func 109) #[] #[]] 124 (0, 0))) (hjo : w.heap[b2]? = some (.cells #[.func (.func 110) #[] #[]] 126 (0, 0))) :
    Into w (.func (.func 115) #[] #[.pointer (some ⟨b1, 0, none⟩), .pointer (some ⟨b2, 0, none⟩)]) (fun s _ => twPre s) putaL := by
  refine ⟨115, _, rfl, enters_of Tryz.func115 (by kernel_rfl) rfl, fun W base v s x hW hb1 hb2 ho hl hp => ?_⟩
  obtain ⟨p0, p1⟩ := hp
  have c1 := into_at hst hW (by decide) (by decide)
  have HST := Aside0.mk (stacks_calls W base v s (s.getD 0 0).toNat ho (Int.toNat_of_nonneg p0).symm p1 hl)
  replace HST : Aside0 (Calls Tryz.prog 109 #[v] W fun e W' => ∃ va vb, e = .returned (.tuple #[va, vb]) ∧ Own W' W.heap.size va (twA s) ∧ Own W' W.heap.size vb (twB s) ∧ Apart va vb ∧ Below W.heap.size W W') := HST
  have la : (twA s).length ≤ 1000 := by unfold twA; rw [List.length_drop, List.length_take]; omega
  have lb : (twB s).length ≤ 1000 := by unfold twB; rw [List.length_drop]; omega
  have HW := Aside0.mk hW
  have BJ := Aside0.mk hjo
  have HB2 := Aside0.mk hb2
  unfold putaL
  clear hW ho hst hjo p0 p1
  generalize twA s = a at *
  generalize twB s = b at *
  go_enter Tryz.func115, Tryz.ntmps115
  go_wp2_with (go_at_call 109; refine (HST.out).mono ?_; rintro e w1 ⟨va, vb, rfl, h1, h2, h3, h4⟩; obtain ⟨A0, e0, rfl⟩ := h1.slice; obtain ⟨A1, e1, rfl⟩ := h2.slice; have HA := Aside0.mk h1; have HB := Aside0.mk h2; have HAP := Aside0.mk h3; have B1 := Aside0.mk h4; have d2 := into_at BJ.out (HW.out.trans (Stays.of h4)) (by decide) (by decide); clear h1 h2 h3 h4 HST)
  obtain ⟨i0, hi0, hz0, hz1, hz2⟩ := info_parts info_int
  have hb2lt : b2 < W.heap.size := Nat.lt_of_lt_of_le (blk_lt BJ.out) (Nat.le_trans hb1 HB2.out)
  have HBL := Aside0.mk (fun k (e : (Value.slice A0 a.length e0).ownBlock = some k) => HA.out.base_le k e)
  have hfar : (Value.slice A0 a.length e0).ownBlock ≠ some b2 := fun e => by have := HA.out.base_le _ e; omega
  have FAR := Aside0.mk hfar
  have LT2 := Aside0.mk (Nat.lt_of_lt_of_le hb2lt B1.out.size)
  have SZ := Aside0.mk B1.out.size
  clear hfar hb2lt
  go_region_held3 (fun w' => w'.cell? ⟨b2, 0, none⟩ = some (.func (.func 110) #[] #[])) (first | go_keep | exact d3 | (rw [hgrow.cell_far _ (by simp; have := LT2.out; omega) (Ne.symm FAR.out)]; assumption)) (first
    | (go_at_call 110; refine (puta_join HB2.out B1.out (by repeat (first | exact Below.refl _ _ | apply pw_below_drewN | apply below_drew1 | apply below_alloc)) hgrow HBL.out HB.out HAP.out hown2 la lb).mono ?_; rintro e w3 ⟨v3, rfl, ho, hb⟩; have H3 := Aside0.mk ho; have B3 := Aside0.mk (hb.mono HB2.out); have d3 := into_at BJ.out (HW.out.trans (Stays.of hb)) (by decide) (by decide); clear ho hb)
    | (refine step_append_lies _ (by rfl) _ _ _ (by rfl) W.heap.size 3 i0 _ 1 8 Tryz.underlying22 hi0 hz0 hz1 hz2 rfl (by omega) (.slice A0 a.length e0) a.length (nums .i64 a) (by rfl) (by exact HA.out.below (by repeat (first | exact Below.refl _ _ | apply pw_below_drewN | apply below_drew1 | apply below_alloc)))
        ⟨w1.heap.size, 0, none⟩ 1 1 [.int .i64 x] (by rfl) (by rfl) (by exact World.news_of_block (cs := #[.int .i64 x]) (t := 3) (fr := (0, 0)) (heap_alloc_new w1 _)) (by simp [Value.oneCell'])
        (by omega) (by unfold maxLen; omega) (by omega) (by simp; have := SZ.out; omega) (w1.heap.size + 1) (by simp) ?_; intro gg cap w2 hown2 hgrow hat hlt))
  all_goals go_wp2
  all_goals go_ret
  all_goals exact ⟨_, rfl, H3.out, B3.out⟩
end Go.Proofs.YtiialjmpfeopjaaGreat.Sp

namespace Go.Proofs.YtiialjmpfeopjaaGreat.Sp
open Go.RowKit Go.Sort Go.Proofs.YtiialjmpfeopjaaGreatW.PrintWords Go.Proofs.YtiialjmpfeopjaaGreatW.PrintLast Go.Proofs.YtiialjmpfeopjaaGreatW.PrintMore
set_option linter.unusedVariables false
set_option linter.unusedSimpArgs false
set_option maxHeartbeats 8000000
set_option maxRecDepth 100000
abbrev TwF := List Int → List Int → Int × List Int × List Int
def getaF : TwF := fun x y => (popR x, popL x, y)
def getbF : TwF := fun x y => (popR y, x, popL y)
def moveF : TwF := fun x y => (popR x, popL x, if x = [] then y else y ++ [popR x])
def TwB (F : TwF) : Prop := ∀ a b : List Int, a.length ≤ 1000 → b.length ≤ 1000 → (F a b).2.1.length ≤ 2000 ∧ (F a b).2.2.length ≤ 2000
theorem popL_le (a : List Int) : (popL a).length ≤ a.length := by unfold popL; rw [List.length_take]; omega
theorem geta_b : TwB getaF := fun a b ha hb => by have := popL_le a; simp only [getaF]; omega
theorem getb_b : TwB getbF := fun a b ha hb => by have := popL_le b; simp only [getbF]; omega
theorem move_b : TwB moveF := fun a b ha hb => by
  have := popL_le a
  simp only [moveF]
  refine ⟨by omega, ?_⟩
  by_cases h : a = []
  · rw [if_pos h]; omega
  · rw [if_neg h, List.length_append]; simp; omega
/-- The three boxes of the twin stacks. -/
def Boxes (w : World) (k : Nat) : Prop := w.heap[k]? = some (.cells #[.func (.func 109) #[] #[]] 124 (0, 0)) ∧ w.heap[k + 1]? = some (.cells #[.func (.func 110) #[] #[]] 126 (0, 0)) ∧ w.heap[k + 2]? = some (.cells #[.func (.func 112) #[] #[]] 127 (0, 0))
theorem Boxes.next {w w1 : World} {k : Nat} (h : Boxes w k) (hb : Below w.heap.size w w1) : Boxes w1 k :=
  ⟨(hb.block _ (blk_lt h.1)).trans h.1, (hb.block _ (blk_lt h.2.1)).trans h.2.1, (hb.block _ (blk_lt h.2.2)).trans h.2.2⟩
theorem Boxes.alloc {w : World} {k : Nat} (h : Boxes w k) (o : Obj) : Boxes (w.alloc o) k := h.next ((Below.refl _ _).alloc (Nat.le_refl _) o)
theorem boxes_new (w : World) : Boxes (((w.alloc (.cells #[.func (.func 109) #[] #[]] 124 (0, 0))).alloc (.cells #[.func (.func 110) #[] #[]] 126 (0, 0))).alloc (.cells #[.func (.func 112) #[] #[]] 127 (0, 0))) w.heap.size := by
  refine ⟨blk_alloc (blk_alloc (heap_alloc_new _ _) _) _, blk_alloc ?_ _, ?_⟩
  · have := heap_alloc_new (w.alloc (.cells #[.func (.func 109) #[] #[]] 124 (0, 0))) (.cells #[.func (.func 110) #[] #[]] 126 (0, 0))
    rwa [alloc_size] at this
  · have := heap_alloc_new ((w.alloc (.cells #[.func (.func 109) #[] #[]] 124 (0, 0))).alloc (.cells #[.func (.func 110) #[] #[]] 126 (0, 0))) (.cells #[.func (.func 112) #[] #[]] 127 (0, 0))
    rwa [alloc_size, alloc_size] at this
theorem below3 (w : World) (o1 o2 o3 : Obj) : Below w.heap.size w (((w.alloc o1).alloc o2).alloc o3) := (((Below.refl w.heap.size w).alloc (Nat.le_refl _) o1).alloc (by rw [alloc_size]; omega) o2).alloc (by rw [alloc_size, alloc_size]; omega) o3
def twPreA : List Int → Int → Int → Int → Prop := fun s _ _ _ => twPre s
def twinActs : List ActS := [⟨⟨#[112, 117, 116, 97]⟩, 1, 0, 900, 4, false, ofInto (fun s _ => twPre s), putD putaL⟩, ⟨⟨#[112, 117, 116, 98]⟩, 1, 0, 900, 4, false, ofInto (fun _ _ => True), putD fun s x => s ++ [x]⟩,
  ⟨⟨#[103, 101, 116, 97]⟩, 0, 0, 0, 4, false, twPreA, noneD getaF⟩, ⟨⟨#[103, 101, 116, 98]⟩, 0, 0, 0, 4, false, twPreA, noneD getbF⟩, ⟨⟨#[109, 111, 118, 101]⟩, 0, 0, 0, 4, false, twPreA, noneD moveF⟩]
theorem none_at (nm : ByteArray) (F : TwF) (g : Nat) (w : World) (k : Nat) (hB : Boxes w k) (hT : TwoV w (.func (.func g) #[] #[.pointer (some ⟨k + 2, 0, none⟩)]) F) (hF : TwB F) :
    Calls Tryz.prog 113 #[.string nm, .func (.func g) #[] #[.pointer (some ⟨k + 2, 0, none⟩)], .pointer (some ⟨k, 0, none⟩), .pointer (some ⟨k + 1, 0, none⟩)] w fun e w' => ∃ v, e = .returned v ∧ ActV w' v ⟨nm, 0, 0, 0, 4, false, twPreA, noneD F⟩ ∧ Below w.heap.size w w' :=
  none_calls nm _ F w hT hF hB.1 hB.2.1
theorem puta_at (w : World) (k : Nat) (hB : Boxes w k) :
    Calls Tryz.prog 48 #[.string ⟨#[112, 117, 116, 97]⟩, .int .i64 900, .func (.func 115) #[] #[.pointer (some ⟨k, 0, none⟩), .pointer (some ⟨k + 1, 0, none⟩)]] w fun e w' => ∃ v, e = .returned v ∧ ActV w' v ⟨⟨#[112, 117, 116, 97]⟩, 1, 0, 900, 4, false, ofInto (fun s _ => twPre s), putD putaL⟩ ∧ Below w.heap.size w w' :=
  put_calls _ 900 _ _ _ w (puta_into hB.1 hB.2.1)
theorem twins_calls (w : World) : Calls Tryz.prog 71 #[] w fun e w' => ∃ v, e = .returned v ∧ ActsV w' v twinActs ∧ Below w.heap.size w w' := by
  have eg : ∀ args w, (callFunc 113 args).run Tryz.prog w = .ok (.enter 113 args) w := enters_of Tryz.func113 (by kernel_rfl) rfl
  have B0 := Aside0.mk (fun o1 o2 o3 => below3 w o1 o2 o3)
  have N0 := Aside0.mk (boxes_new w)
  go_enter Tryz.func71, Tryz.ntmps71
  have tok1 : True := trivial
  go_wp2_with (first
    | (go_at_call 48; have _t := tok1; refine (puta_at _ w.heap.size N0.out).mono ?_; rintro e w1 ⟨v1, rfl, ha, hb⟩; obtain ⟨V1, rfl, hd1⟩ := ha; have HD1 := Aside0.mk hd1; have B1 := Aside0.mk (btrans (B0.out _ _ _) hb); have N1 := Aside0.mk (N0.out.next hb); obtain ⟨g1, cap1, rfl, _⟩ := hd1; clear hb tok1; have tok2 : True := trivial)
    | (go_at_call 48; have _t := tok2; refine (put_calls ⟨#[112, 117, 116, 98]⟩ 900 _ _ _ _ (putb_into _)).mono ?_; rintro e w2 ⟨v2, rfl, ha, hb⟩; obtain ⟨V2, rfl, hd2⟩ := ha; have HD2 := Aside0.mk hd2; have BB2 := Aside0.mk hb; have N2 := Aside0.mk ((N1.out.alloc _).next hb); obtain ⟨hcl2, hfr2⟩ := bcell hb; have h12 : w1.heap.size < w2.heap.size := (by have := hb.size; simp at this; omega); obtain ⟨g2, cap2, rfl, _⟩ := hd2; clear hb tok2; have tok3 : True := trivial)
    | (go_at_fn 113; have _t := tok3; refine (none_at ⟨#[103, 101, 116, 97]⟩ getaF 117 _ w.heap.size (N2.out.alloc _) (geta_two (N2.out.alloc _).2.2) geta_b).mono ?_; rintro e w3 ⟨v3, rfl, ha, hb⟩; obtain ⟨V3, rfl, hd3⟩ := ha; have HD3 := Aside0.mk hd3; have BB3 := Aside0.mk hb; have N3 := Aside0.mk ((N2.out.alloc _).next hb); obtain ⟨hcl3, hfr3⟩ := bcell hb; have h23 : w2.heap.size < w3.heap.size := (by have := hb.size; simp at this; omega); have h13 : w1.heap.size < w3.heap.size := (by omega); obtain ⟨g3, cap3, rfl, _⟩ := hd3; clear hb tok3; have tok4 : True := trivial)
    | (go_at_fn 113; have _t := tok4; refine (none_at ⟨#[103, 101, 116, 98]⟩ getbF 118 _ w.heap.size (N3.out.alloc _) (getb_two (N3.out.alloc _).2.2) getb_b).mono ?_; rintro e w4 ⟨v4, rfl, ha, hb⟩; obtain ⟨V4, rfl, hd4⟩ := ha; have HD4 := Aside0.mk hd4; have BB4 := Aside0.mk hb; have N4 := Aside0.mk ((N3.out.alloc _).next hb); obtain ⟨hcl4, hfr4⟩ := bcell hb; have h34 : w3.heap.size < w4.heap.size := (by have := hb.size; simp at this; omega); have h14 : w1.heap.size < w4.heap.size := (by omega); have h24 : w2.heap.size < w4.heap.size := (by omega); obtain ⟨g4, cap4, rfl, _⟩ := hd4; clear hb tok4; have tok5 : True := trivial)
    | (go_at_fn 113; have _t := tok5; refine (none_at ⟨#[109, 111, 118, 101]⟩ moveF 119 _ w.heap.size (N4.out.alloc _) (move_two (N4.out.alloc _).2.2) move_b).mono ?_; rintro e w5 ⟨v5, rfl, ha, hb⟩; obtain ⟨V5, rfl, hd5⟩ := ha; have HD5 := Aside0.mk hd5; have BB5 := Aside0.mk hb; obtain ⟨hcl5, hfr5⟩ := bcell hb; have h45 : w4.heap.size < w5.heap.size := (by have := hb.size; simp at this; omega); have h15 : w1.heap.size < w5.heap.size := (by omega); have h25 : w2.heap.size < w5.heap.size := (by omega); have h35 : w3.heap.size < w5.heap.size := (by omega); obtain ⟨g5, cap5, rfl, _⟩ := hd5; clear hb tok5))
  go_ret
  have q12 : Below w1.heap.size w1 w2 := btrans ((Below.refl w1.heap.size w1).alloc (Nat.le_refl _) _) BB2.out
  have q23 : Below w2.heap.size w2 w3 := btrans ((Below.refl w2.heap.size w2).alloc (Nat.le_refl _) _) BB3.out
  have q34 : Below w3.heap.size w3 w4 := btrans ((Below.refl w3.heap.size w3).alloc (Nat.le_refl _) _) BB4.out
  have q45 : Below w4.heap.size w4 w5 := btrans ((Below.refl w4.heap.size w4).alloc (Nat.le_refl _) _) BB5.out
  have q5 : ∀ o, Below w5.heap.size w5 (w5.alloc o) := fun o => (Below.refl w5.heap.size w5).alloc (Nat.le_refl _) o
  refine ⟨_, rfl, acts_lit (w5.alloc _) twinActs [.func (.func g1) #[] cap1, .func (.func g2) #[] cap2, .func (.func g3) #[] cap3, .func (.func g4) #[] cap4, .func (.func g5) #[] cap5] rfl (fun j a V h1 h2 => ?_) (by simp [twinActs]) _ rfl (by rw [alloc_size]) rfl, ?_⟩
  · match j, h1, h2 with
    | 0, h1, h2 => cases h1; cases h2; exact HD1.out.mono (Stays.of (btrans q12 (btrans q23 (btrans q34 (btrans q45 (q5 _)))))) (btrans q12 (btrans q23 (btrans q34 (btrans q45 (q5 _))))).size
    | 1, h1, h2 => cases h1; cases h2; exact HD2.out.mono (Stays.of (btrans q23 (btrans q34 (btrans q45 (q5 _))))) (btrans q23 (btrans q34 (btrans q45 (q5 _)))).size
    | 2, h1, h2 => cases h1; cases h2; exact HD3.out.mono (Stays.of (btrans q34 (btrans q45 (q5 _)))) (btrans q34 (btrans q45 (q5 _))).size
    | 3, h1, h2 => cases h1; cases h2; exact HD4.out.mono (Stays.of (btrans q45 (q5 _))) (btrans q45 (q5 _)).size
    | 4, h1, h2 => cases h1; cases h2; exact HD5.out.mono (Stays.of (q5 _)) (q5 _).size
    | j + 5, h1, _ => simp [twinActs] at h1
  · exact (btrans B1.out (btrans q12 (btrans q23 (btrans q34 (btrans q45 (q5 _)))))).alloc (btrans B1.out (btrans q12 (btrans q23 (btrans q34 (btrans q45 (q5 _)))))).size _
end Go.Proofs.YtiialjmpfeopjaaGreat.Sp
