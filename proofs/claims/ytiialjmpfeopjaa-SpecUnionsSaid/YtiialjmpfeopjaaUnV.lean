/- That same tells whether two numbers were united, over any others: the law, walked; no condition. -/
import Derived.Test.YtiialjmpfeopjaaLrV
import Derived.Test.YtiialjmpfeopjaaPwU
import Derived.BigQuiet
import Derived.StillTailTactics
namespace Go.Proofs.Ytiialjmpfeopjaa.UnV
open Go.RowKit Go.Sort Go.Proofs.Ytiialjmpfeopjaa.XSa Go.Proofs.Ytiialjmpfeopjaa.LrV Go.Proofs.Ytiialjmpfeopjaa.Sp Go.Proofs.YtiialjmpfeopjaaW.PrintWords Go.Proofs.YtiialjmpfeopjaaW.PrintLast Go.Proofs.YtiialjmpfeopjaaW.PrintMore
set_option linter.unusedVariables false
set_option linter.unusedSimpArgs false
set_option maxHeartbeats 8000000
set_option maxRecDepth 100000
def nearC (f : Nat → Bool) : Array Value := #[.bool (f 0), .bool (f 1), .bool (f 2), .bool (f 3), .bool (f 4), .bool (f 5), .bool (f 6), .bool (f 7), .bool (f 8), .bool (f 9), .bool (f 10), .bool (f 11), .bool (f 12), .bool (f 13), .bool (f 14), .bool (f 15), .bool (f 16), .bool (f 17), .bool (f 18), .bool (f 19), .bool (f 20), .bool (f 21), .bool (f 22), .bool (f 23), .bool (f 24), .bool (f 25), .bool (f 26), .bool (f 27), .bool (f 28), .bool (f 29), .bool (f 30), .bool (f 31), .bool (f 32), .bool (f 33), .bool (f 34), .bool (f 35), .bool (f 36), .bool (f 37), .bool (f 38), .bool (f 39), .bool (f 40), .bool (f 41), .bool (f 42), .bool (f 43), .bool (f 44), .bool (f 45), .bool (f 46), .bool (f 47), .bool (f 48), .bool (f 49), .bool (f 50), .bool (f 51), .bool (f 52), .bool (f 53), .bool (f 54), .bool (f 55), .bool (f 56), .bool (f 57), .bool (f 58), .bool (f 59), .bool (f 60), .bool (f 61), .bool (f 62), .bool (f 63)]
theorem nearC_at (f : Nat → Bool) (k : Nat) (hk : k < 64) : (nearC f)[k]? = some (.bool (f k)) := by
  match k, hk with
  | 0, _ | 1, _ | 2, _ | 3, _ | 4, _ | 5, _ | 6, _ | 7, _ | 8, _ | 9, _ | 10, _ | 11, _ | 12, _ | 13, _ | 14, _ | 15, _ | 16, _ | 17, _ | 18, _ | 19, _ | 20, _ | 21, _ | 22, _ | 23, _ | 24, _ | 25, _ | 26, _ | 27, _ | 28, _ | 29, _ | 30, _ | 31, _ | 32, _ | 33, _ | 34, _ | 35, _ | 36, _ | 37, _ | 38, _ | 39, _ | 40, _ | 41, _ | 42, _ | 43, _ | 44, _ | 45, _ | 46, _ | 47, _ | 48, _ | 49, _ | 50, _ | 51, _ | 52, _ | 53, _ | 54, _ | 55, _ | 56, _ | 57, _ | 58, _ | 59, _ | 60, _ | 61, _ | 62, _ | 63, _ => rfl
  | k + 64, h => omega
theorem nearC_set (f : Nat → Bool) (k : Nat) (hk : k < 64) (b : Bool) : (nearC f).setIfInBounds k (.bool b) = nearC (upd f k b) := by
  match k, hk with
  | 0, _ | 1, _ | 2, _ | 3, _ | 4, _ | 5, _ | 6, _ | 7, _ | 8, _ | 9, _ | 10, _ | 11, _ | 12, _ | 13, _ | 14, _ | 15, _ | 16, _ | 17, _ | 18, _ | 19, _ | 20, _ | 21, _ | 22, _ | 23, _ | 24, _ | 25, _ | 26, _ | 27, _ | 28, _ | 29, _ | 30, _ | 31, _ | 32, _ | 33, _ | 34, _ | 35, _ | 36, _ | 37, _ | 38, _ | 39, _ | 40, _ | 41, _ | 42, _ | 43, _ | 44, _ | 45, _ | 46, _ | 47, _ | 48, _ | 49, _ | 50, _ | 51, _ | 52, _ | 53, _ | 54, _ | 55, _ | 56, _ | 57, _ | 58, _ | 59, _ | 60, _ | 61, _ | 62, _ | 63, _ => rfl
  | k + 64, h => omega
theorem diag_zero : diag 0 = fun _ => false := by
  funext c; unfold diag; rw [decide_eq_false (show ¬ c / 8 < 0 by omega), Bool.and_false]
theorem diag_step (m : Nat) (hm : m < 8) : upd (diag m) (8 * m + m) true = diag (m + 1) := by
  funext c
  unfold upd diag
  by_cases h : c = 8 * m + m
  · rw [if_pos h, decide_eq_true (show c / 8 = c % 8 by omega), decide_eq_true (show c / 8 < m + 1 by omega)]; rfl
  · rw [if_neg h]
    by_cases h1 : c / 8 = c % 8
    · rw [decide_eq_true h1, Bool.true_and, Bool.true_and]
      by_cases h2 : c / 8 < m
      · rw [decide_eq_true h2, decide_eq_true (show c / 8 < m + 1 by omega)]
      · rw [decide_eq_false h2, decide_eq_false (show ¬ c / 8 < m + 1 by omega)]
    · rw [decide_eq_false h1]; rfl
def uniS (q : Nat × Nat) : S27 := ⟨uniteB, (q.1 : Int), (q.2 : Int)⟩
theorem uniS_call (l : List (Nat × Nat)) : (l.map uniS).map callT = l.map uniC := by rw [List.map_map]; rfl
theorem k27_M (W : World) (base : Nat) (ok : Nat → Prop) (s : ByteArray) (x y : Int) : k27.M W base ok ⟨s, x, y⟩ [.string s, .int .i64 x, .int .i64 y] := ⟨[.string s], [.int .i64 x, .int .i64 y], rfl, rfl, [.int .i64 x], [.int .i64 y], rfl, rfl, rfl⟩
theorem blk_over {w w' : World} {k : Nat} {u : Value} {e : Nat} {cs : Array Value} (h : w.heap[k]? = some (.cells cs 36 (0, 0))) (hg : w.grownBy w' u.ownBlock) (ht : ∀ j, u.ownBlock = some j → ∃ cells, w.heap[j]? = some (.cells cells e (0, 0))) (he : e ≠ 36) : w'.heap[k]? = some (.cells cs 36 (0, 0)) := by
  refine (hg.block k (blk_lt h) (fun q => ?_)).trans h
  obtain ⟨c, hc⟩ := ht k q.symm
  rw [h] at hc
  injection hc with hc
  injection hc with _ hc
  exact he hc.symm
theorem sumI_app : ∀ (a b : List Int), sumI (a ++ b) = sumI a + sumI b
  | [], b => by show sumI b = 0 + sumI b; omega
  | x :: a, b => by show x + sumI (a ++ b) = x + sumI a + sumI b; rw [sumI_app a b]; omega
theorem sumI_take (l : List Int) (m : Nat) (h : m < l.length) : sumI (l.take (m + 1)) = sumI (l.take m) + l.getD m 0 := by
  rw [List.take_succ_eq_append_getElem h, sumI_app, List.getD_eq_getElem?_getD, List.getElem?_eq_getElem h]
  show _ + (l[m] + 0) = _
  rw [Int.add_zero]; rfl
theorem sumI_bd (l : List Int) (h : ∀ o ∈ l, 0 ≤ o ∧ o ≤ 1) (m : Nat) : 0 ≤ sumI (l.take m) ∧ sumI (l.take m) ≤ m := by
  induction m with
  | zero => exact ⟨by show (0 : Int) ≤ 0; decide, by show (0 : Int) ≤ 0; decide⟩
  | succ m ih =>
    by_cases hm : m < l.length
    · rw [sumI_take l m hm]
      have := h _ (List.getElem_mem hm)
      rw [List.getD_eq_getElem?_getD, List.getElem?_eq_getElem hm, Option.getD_some]
      omega
    · rw [List.take_of_length_le (by omega)]
      rw [List.take_of_length_le (by omega)] at ih
      omega
theorem un_walk (A0 : Option Addr) (c0 : Nat) (l0 : List Int) (x0 y0 : Int) (w : World) (hr : Rd w A0 l0) :
    Calls Try.prog 7 #[.slice A0 l0.length c0, .int .i64 x0, .int .i64 y0] w fun e w' => e = .returned (.bool true) ∧ Below w.heap.size w w' := by
  have HR := Aside0.mk hr
  have hmx := hr.max
  clear hr
  go_enter Try.func7, Try.ntmps7
  go_wp2_with (go_at_call 15; refine (locklesslaw18_awake.calls true _ awake_true).mono ?_; rintro e w1 ⟨rfl, hb⟩; have B1 := Aside0.mk hb; have N5 := Aside0.mk (heap_alloc_new w1 (.cells (nearC fun _ => false) 36 (0, 0))); clear hb)
  obtain ⟨k0, hk0⟩ : ∃ k, k = w1.heap.size := ⟨_, rfl⟩
  have HK := Aside0.mk (show w.heap.size ≤ k0 from by rw [hk0]; exact B1.out.size)
  rw [← hk0] at N5 ⊢
  clear hk0
  rw [← diag_zero] at N5
  go_loopg [9] 8 (fun gg v9 wr => ∃ m : Nat, m ≤ 8 ∧ 8 - m ≤ gg ∧ v9 = .int .i64 m ∧ Aside0 (wr.heap[k0]? = some (.cells (nearC (diag m)) 36 (0, 0))) ∧ Aside0 (Below w.heap.size w wr))
  case atStart => exact ⟨0, Nat.zero_le _, by omega, rfl, N5, ⟨btrans B1.out (al1 w1 _)⟩⟩
  case round =>
    clear N5 B1
    obtain ⟨m, hm, hgm, rfl, HN, HB⟩ := hrel
    by_cases hm8 : m < 8
    · have hmi : (m : Int) < 8 := by omega
      have fk : wr.frozen? ⟨k0, m * 8 + m, none⟩ = false := blk_frozen HN.out _
      have ck := (Go.Lib.cell_of_heap HN.out (m * 8 + m)).trans (nearC_at (diag m) (m * 8 + m) (by omega))
      have hwm : IntKind.i64.wrap ((m : Int) + 1) = (m : Int) + 1 := IntWalk.i64_in _ (by omega)
      go_wp2
      go_roundg (8 - (m + 1))
      case measure => omega
      case rel =>
        refine ⟨m + 1, by omega, by omega, by go_num, ⟨?_⟩, ⟨HB.out.setCell (p := ⟨k0, m * 8 + m, none⟩) HK.out (.bool true)⟩⟩
        rw [blk_set HN.out (m * 8 + m) (.bool true), nearC_set (diag m) (m * 8 + m) (by omega) true, Nat.mul_comm m 8, diag_step m hm8]
    · have hm2 : m = 8 := by omega
      subst hm2
      clear hm8 hgm hm
      go_wp2
      go_loopg [7, 10, 11, 12] l0.length (fun gg v7 v10 v11 v12 wl => ∃ (kk : Nat) (qs : List (Nat × Nat)), kk ≤ l0.length ∧ l0.length - kk ≤ gg ∧ v10 = .int .i64 kk ∧ qs.length = kk ∧ kk ≤ 20 ∧ Aside0 (∀ q ∈ qs, q.1 < 8 ∧ q.2 < 8) ∧ Aside0 (k27.R 27 wl w.heap.size (fun _ => True) v7 (qs.map uniS)) ∧ Aside0 (wl.heap[k0]? = some (.cells (nearC (nearS qs (diag 8))) 36 (0, 0))) ∧ Aside0 (Below w.heap.size w wl))
      case atStart => exact ⟨0, [], Nat.zero_le _, by omega, rfl, rfl, by omega, ⟨fun q hq => by cases hq⟩, ⟨Kd.R_nil _ _ _ _ _⟩, HN, HB⟩
      case round =>
        clear HN HB
        obtain ⟨kk, qs, hkk, hgg, rfl, hql, h20, HQ, HC, HN, HB⟩ := hrel
        by_cases hlt : kk < l0.length ∧ kk < 20
        · obtain ⟨hlt, h20b⟩ := hlt
          obtain ⟨ad, rfl, hc⟩ := (HR.out.below HB.out).at kk hlt
          generalize l0.getD kk 0 = z at hc
          have hx7 : Go.bits .and .i64 z 7 = z % 8 := i64_low z 3 (by decide)
          have hy7 : Go.bits .and .i64 (z / 8) 7 = (z / 8) % 8 := i64_low (z / 8) 3 (by decide)
          obtain ⟨a, ha⟩ : ∃ a : Nat, z % 8 = (a : Int) := ⟨(z % 8).toNat, by omega⟩
          obtain ⟨b, hb⟩ : ∃ b : Nat, (z / 8) % 8 = (b : Int) := ⟨((z / 8) % 8).toNat, by omega⟩
          have ha8 : a < 8 := by omega
          have hb8 : b < 8 := by omega
          rw [ha] at hx7
          rw [hb] at hy7
          have hai : (a : Int) < 8 := by omega
          have hbi : (b : Int) < 8 := by omega
          have HA := Aside0.mk ha
          clear ha hb
          obtain ⟨near, hn0⟩ : ∃ f, f = nearS qs (diag 8) := ⟨_, rfl⟩
          rw [← hn0] at HN
          have HQL := Aside0.mk hql
          have HNN := Aside0.mk hn0
          clear hn0
          have hlk : kk < 20 := h20b
          have h20i : (kk : Int) < 20 := by omega
          go_wp2
          go_quiet (fail)
          have HC1 := Aside0.mk (Kd.R_drewN HC.out nq)
          have HN1 := Aside0.mk (show (wr.drewN nq).heap[k0]? = some (.cells (nearC near) 36 (0, 0)) from HN.out)
          have HB1 := Aside0.mk (pw_below_drewN HB.out nq)
          go_wp2_with ((with_reducible refine gate_builtin (b := .append) (xs := #[.tmp 55, .tmp 59]) rfl ?_); at_builtin; refine Kd.R_append k27 (w0 := w) (W := wr.drewN nq) w.heap.size rfl (.tmp 55) (.tmp 59) 24 27 (.agg #[.string ⟨#[]⟩, .int .i64 0, .int .i64 0]) 32 rfl Try.underlying24 info27 rfl (by decide) (by omega) u7 (qs.map uniS) ⟨uniteB, (a : Int), (b : Int)⟩ [.string uniteB, .int .i64 a, .int .i64 b] (fun _ => True) (fun _ => False) rfl rfl (k27_M _ _ _ _ _ _) (fun _ hk => hk.elim) (fun _ _ => trivial) HC1.out HB1.out HB1.out.size (by rw [List.length_map, HQL.out]; omega) ?_; intro v1 wn ho hb hg hat; have HC3 := Aside0.mk ho; have HB3 := Aside0.mk hb; have HN3 := Aside0.mk (blk_over HN1.out hg (fun j hj => Kd.R_typed HC1.out j hj) (by decide)); clear ho hb hg hat; have f1 : wn.frozen? ⟨k0, a * 8 + b, none⟩ = false := blk_frozen HN3.out _; have c1 := (Go.Lib.cell_of_heap HN3.out (a * 8 + b)).trans (nearC_at near (a * 8 + b) (by omega)); have HN4 := Aside0.mk (show (wn.setCell ⟨k0, a * 8 + b, none⟩ (.bool true)).heap[k0]? = some (.cells (nearC (upd near (a * 8 + b) true)) 36 (0, 0)) from by rw [blk_set HN3.out (a * 8 + b) (.bool true), nearC_set near (a * 8 + b) (by omega) true]); have f2 : (wn.setCell ⟨k0, a * 8 + b, none⟩ (.bool true)).frozen? ⟨k0, b * 8 + a, none⟩ = false := blk_frozen HN4.out _; have c2 := (Go.Lib.cell_of_heap HN4.out (b * 8 + a)).trans (nearC_at (upd near (a * 8 + b) true) (b * 8 + a) (by omega)))
          go_roundg (l0.length - (kk + 1))
          case measure => omega
          case rel =>
            refine ⟨kk + 1, qs ++ [(a, b)], by omega, by omega, by go_num, by rw [List.length_append, HQL.out]; rfl, by omega, ⟨fun q hq => ?_⟩, ⟨?_⟩, ⟨?_⟩, ⟨?_⟩⟩
            · rcases List.mem_append.1 hq with e | e
              · exact HQ.out q e
              · rw [List.mem_singleton.1 e]; exact ⟨ha8, hb8⟩
            · rw [List.map_append]; exact Kd.R_set (Kd.R_set HC3.out HN3.out (by decide) (a * 8 + b) (.bool true)) HN4.out (by decide) (b * 8 + a) (.bool true)
            · rw [nearS_snoc, ← HNN.out, blk_set HN4.out (b * 8 + a) (.bool true), nearC_set _ (b * 8 + a) (by omega) true, Nat.mul_comm a 8, Nat.mul_comm b 8]; rfl
            · exact (HB3.out.setCell (p := ⟨k0, a * 8 + b, none⟩) HK.out (.bool true)).setCell (p := ⟨k0, b * 8 + a, none⟩) HK.out (.bool true)
        · have hk20 : (kk < l0.length ∧ decide ((kk : Int) < 20) = false) ∨ ¬ kk < l0.length := by
            by_cases h : kk < l0.length
            · exact .inl ⟨h, decide_eq_false (fun e => hlt ⟨h, by omega⟩)⟩
            · exact .inr h
          clear hlt
          obtain ⟨near, hn0⟩ : ∃ f, f = nearS qs (diag 8) := ⟨_, rfl⟩
          rw [← hn0] at HN
          have HQL := Aside0.mk hql
          have HNN := Aside0.mk hn0
          clear hn0
          rcases hk20 with ⟨hl1, hl2⟩ | hl1
          · go_wp2
            go_loopg [13, 14, 15] 8 (fun gg v13 v14 v15 wk => ∃ k : Nat, k ≤ 8 ∧ 8 - k ≤ gg ∧ v13 = .int .i64 k ∧ Aside0 (wk.heap[k0]? = some (.cells (nearC (Sp.wk k near)) 36 (0, 0))) ∧ Aside0 (k27.R 27 wk w.heap.size (fun _ => True) u7 (qs.map uniS)) ∧ Aside0 (Below w.heap.size w wk))
            case atStart => exact ⟨0, Nat.zero_le _, by omega, rfl, HN, HC, HB⟩
            case round =>
              clear HN HB HC
              obtain ⟨k, hk, hgk, rfl, HN, HC, HB⟩ := hrel
              by_cases hk8 : k < 8
              · have hki : (k : Int) < 8 := by omega
                obtain ⟨f, hf0⟩ : ∃ f, f = Sp.wk k near := ⟨_, rfl⟩
                rw [← hf0] at HN
                have HF := Aside0.mk hf0
                clear hf0
                rw [← ph_zero k f] at HN
                go_wp2
                go_loopg [14, 15] 8 (fun gg v14 v15 wi => ∃ i : Nat, i ≤ 8 ∧ 8 - i ≤ gg ∧ v14 = .int .i64 i ∧ Aside0 (wi.heap[k0]? = some (.cells (nearC (ph k (8 * i) f)) 36 (0, 0))) ∧ Aside0 (k27.R 27 wi w.heap.size (fun _ => True) u7 (qs.map uniS)) ∧ Aside0 (Below w.heap.size w wi))
                case atStart => exact ⟨0, Nat.zero_le _, by omega, rfl, HN, HC, HB⟩
                case round =>
                  clear HN HB HC
                  obtain ⟨i, hi, hgi, rfl, HN, HC, HB⟩ := hrel
                  by_cases hi8 : i < 8
                  · have hii : (i : Int) < 8 := by omega
                    go_wp2
                    go_loopg [15] 8 (fun gg v15 wj => ∃ j : Nat, j ≤ 8 ∧ 8 - j ≤ gg ∧ v15 = .int .i64 j ∧ Aside0 (wj.heap[k0]? = some (.cells (nearC (ph k (8 * i + j) f)) 36 (0, 0))) ∧ Aside0 (k27.R 27 wj w.heap.size (fun _ => True) u7 (qs.map uniS)) ∧ Aside0 (Below w.heap.size w wj))
                    case atStart => exact ⟨0, Nat.zero_le _, by omega, rfl, HN, HC, HB⟩
                    case round =>
                      clear HN HB HC
                      obtain ⟨j, hj, hgj, rfl, HN, HC, HB⟩ := hrel
                      by_cases hj8 : j < 8
                      · have hji : (j : Int) < 8 := by omega
                        have HST := Aside0.mk (ph_step k i j f hk8 hj8)
                        generalize ph k (8 * i + j) f = g at *
                        rw [Nat.mul_comm 8 i, Nat.mul_comm 8 k] at HST
                        have fij : wr.frozen? ⟨k0, i * 8 + j, none⟩ = false := blk_frozen HN.out _
                        have cij := (Go.Lib.cell_of_heap HN.out (i * 8 + j)).trans (nearC_at g (i * 8 + j) (by omega))
                        have cik := (Go.Lib.cell_of_heap HN.out (i * 8 + k)).trans (nearC_at g (i * 8 + k) (by omega))
                        have ckj := (Go.Lib.cell_of_heap HN.out (k * 8 + j)).trans (nearC_at g (k * 8 + j) (by omega))
                        cases hb1 : g (i * 8 + j) with
                        | true =>
                          rw [hb1] at cij
                          have q0 : ∀ d, ({ heap := wr.heap, tape := wr.tape, drawn := d, os := wr.os, output := wr.output } : World).cell? ⟨k0, i * 8 + j, none⟩ = some (.bool true) := fun _ => cij
                          have fij1 : (wr.drewN 1).frozen? ⟨k0, i * 8 + j, none⟩ = false := fij
                          have cij1 : (wr.drewN 1).cell? ⟨k0, i * 8 + j, none⟩ = some (.bool true) := cij
                          have HN1 := Aside0.mk (show (wr.drewN 1).heap[k0]? = some (.cells (nearC g) 36 (0, 0)) from HN.out)
                          have HC1 := Aside0.mk (Kd.R_drewN HC.out 1)
                          have HB1 := Aside0.mk (pw_below_drewN HB.out 1)
                          clear cij cik ckj fij HN HC HB
                          go_wp2
                          refine wp_region_still_tail 23 (by kernel_rfl) (by kernel_rfl) ?_
                          simp only [List.take_succ_cons, List.take_zero, List.drop_succ_cons, List.drop_zero]
                          repeat (with_reducible refine wpStill_step (fun K hK => ?_); go_simp; (try (rw [if_neg ?hn]; (case hn => simp [undef]))); with_reducible refine hK _ ?_; clear hK K)
                          with_reducible refine wpStill_nil ?_
                          change wpList _ _ _ _ _ (wr.drewN 1)
                          go_wp2
                          go_roundg (8 - (j + 1))
                          case measure => omega
                          case rel =>
                            refine ⟨j + 1, by omega, by omega, by go_num, ⟨?_⟩, ⟨Kd.R_set HC1.out HN1.out (by decide) (i * 8 + j) (.bool true)⟩, ⟨HB1.out.setCell (p := ⟨k0, i * 8 + j, none⟩) HK.out (.bool true)⟩⟩
                            rw [blk_set HN1.out (i * 8 + j) (.bool true), nearC_set g (i * 8 + j) (by omega) true]
                            have hst := HST.out
                            rw [hb1] at hst
                            rw [show 8 * i + (j + 1) = i * 8 + j + 1 by omega, ← hst]; rfl
                        | false =>
                          rw [hb1] at cij
                          cases hb2 : g (i * 8 + k) with
                          | false =>
                            rw [hb2] at cik
                            have q0 : ∀ d, ({ heap := wr.heap, tape := wr.tape, drawn := d, os := wr.os, output := wr.output } : World).cell? ⟨k0, i * 8 + j, none⟩ = some (.bool false) := fun _ => cij
                            have q1 : ∀ d, ({ heap := wr.heap, tape := wr.tape, drawn := d, os := wr.os, output := wr.output } : World).cell? ⟨k0, i * 8 + k, none⟩ = some (.bool false) := fun _ => cik
                            have fij1 : (wr.drewN 1).frozen? ⟨k0, i * 8 + j, none⟩ = false := fij
                            have cij1 : (wr.drewN 1).cell? ⟨k0, i * 8 + j, none⟩ = some (.bool false) := cij
                            have HN1 := Aside0.mk (show (wr.drewN 1).heap[k0]? = some (.cells (nearC g) 36 (0, 0)) from HN.out)
                            have HC1 := Aside0.mk (Kd.R_drewN HC.out 1)
                            have HB1 := Aside0.mk (pw_below_drewN HB.out 1)
                            clear cij cik ckj fij HN HC HB
                            go_wp2
                            refine wp_region_still_tail 23 (by kernel_rfl) (by kernel_rfl) ?_
                            simp only [List.take_succ_cons, List.take_zero, List.drop_succ_cons, List.drop_zero]
                            repeat (with_reducible refine wpStill_step (fun K hK => ?_); go_simp; (try (rw [if_neg ?hn]; (case hn => simp [undef]))); with_reducible refine hK _ ?_; clear hK K)
                            with_reducible refine wpStill_nil ?_
                            change wpList _ _ _ _ _ (wr.drewN 1)
                            go_wp2
                            go_roundg (8 - (j + 1))
                            case measure => omega
                            case rel =>
                              refine ⟨j + 1, by omega, by omega, by go_num, ⟨?_⟩, ⟨Kd.R_set HC1.out HN1.out (by decide) (i * 8 + j) (.bool false)⟩, ⟨HB1.out.setCell (p := ⟨k0, i * 8 + j, none⟩) HK.out (.bool false)⟩⟩
                              rw [blk_set HN1.out (i * 8 + j) (.bool false), nearC_set g (i * 8 + j) (by omega) false]
                              have hst := HST.out
                              rw [hb1, hb2] at hst
                              rw [show 8 * i + (j + 1) = i * 8 + j + 1 by omega, ← hst]; rfl
                          | true =>
                            rw [hb2] at cik
                            generalize hb3 : g (k * 8 + j) = b3 at ckj
                            have q0 : ∀ d, ({ heap := wr.heap, tape := wr.tape, drawn := d, os := wr.os, output := wr.output } : World).cell? ⟨k0, i * 8 + j, none⟩ = some (.bool false) := fun _ => cij
                            have q1 : ∀ d, ({ heap := wr.heap, tape := wr.tape, drawn := d, os := wr.os, output := wr.output } : World).cell? ⟨k0, i * 8 + k, none⟩ = some (.bool true) := fun _ => cik
                            have q2 : ∀ d, ({ heap := wr.heap, tape := wr.tape, drawn := d, os := wr.os, output := wr.output } : World).cell? ⟨k0, k * 8 + j, none⟩ = some (.bool b3) := fun _ => ckj
                            have fij1 : (wr.drewN 1).frozen? ⟨k0, i * 8 + j, none⟩ = false := fij
                            have cij1 : (wr.drewN 1).cell? ⟨k0, i * 8 + j, none⟩ = some (.bool false) := cij
                            have HN1 := Aside0.mk (show (wr.drewN 1).heap[k0]? = some (.cells (nearC g) 36 (0, 0)) from HN.out)
                            have HC1 := Aside0.mk (Kd.R_drewN HC.out 1)
                            have HB1 := Aside0.mk (pw_below_drewN HB.out 1)
                            clear cij cik ckj fij HN HC HB
                            go_wp2
                            refine wp_region_still_tail 23 (by kernel_rfl) (by kernel_rfl) ?_
                            simp only [List.take_succ_cons, List.take_zero, List.drop_succ_cons, List.drop_zero]
                            repeat (with_reducible refine wpStill_step (fun K hK => ?_); go_simp; (try (rw [if_neg ?hn]; (case hn => simp [undef]))); with_reducible refine hK _ ?_; clear hK K)
                            with_reducible refine wpStill_nil ?_
                            change wpList _ _ _ _ _ (wr.drewN 1)
                            go_wp2
                            go_roundg (8 - (j + 1))
                            case measure => omega
                            case rel =>
                              refine ⟨j + 1, by omega, by omega, by go_num, ⟨?_⟩, ⟨Kd.R_set HC1.out HN1.out (by decide) (i * 8 + j) (.bool b3)⟩, ⟨HB1.out.setCell (p := ⟨k0, i * 8 + j, none⟩) HK.out (.bool b3)⟩⟩
                              rw [blk_set HN1.out (i * 8 + j) (.bool b3), nearC_set g (i * 8 + j) (by omega) b3]
                              have hst := HST.out
                              rw [hb1, hb2, hb3] at hst
                              rw [show 8 * i + (j + 1) = i * 8 + j + 1 by omega, ← hst]; rfl
                      · obtain rfl : j = 8 := by omega
                        rw [show 8 * i + 8 = 8 * (i + 1) by omega] at HN
                        go_wp2
                        go_roundg (8 - (i + 1))
                        case measure => omega
                        case rel => exact ⟨i + 1, by omega, by omega, by go_num, HN, HC, HB⟩
                  · obtain rfl : i = 8 := by omega
                    have HN2 := Aside0.mk (show wr.heap[k0]? = some (.cells (nearC (Sp.wk (k + 1) near)) 36 (0, 0)) from by have h := HN.out; rw [HF.out] at h; exact h)
                    clear HN
                    go_wp2
                    go_roundg (8 - (k + 1))
                    case measure => omega
                    case rel => exact ⟨k + 1, by omega, by omega, by go_num, HN2, HC, HB⟩
              · obtain rfl : k = 8 := by omega
                obtain ⟨x, hx⟩ : ∃ x : Nat, x0 % 8 = (x : Int) := ⟨(x0 % 8).toNat, by omega⟩
                obtain ⟨y, hy⟩ : ∃ y : Nat, y0 % 8 = (y : Int) := ⟨(y0 % 8).toNat, by omega⟩
                have hx7 : Go.bits .and .i64 x0 7 = (x : Int) := (i64_low x0 3 (by decide)).trans hx
                have hy7 : Go.bits .and .i64 y0 7 = (y : Int) := (i64_low y0 3 (by decide)).trans hy
                have hx8 : x < 8 := by omega
                have hy8 : y < 8 := by omega
                have hxi : (x : Int) < 8 := by omega
                have hyi : (y : Int) < 8 := by omega
                clear hx hy
                obtain ⟨out, v, s', hrun, hol, hob, hsum, hv⟩ := unions_run qs (by omega) HQ.out x y hx8 hy8
                rw [← HNN.out] at hsum hv
                obtain ⟨F, hF0⟩ : ∃ F, F = Sp.wk 8 near := ⟨_, rfl⟩
                rw [← hF0] at hsum hv HN
                obtain ⟨CL, hCL⟩ : ∃ CL, CL = qs.map uniS := ⟨_, rfl⟩
                have hcl : CL.length = kk := by rw [hCL, List.length_map, hql]
                rw [← uniS_call, ← hCL] at hrun
                rw [← hCL] at HC
                obtain ⟨A3, c3, e3⟩ := Kd.R_slice HC.out
                rw [hcl] at e3
                subst e3
                rw [hql] at hol
                have HRUN := Aside0.mk (fun (A : Option Addr) (c : Nat) (W : World) (hR : k27.R 27 W w.heap.size (fun _ => True) (.slice A (kk + 1) c) (CL ++ [⟨sameB, (x : Int), (y : Int)⟩])) => (show Calls Try.prog 16 #[.int .i64 12, .int .i64 1, .slice A (kk + 1) c] W fun e w' => ∃ v', e = .returned (.tuple #[v', .bool true]) ∧ Kd.R (Kd.int .i64) 3 w' W.heap.size (fun _ => True) v' (out ++ [v]) ∧ Below W.heap.size W w' from by
                  have hl : (CL ++ [(⟨sameB, (x : Int), (y : Int)⟩ : S27)]).length = kk + 1 := by rw [List.length_append, hcl]; rfl
                  have := run_at 12 1 A c (CL ++ [⟨sameB, (x : Int), (y : Int)⟩]) (out ++ [v]) s' W (by have := (Kd.R_reads' hR).2.2; exact this) (by have := (Kd.R_reads' hR); omega) (by rw [List.map_append]; exact hrun) (by rw [List.length_append, List.length_append, hcl, hol]; rfl) (by omega)
                  rw [hl] at this; exact this))
                have HOL := Aside0.mk hol
                have HOB := Aside0.mk hob
                have HSUM := Aside0.mk hsum
                have HV := Aside0.mk hv
                have HCLL := Aside0.mk hcl
                clear hrun hCL hol hob hsum hv hcl hF0 hql HQL
                go_wp2_with (first
                  | ((with_reducible refine gate_builtin (b := .append) (xs := #[.tmp 105, .tmp 111]) rfl ?_); at_builtin; refine Kd.R_append k27 (w0 := w) (W := wr) w.heap.size rfl (.tmp 105) (.tmp 111) 24 27 (.agg #[.string ⟨#[]⟩, .int .i64 0, .int .i64 0]) 32 rfl Try.underlying24 info27 rfl (by decide) (by omega) (.slice A3 kk c3) CL ⟨sameB, (x : Int), (y : Int)⟩ [.string sameB, .int .i64 x, .int .i64 y] (fun _ => True) (fun _ => False) rfl rfl (k27_M _ _ _ _ _ _) (fun _ hk => hk.elim) (fun _ _ => trivial) HC.out HB.out HB.out.size (by rw [HCLL.out]; omega) ?_; intro v1 wn ho hb hg hat; obtain ⟨A5, c5, rfl⟩ := Kd.R_slice ho; have hl5 : (CL ++ [(⟨sameB, (x : Int), (y : Int)⟩ : S27)]).length = kk + 1 := (by rw [List.length_append, HCLL.out]; rfl); rw [hl5] at ho ⊢; have HC5 := Aside0.mk ho; have B5 := Aside0.mk hb; have HN5 := Aside0.mk (blk_over HN.out hg (fun j hj => Kd.R_typed HC.out j hj) (by decide)); clear ho hb hg hat hl5)
                  | (go_at_call 16; refine (HRUN.out A5 c5 wn HC5.out).mono ?_; rintro e w6 ⟨v6, rfl, hr, hb⟩; obtain ⟨A6, c6, rfl⟩ := Kd.R_slice hr; have hl6 : (out ++ [v]).length = kk + 1 := (by rw [List.length_append, HOL.out]; rfl); rw [hl6] at hr ⊢; have HA := Aside0.mk hr; have HN6 := Aside0.mk ((hb.block _ (blk_lt HN5.out)).trans HN5.out); have B6 := Aside0.mk (btrans B5.out hb); clear hr hb hl6))
                have hsum1 := sumI_bd out HOB.out
                have HRD := Aside0.mk (show Rd w6 A6 (out ++ [v]) from by have h := (Kd.R_reads' HA.out).2.2; exact h)
                go_loopg [18, 19] kk (fun gg v18 v19 wl => ∃ m : Nat, m ≤ kk ∧ kk - m ≤ gg ∧ v18 = .int .i64 (sumI (out.take m)) ∧ v19 = .int .i64 m ∧ w6 = wl)
                case atStart => exact ⟨0, Nat.zero_le _, by omega, rfl, rfl, rfl⟩
                case round =>
                  obtain ⟨m, hm, hgm, rfl, rfl, hw⟩ := hrel
                  subst hw
                  by_cases hmk : m < kk
                  · obtain ⟨ad6, rfl, hcm⟩ := (HRD.out).at m (by rw [List.length_append, HOL.out]; show m < kk + 1; omega)
                    have hgm2 : (out ++ [v]).getD m 0 = out.getD m 0 := by rw [List.getD_eq_getElem?_getD, List.getElem?_append_left (by rw [HOL.out]; exact hmk), ← List.getD_eq_getElem?_getD]
                    rw [hgm2] at hcm
                    have hst := sumI_take out m (by rw [HOL.out]; exact hmk)
                    have hb0 := hsum1 m
                    have hb1 := hsum1 (m + 1)
                    rw [hst] at hb1
                    have HST := Aside0.mk hst
                    clear hst
                    generalize out.getD m 0 = o at *
                    generalize sumI (out.take m) = sm at *
                    have hwr : IntKind.i64.wrap (sm + o) = sm + o := IntWalk.i64_in _ (by omega)
                    go_wp2
                    go_roundg (kk - (m + 1))
                    case measure => omega
                    case rel => exact ⟨m + 1, by omega, by omega, by rw [HST.out], by go_num, rfl⟩
                  · obtain rfl : m = kk := by omega
                    rw [List.take_of_length_le (by rw [HOL.out]; exact Nat.le_refl _)]
                    obtain ⟨P, hP⟩ : ∃ P : Nat → Bool, P = fun i => firstP F i i := ⟨_, rfl⟩
                    have HSM := HSUM.out
                    rw [← hP] at HSM
                    rw [HSM]
                    have hPn := cntP_le P 8
                    have HPF := Aside0.mk (fun i => congrFun hP i)
                    clear hP HSM hsum1
                    go_wp2
                    go_loopg [20, 21, 22, 23] 8 (fun gg v20 v21 v22 v23 wl => ∃ i : Nat, i ≤ 8 ∧ 8 - i ≤ gg ∧ v20 = .int .i64 (cntP P i) ∧ v21 = .int .i64 i ∧ w6 = wl)
                    case atStart => exact ⟨0, Nat.zero_le _, by omega, rfl, rfl, rfl⟩
                    case round =>
                      obtain ⟨i, hi, hgi, rfl, rfl, hw⟩ := hrel
                      subst hw
                      by_cases hi8 : i < 8
                      · have hii : (i : Int) < 8 := by omega
                        have hci := cntP_le P i
                        have HCS := Aside0.mk (show cntP P (i + 1) = cntP P i + (if P i = true then 1 else 0) from rfl)
                        generalize cntP P i = ci at *
                        have hwc : IntKind.i64.wrap ((ci : Int) + 1) = (ci : Int) + 1 := IntWalk.i64_in _ (by omega)
                        go_wp2
                        go_loopg [22, 23] i (fun gg v22 v23 wl => ∃ j : Nat, j ≤ i ∧ i - j ≤ gg ∧ v22 = .bool (firstP F i j) ∧ v23 = .int .i64 j ∧ w6 = wl)
                        case atStart => exact ⟨0, Nat.zero_le _, by omega, rfl, rfl, rfl⟩
                        case round =>
                          obtain ⟨j, hj, hgj, rfl, rfl, hw⟩ := hrel
                          subst hw
                          by_cases hji : j < i
                          · have hj8 : (j : Int) < 8 := by omega
                            have hjii : (j : Int) < (i : Int) := by omega
                            have HFS := Aside0.mk (show firstP F i (j + 1) = (firstP F i j && !F (8 * i + j)) from rfl)
                            have cij := (Go.Lib.cell_of_heap HN6.out (i * 8 + j)).trans (nearC_at F (i * 8 + j) (by omega))
                            rw [Nat.mul_comm 8 i] at HFS
                            generalize F (i * 8 + j) = q at *
                            cases hf : firstP F i j with
                            | true =>
                              rw [hf] at HFS
                              clear hf
                              go_wp2
                              go_roundg (i - (j + 1))
                              case measure => omega
                              case rel => exact ⟨j + 1, by omega, by omega, by rw [HFS.out, Bool.true_and], by go_num, rfl⟩
                            | false =>
                              rw [hf] at HFS
                              clear hf
                              go_wp2
                              go_roundg (i - (j + 1))
                              case measure => omega
                              case rel => exact ⟨j + 1, by omega, by omega, by rw [HFS.out, Bool.false_and], by go_num, rfl⟩
                          · obtain rfl : j = i := by omega
                            rw [← HPF.out j]
                            cases hpj : P j with
                            | true =>
                              rw [hpj] at HCS
                              clear hpj
                              go_wp2
                              go_roundg (8 - (j + 1))
                              case measure => omega
                              case rel => exact ⟨j + 1, by omega, by omega, by rw [HCS.out]; simp, by go_num, rfl⟩
                            | false =>
                              rw [hpj] at HCS
                              clear hpj
                              go_wp2
                              go_roundg (8 - (j + 1))
                              case measure => omega
                              case rel => exact ⟨j + 1, by omega, by omega, by rw [HCS.out]; simp, by go_num, rfl⟩
                      · obtain rfl : i = 8 := by omega
                        obtain ⟨ad6, rfl, hcm⟩ := (HRD.out).at m (by rw [List.length_append, HOL.out]; show m < m + 1; omega)
                        have hgm2 : (out ++ [v]).getD m 0 = v := by rw [List.getD_eq_getElem?_getD, List.getElem?_append_right (by rw [HOL.out]; exact Nat.le_refl _), HOL.out, Nat.sub_self]; rfl
                        rw [hgm2] at hcm
                        have cxy := (Go.Lib.cell_of_heap HN6.out (x * 8 + y)).trans (nearC_at F (x * 8 + y) (by omega))
                        have hvv := HV.out
                        rw [Nat.mul_comm 8 x] at hvv
                        generalize F (x * 8 + y) = q at *
                        have hveq : (v == 1) = q := by rw [← hvv]; rfl
                        clear hvv hgm2
                        generalize cntP P 8 = ci at *
                        have hwc : IntKind.i64.wrap (8 - (ci : Int)) = 8 - (ci : Int) := IntWalk.i64_in _ (by omega)
                        have hlm : (m : Int) < ((m + 1 : Nat) : Int) := by omega
                        go_wp2
                        go_quiet (fail)
                        go_wp2
                        go_ret
                        exact ⟨rfl, pw_below_drewN B6.out nq⟩
          · go_wp2
            go_loopg [13, 14, 15] 8 (fun gg v13 v14 v15 wk => ∃ k : Nat, k ≤ 8 ∧ 8 - k ≤ gg ∧ v13 = .int .i64 k ∧ Aside0 (wk.heap[k0]? = some (.cells (nearC (Sp.wk k near)) 36 (0, 0))) ∧ Aside0 (k27.R 27 wk w.heap.size (fun _ => True) u7 (qs.map uniS)) ∧ Aside0 (Below w.heap.size w wk))
            case atStart => exact ⟨0, Nat.zero_le _, by omega, rfl, HN, HC, HB⟩
            case round =>
              clear HN HB HC
              obtain ⟨k, hk, hgk, rfl, HN, HC, HB⟩ := hrel
              by_cases hk8 : k < 8
              · have hki : (k : Int) < 8 := by omega
                obtain ⟨f, hf0⟩ : ∃ f, f = Sp.wk k near := ⟨_, rfl⟩
                rw [← hf0] at HN
                have HF := Aside0.mk hf0
                clear hf0
                rw [← ph_zero k f] at HN
                go_wp2
                go_loopg [14, 15] 8 (fun gg v14 v15 wi => ∃ i : Nat, i ≤ 8 ∧ 8 - i ≤ gg ∧ v14 = .int .i64 i ∧ Aside0 (wi.heap[k0]? = some (.cells (nearC (ph k (8 * i) f)) 36 (0, 0))) ∧ Aside0 (k27.R 27 wi w.heap.size (fun _ => True) u7 (qs.map uniS)) ∧ Aside0 (Below w.heap.size w wi))
                case atStart => exact ⟨0, Nat.zero_le _, by omega, rfl, HN, HC, HB⟩
                case round =>
                  clear HN HB HC
                  obtain ⟨i, hi, hgi, rfl, HN, HC, HB⟩ := hrel
                  by_cases hi8 : i < 8
                  · have hii : (i : Int) < 8 := by omega
                    go_wp2
                    go_loopg [15] 8 (fun gg v15 wj => ∃ j : Nat, j ≤ 8 ∧ 8 - j ≤ gg ∧ v15 = .int .i64 j ∧ Aside0 (wj.heap[k0]? = some (.cells (nearC (ph k (8 * i + j) f)) 36 (0, 0))) ∧ Aside0 (k27.R 27 wj w.heap.size (fun _ => True) u7 (qs.map uniS)) ∧ Aside0 (Below w.heap.size w wj))
                    case atStart => exact ⟨0, Nat.zero_le _, by omega, rfl, HN, HC, HB⟩
                    case round =>
                      clear HN HB HC
                      obtain ⟨j, hj, hgj, rfl, HN, HC, HB⟩ := hrel
                      by_cases hj8 : j < 8
                      · have hji : (j : Int) < 8 := by omega
                        have HST := Aside0.mk (ph_step k i j f hk8 hj8)
                        generalize ph k (8 * i + j) f = g at *
                        rw [Nat.mul_comm 8 i, Nat.mul_comm 8 k] at HST
                        have fij : wr.frozen? ⟨k0, i * 8 + j, none⟩ = false := blk_frozen HN.out _
                        have cij := (Go.Lib.cell_of_heap HN.out (i * 8 + j)).trans (nearC_at g (i * 8 + j) (by omega))
                        have cik := (Go.Lib.cell_of_heap HN.out (i * 8 + k)).trans (nearC_at g (i * 8 + k) (by omega))
                        have ckj := (Go.Lib.cell_of_heap HN.out (k * 8 + j)).trans (nearC_at g (k * 8 + j) (by omega))
                        cases hb1 : g (i * 8 + j) with
                        | true =>
                          rw [hb1] at cij
                          have q0 : ∀ d, ({ heap := wr.heap, tape := wr.tape, drawn := d, os := wr.os, output := wr.output } : World).cell? ⟨k0, i * 8 + j, none⟩ = some (.bool true) := fun _ => cij
                          have fij1 : (wr.drewN 1).frozen? ⟨k0, i * 8 + j, none⟩ = false := fij
                          have cij1 : (wr.drewN 1).cell? ⟨k0, i * 8 + j, none⟩ = some (.bool true) := cij
                          have HN1 := Aside0.mk (show (wr.drewN 1).heap[k0]? = some (.cells (nearC g) 36 (0, 0)) from HN.out)
                          have HC1 := Aside0.mk (Kd.R_drewN HC.out 1)
                          have HB1 := Aside0.mk (pw_below_drewN HB.out 1)
                          clear cij cik ckj fij HN HC HB
                          go_wp2
                          refine wp_region_still_tail 23 (by kernel_rfl) (by kernel_rfl) ?_
                          simp only [List.take_succ_cons, List.take_zero, List.drop_succ_cons, List.drop_zero]
                          repeat (with_reducible refine wpStill_step (fun K hK => ?_); go_simp; (try (rw [if_neg ?hn]; (case hn => simp [undef]))); with_reducible refine hK _ ?_; clear hK K)
                          with_reducible refine wpStill_nil ?_
                          change wpList _ _ _ _ _ (wr.drewN 1)
                          go_wp2
                          go_roundg (8 - (j + 1))
                          case measure => omega
                          case rel =>
                            refine ⟨j + 1, by omega, by omega, by go_num, ⟨?_⟩, ⟨Kd.R_set HC1.out HN1.out (by decide) (i * 8 + j) (.bool true)⟩, ⟨HB1.out.setCell (p := ⟨k0, i * 8 + j, none⟩) HK.out (.bool true)⟩⟩
                            rw [blk_set HN1.out (i * 8 + j) (.bool true), nearC_set g (i * 8 + j) (by omega) true]
                            have hst := HST.out
                            rw [hb1] at hst
                            rw [show 8 * i + (j + 1) = i * 8 + j + 1 by omega, ← hst]; rfl
                        | false =>
                          rw [hb1] at cij
                          cases hb2 : g (i * 8 + k) with
                          | false =>
                            rw [hb2] at cik
                            have q0 : ∀ d, ({ heap := wr.heap, tape := wr.tape, drawn := d, os := wr.os, output := wr.output } : World).cell? ⟨k0, i * 8 + j, none⟩ = some (.bool false) := fun _ => cij
                            have q1 : ∀ d, ({ heap := wr.heap, tape := wr.tape, drawn := d, os := wr.os, output := wr.output } : World).cell? ⟨k0, i * 8 + k, none⟩ = some (.bool false) := fun _ => cik
                            have fij1 : (wr.drewN 1).frozen? ⟨k0, i * 8 + j, none⟩ = false := fij
                            have cij1 : (wr.drewN 1).cell? ⟨k0, i * 8 + j, none⟩ = some (.bool false) := cij
                            have HN1 := Aside0.mk (show (wr.drewN 1).heap[k0]? = some (.cells (nearC g) 36 (0, 0)) from HN.out)
                            have HC1 := Aside0.mk (Kd.R_drewN HC.out 1)
                            have HB1 := Aside0.mk (pw_below_drewN HB.out 1)
                            clear cij cik ckj fij HN HC HB
                            go_wp2
                            refine wp_region_still_tail 23 (by kernel_rfl) (by kernel_rfl) ?_
                            simp only [List.take_succ_cons, List.take_zero, List.drop_succ_cons, List.drop_zero]
                            repeat (with_reducible refine wpStill_step (fun K hK => ?_); go_simp; (try (rw [if_neg ?hn]; (case hn => simp [undef]))); with_reducible refine hK _ ?_; clear hK K)
                            with_reducible refine wpStill_nil ?_
                            change wpList _ _ _ _ _ (wr.drewN 1)
                            go_wp2
                            go_roundg (8 - (j + 1))
                            case measure => omega
                            case rel =>
                              refine ⟨j + 1, by omega, by omega, by go_num, ⟨?_⟩, ⟨Kd.R_set HC1.out HN1.out (by decide) (i * 8 + j) (.bool false)⟩, ⟨HB1.out.setCell (p := ⟨k0, i * 8 + j, none⟩) HK.out (.bool false)⟩⟩
                              rw [blk_set HN1.out (i * 8 + j) (.bool false), nearC_set g (i * 8 + j) (by omega) false]
                              have hst := HST.out
                              rw [hb1, hb2] at hst
                              rw [show 8 * i + (j + 1) = i * 8 + j + 1 by omega, ← hst]; rfl
                          | true =>
                            rw [hb2] at cik
                            generalize hb3 : g (k * 8 + j) = b3 at ckj
                            have q0 : ∀ d, ({ heap := wr.heap, tape := wr.tape, drawn := d, os := wr.os, output := wr.output } : World).cell? ⟨k0, i * 8 + j, none⟩ = some (.bool false) := fun _ => cij
                            have q1 : ∀ d, ({ heap := wr.heap, tape := wr.tape, drawn := d, os := wr.os, output := wr.output } : World).cell? ⟨k0, i * 8 + k, none⟩ = some (.bool true) := fun _ => cik
                            have q2 : ∀ d, ({ heap := wr.heap, tape := wr.tape, drawn := d, os := wr.os, output := wr.output } : World).cell? ⟨k0, k * 8 + j, none⟩ = some (.bool b3) := fun _ => ckj
                            have fij1 : (wr.drewN 1).frozen? ⟨k0, i * 8 + j, none⟩ = false := fij
                            have cij1 : (wr.drewN 1).cell? ⟨k0, i * 8 + j, none⟩ = some (.bool false) := cij
                            have HN1 := Aside0.mk (show (wr.drewN 1).heap[k0]? = some (.cells (nearC g) 36 (0, 0)) from HN.out)
                            have HC1 := Aside0.mk (Kd.R_drewN HC.out 1)
                            have HB1 := Aside0.mk (pw_below_drewN HB.out 1)
                            clear cij cik ckj fij HN HC HB
                            go_wp2
                            refine wp_region_still_tail 23 (by kernel_rfl) (by kernel_rfl) ?_
                            simp only [List.take_succ_cons, List.take_zero, List.drop_succ_cons, List.drop_zero]
                            repeat (with_reducible refine wpStill_step (fun K hK => ?_); go_simp; (try (rw [if_neg ?hn]; (case hn => simp [undef]))); with_reducible refine hK _ ?_; clear hK K)
                            with_reducible refine wpStill_nil ?_
                            change wpList _ _ _ _ _ (wr.drewN 1)
                            go_wp2
                            go_roundg (8 - (j + 1))
                            case measure => omega
                            case rel =>
                              refine ⟨j + 1, by omega, by omega, by go_num, ⟨?_⟩, ⟨Kd.R_set HC1.out HN1.out (by decide) (i * 8 + j) (.bool b3)⟩, ⟨HB1.out.setCell (p := ⟨k0, i * 8 + j, none⟩) HK.out (.bool b3)⟩⟩
                              rw [blk_set HN1.out (i * 8 + j) (.bool b3), nearC_set g (i * 8 + j) (by omega) b3]
                              have hst := HST.out
                              rw [hb1, hb2, hb3] at hst
                              rw [show 8 * i + (j + 1) = i * 8 + j + 1 by omega, ← hst]; rfl
                      · obtain rfl : j = 8 := by omega
                        rw [show 8 * i + 8 = 8 * (i + 1) by omega] at HN
                        go_wp2
                        go_roundg (8 - (i + 1))
                        case measure => omega
                        case rel => exact ⟨i + 1, by omega, by omega, by go_num, HN, HC, HB⟩
                  · obtain rfl : i = 8 := by omega
                    have HN2 := Aside0.mk (show wr.heap[k0]? = some (.cells (nearC (Sp.wk (k + 1) near)) 36 (0, 0)) from by have h := HN.out; rw [HF.out] at h; exact h)
                    clear HN
                    go_wp2
                    go_roundg (8 - (k + 1))
                    case measure => omega
                    case rel => exact ⟨k + 1, by omega, by omega, by go_num, HN2, HC, HB⟩
              · obtain rfl : k = 8 := by omega
                obtain ⟨x, hx⟩ : ∃ x : Nat, x0 % 8 = (x : Int) := ⟨(x0 % 8).toNat, by omega⟩
                obtain ⟨y, hy⟩ : ∃ y : Nat, y0 % 8 = (y : Int) := ⟨(y0 % 8).toNat, by omega⟩
                have hx7 : Go.bits .and .i64 x0 7 = (x : Int) := (i64_low x0 3 (by decide)).trans hx
                have hy7 : Go.bits .and .i64 y0 7 = (y : Int) := (i64_low y0 3 (by decide)).trans hy
                have hx8 : x < 8 := by omega
                have hy8 : y < 8 := by omega
                have hxi : (x : Int) < 8 := by omega
                have hyi : (y : Int) < 8 := by omega
                clear hx hy
                obtain ⟨out, v, s', hrun, hol, hob, hsum, hv⟩ := unions_run qs (by omega) HQ.out x y hx8 hy8
                rw [← HNN.out] at hsum hv
                obtain ⟨F, hF0⟩ : ∃ F, F = Sp.wk 8 near := ⟨_, rfl⟩
                rw [← hF0] at hsum hv HN
                obtain ⟨CL, hCL⟩ : ∃ CL, CL = qs.map uniS := ⟨_, rfl⟩
                have hcl : CL.length = kk := by rw [hCL, List.length_map, hql]
                rw [← uniS_call, ← hCL] at hrun
                rw [← hCL] at HC
                obtain ⟨A3, c3, e3⟩ := Kd.R_slice HC.out
                rw [hcl] at e3
                subst e3
                rw [hql] at hol
                have HRUN := Aside0.mk (fun (A : Option Addr) (c : Nat) (W : World) (hR : k27.R 27 W w.heap.size (fun _ => True) (.slice A (kk + 1) c) (CL ++ [⟨sameB, (x : Int), (y : Int)⟩])) => (show Calls Try.prog 16 #[.int .i64 12, .int .i64 1, .slice A (kk + 1) c] W fun e w' => ∃ v', e = .returned (.tuple #[v', .bool true]) ∧ Kd.R (Kd.int .i64) 3 w' W.heap.size (fun _ => True) v' (out ++ [v]) ∧ Below W.heap.size W w' from by
                  have hl : (CL ++ [(⟨sameB, (x : Int), (y : Int)⟩ : S27)]).length = kk + 1 := by rw [List.length_append, hcl]; rfl
                  have := run_at 12 1 A c (CL ++ [⟨sameB, (x : Int), (y : Int)⟩]) (out ++ [v]) s' W (by have := (Kd.R_reads' hR).2.2; exact this) (by have := (Kd.R_reads' hR); omega) (by rw [List.map_append]; exact hrun) (by rw [List.length_append, List.length_append, hcl, hol]; rfl) (by omega)
                  rw [hl] at this; exact this))
                have HOL := Aside0.mk hol
                have HOB := Aside0.mk hob
                have HSUM := Aside0.mk hsum
                have HV := Aside0.mk hv
                have HCLL := Aside0.mk hcl
                clear hrun hCL hol hob hsum hv hcl hF0 hql HQL
                go_wp2_with (first
                  | ((with_reducible refine gate_builtin (b := .append) (xs := #[.tmp 105, .tmp 111]) rfl ?_); at_builtin; refine Kd.R_append k27 (w0 := w) (W := wr) w.heap.size rfl (.tmp 105) (.tmp 111) 24 27 (.agg #[.string ⟨#[]⟩, .int .i64 0, .int .i64 0]) 32 rfl Try.underlying24 info27 rfl (by decide) (by omega) (.slice A3 kk c3) CL ⟨sameB, (x : Int), (y : Int)⟩ [.string sameB, .int .i64 x, .int .i64 y] (fun _ => True) (fun _ => False) rfl rfl (k27_M _ _ _ _ _ _) (fun _ hk => hk.elim) (fun _ _ => trivial) HC.out HB.out HB.out.size (by rw [HCLL.out]; omega) ?_; intro v1 wn ho hb hg hat; obtain ⟨A5, c5, rfl⟩ := Kd.R_slice ho; have hl5 : (CL ++ [(⟨sameB, (x : Int), (y : Int)⟩ : S27)]).length = kk + 1 := (by rw [List.length_append, HCLL.out]; rfl); rw [hl5] at ho ⊢; have HC5 := Aside0.mk ho; have B5 := Aside0.mk hb; have HN5 := Aside0.mk (blk_over HN.out hg (fun j hj => Kd.R_typed HC.out j hj) (by decide)); clear ho hb hg hat hl5)
                  | (go_at_call 16; refine (HRUN.out A5 c5 wn HC5.out).mono ?_; rintro e w6 ⟨v6, rfl, hr, hb⟩; obtain ⟨A6, c6, rfl⟩ := Kd.R_slice hr; have hl6 : (out ++ [v]).length = kk + 1 := (by rw [List.length_append, HOL.out]; rfl); rw [hl6] at hr ⊢; have HA := Aside0.mk hr; have HN6 := Aside0.mk ((hb.block _ (blk_lt HN5.out)).trans HN5.out); have B6 := Aside0.mk (btrans B5.out hb); clear hr hb hl6))
                have hsum1 := sumI_bd out HOB.out
                have HRD := Aside0.mk (show Rd w6 A6 (out ++ [v]) from by have h := (Kd.R_reads' HA.out).2.2; exact h)
                go_loopg [18, 19] kk (fun gg v18 v19 wl => ∃ m : Nat, m ≤ kk ∧ kk - m ≤ gg ∧ v18 = .int .i64 (sumI (out.take m)) ∧ v19 = .int .i64 m ∧ w6 = wl)
                case atStart => exact ⟨0, Nat.zero_le _, by omega, rfl, rfl, rfl⟩
                case round =>
                  obtain ⟨m, hm, hgm, rfl, rfl, hw⟩ := hrel
                  subst hw
                  by_cases hmk : m < kk
                  · obtain ⟨ad6, rfl, hcm⟩ := (HRD.out).at m (by rw [List.length_append, HOL.out]; show m < kk + 1; omega)
                    have hgm2 : (out ++ [v]).getD m 0 = out.getD m 0 := by rw [List.getD_eq_getElem?_getD, List.getElem?_append_left (by rw [HOL.out]; exact hmk), ← List.getD_eq_getElem?_getD]
                    rw [hgm2] at hcm
                    have hst := sumI_take out m (by rw [HOL.out]; exact hmk)
                    have hb0 := hsum1 m
                    have hb1 := hsum1 (m + 1)
                    rw [hst] at hb1
                    have HST := Aside0.mk hst
                    clear hst
                    generalize out.getD m 0 = o at *
                    generalize sumI (out.take m) = sm at *
                    have hwr : IntKind.i64.wrap (sm + o) = sm + o := IntWalk.i64_in _ (by omega)
                    go_wp2
                    go_roundg (kk - (m + 1))
                    case measure => omega
                    case rel => exact ⟨m + 1, by omega, by omega, by rw [HST.out], by go_num, rfl⟩
                  · obtain rfl : m = kk := by omega
                    rw [List.take_of_length_le (by rw [HOL.out]; exact Nat.le_refl _)]
                    obtain ⟨P, hP⟩ : ∃ P : Nat → Bool, P = fun i => firstP F i i := ⟨_, rfl⟩
                    have HSM := HSUM.out
                    rw [← hP] at HSM
                    rw [HSM]
                    have hPn := cntP_le P 8
                    have HPF := Aside0.mk (fun i => congrFun hP i)
                    clear hP HSM hsum1
                    go_wp2
                    go_loopg [20, 21, 22, 23] 8 (fun gg v20 v21 v22 v23 wl => ∃ i : Nat, i ≤ 8 ∧ 8 - i ≤ gg ∧ v20 = .int .i64 (cntP P i) ∧ v21 = .int .i64 i ∧ w6 = wl)
                    case atStart => exact ⟨0, Nat.zero_le _, by omega, rfl, rfl, rfl⟩
                    case round =>
                      obtain ⟨i, hi, hgi, rfl, rfl, hw⟩ := hrel
                      subst hw
                      by_cases hi8 : i < 8
                      · have hii : (i : Int) < 8 := by omega
                        have hci := cntP_le P i
                        have HCS := Aside0.mk (show cntP P (i + 1) = cntP P i + (if P i = true then 1 else 0) from rfl)
                        generalize cntP P i = ci at *
                        have hwc : IntKind.i64.wrap ((ci : Int) + 1) = (ci : Int) + 1 := IntWalk.i64_in _ (by omega)
                        go_wp2
                        go_loopg [22, 23] i (fun gg v22 v23 wl => ∃ j : Nat, j ≤ i ∧ i - j ≤ gg ∧ v22 = .bool (firstP F i j) ∧ v23 = .int .i64 j ∧ w6 = wl)
                        case atStart => exact ⟨0, Nat.zero_le _, by omega, rfl, rfl, rfl⟩
                        case round =>
                          obtain ⟨j, hj, hgj, rfl, rfl, hw⟩ := hrel
                          subst hw
                          by_cases hji : j < i
                          · have hj8 : (j : Int) < 8 := by omega
                            have hjii : (j : Int) < (i : Int) := by omega
                            have HFS := Aside0.mk (show firstP F i (j + 1) = (firstP F i j && !F (8 * i + j)) from rfl)
                            have cij := (Go.Lib.cell_of_heap HN6.out (i * 8 + j)).trans (nearC_at F (i * 8 + j) (by omega))
                            rw [Nat.mul_comm 8 i] at HFS
                            generalize F (i * 8 + j) = q at *
                            cases hf : firstP F i j with
                            | true =>
                              rw [hf] at HFS
                              clear hf
                              go_wp2
                              go_roundg (i - (j + 1))
                              case measure => omega
                              case rel => exact ⟨j + 1, by omega, by omega, by rw [HFS.out, Bool.true_and], by go_num, rfl⟩
                            | false =>
                              rw [hf] at HFS
                              clear hf
                              go_wp2
                              go_roundg (i - (j + 1))
                              case measure => omega
                              case rel => exact ⟨j + 1, by omega, by omega, by rw [HFS.out, Bool.false_and], by go_num, rfl⟩
                          · obtain rfl : j = i := by omega
                            rw [← HPF.out j]
                            cases hpj : P j with
                            | true =>
                              rw [hpj] at HCS
                              clear hpj
                              go_wp2
                              go_roundg (8 - (j + 1))
                              case measure => omega
                              case rel => exact ⟨j + 1, by omega, by omega, by rw [HCS.out]; simp, by go_num, rfl⟩
                            | false =>
                              rw [hpj] at HCS
                              clear hpj
                              go_wp2
                              go_roundg (8 - (j + 1))
                              case measure => omega
                              case rel => exact ⟨j + 1, by omega, by omega, by rw [HCS.out]; simp, by go_num, rfl⟩
                      · obtain rfl : i = 8 := by omega
                        obtain ⟨ad6, rfl, hcm⟩ := (HRD.out).at m (by rw [List.length_append, HOL.out]; show m < m + 1; omega)
                        have hgm2 : (out ++ [v]).getD m 0 = v := by rw [List.getD_eq_getElem?_getD, List.getElem?_append_right (by rw [HOL.out]; exact Nat.le_refl _), HOL.out, Nat.sub_self]; rfl
                        rw [hgm2] at hcm
                        have cxy := (Go.Lib.cell_of_heap HN6.out (x * 8 + y)).trans (nearC_at F (x * 8 + y) (by omega))
                        have hvv := HV.out
                        rw [Nat.mul_comm 8 x] at hvv
                        generalize F (x * 8 + y) = q at *
                        have hveq : (v == 1) = q := by rw [← hvv]; rfl
                        clear hvv hgm2
                        generalize cntP P 8 = ci at *
                        have hwc : IntKind.i64.wrap (8 - (ci : Int)) = 8 - (ci : Int) := IntWalk.i64_in _ (by omega)
                        have hlm : (m : Int) < ((m + 1 : Nat) : Int) := by omega
                        go_wp2
                        go_quiet (fail)
                        go_wp2
                        go_ret
                        exact ⟨rfl, pw_below_drewN B6.out nq⟩
theorem unions_row (a0 : Option Addr) (len0 cap0 : Nat) (z0 : List Int) (x0 y0 : Int) (w : World) (w0 : (a0 = none ∧ len0 = 0 ∧ cap0 = 0 ∧ z0 = []) ∨ ∃ x, a0 = some x ∧ len0 ≤ cap0 ∧ cap0 ≤ maxLen ∧ z0.length = cap0 ∧ (∀ i, i < z0.length → w.cell? (x.add i) = some (.int .i64 (z0.getD i 0))) ∧ ∀ n ∈ z0, (Lit.int .i64 n).wf = true) (_y0 : len0 * 8 ≤ 140737488351232) (_w1 : (Lit.int .i64 x0).wf = true) (_w2 : (Lit.int .i64 y0).wf = true) :
    Calls Try.prog 7 #[.slice a0 len0 cap0, .int .i64 x0, .int .i64 y0] w fun e w' => e = .returned (.bool true) ∧ Below w.heap.size w w' := by
  obtain ⟨l0, rfl, hr0, hm0, hw0, hc0⟩ := ReadsInt.ofRowC w0
  exact un_walk _ _ l0 x0 y0 w (Kd.C_of_reads (d := (0 : Int)) (h1 := fun _ => rfl) hr0)
end Go.Proofs.Ytiialjmpfeopjaa.UnV
