/- litmus.Interleavings: its contract: plain lemmas; no condition. -/
import Derived.Test.YtgfbgbclpeihdaaLiN
namespace Go.Proofs.Ytgfbgbclpeihdaa.Li
open Go.RowKit Go.Proofs.YtgfbgbclpeihdaaW.PrintWords Go.Proofs.YtgfbgbclpeihdaaW.PrintLast Go.Proofs.YtgfbgbclpeihdaaW.PrintMore
set_option linter.unusedVariables false
set_option linter.unusedSimpArgs false
set_option maxHeartbeats 8000000
set_option maxRecDepth 100000
theorem inter_bad (P : List (List LOp)) (A : Option Addr) (c : Nat) (w : World) (hp : PAt w A P) (hl : P.flatten.length ≤ 1000000) (hl2 : P.length ≤ 1000000) (hz : checkL P ≠ 0) :
    Calls Try.prog 17 #[.agg #[.slice A P.length c]] w fun e w' => e = .returned (.tuple #[.slice none 0 0, .int .i64 (checkL P)]) ∧ Below w.heap.size w w' := by
  have n0 := heap_alloc_new w (.cells #[.slice A P.length c] 24 (0, 0))
  have k0 : (w.alloc (.cells #[.slice A P.length c] 24 (0, 0))).cell? ⟨w.heap.size, 0, none⟩ = some (.slice A P.length c) := (Go.Lib.cell_of_heap n0 0).trans rfl
  have B := Aside0.mk (al1 w (.cells #[.slice A P.length c] 24 (0, 0)))
  have HC := Aside0.mk (check_calls P A c (w.alloc (.cells #[.slice A P.length c] 24 (0, 0))) (hp.below B.out) hl hl2)
  generalize checkL P = r at *
  have hzb : (r != (0 : Int)) = true := by simp; exact hz
  clear n0 hp hl hl2 hz
  go_enter Try.func17, Try.ntmps17
  go_wp2_with (first | (go_at_call 14; refine HC.out.mono ?_; rintro e w2 ⟨rfl, hb⟩; have HB := Aside0.mk (btrans B.out hb); clear hb))
  go_ret2
  exact ⟨rfl, HB.out⟩
theorem rdE_of {W : World} {B g : Nat} {e : RowE} {cs : Array Value} (h : Kd.R (Kd.int .i64) 3 W B (fun _ => True) (encE e) e.2.2) (hl : e.2.2.length ≤ 1000000) (hg : W.heap[g]? = some (.cells cs 46 (0, 0))) : RdE W e ∧ e.1 ≠ g ∧ e.1 < W.heap.size := by
  obtain ⟨cells, hc⟩ := Kd.R_typed h e.1 rfl
  refine ⟨⟨fun j hj => ?_, hl⟩, fun e2 => ?_, blk_lt hc⟩
  · have := (Kd.R_cell (0 : Int) h j (by omega) (by omega)).1
    simpa [rdOf] using this
  · rw [e2, hg] at hc
    injection hc with hc
    injection hc with _ hc
    exact absurd hc (by decide)
theorem inter_good (P : List (List LOp)) (A : Option Addr) (c : Nat) (w : World) (hp : PAt w A P) (hl : P.flatten.length ≤ 1000000) (hl2 : P.length ≤ 1000000) (hz : checkL P = 0) :
    Calls Try.prog 17 #[.agg #[.slice A P.length c]] w fun e w' => ∃ v R, e = .returned (.tuple #[v, .int .i64 0]) ∧ Kd.R (Kd.slice 3 (Kd.int .i64)) 46 w' w.heap.size (fun _ => True) v R ∧ AscL R ∧ (∀ x, x ∈ R ↔ x ∈ outAll P) ∧ Below w.heap.size w w' := by
  obtain ⟨h3, hok, h14, hne⟩ := small hz
  have HW := Aside0.mk (fun gp gw ga => walk_all w A c P gp gw ga hp h3 hok (fun t => by have := getD_len (P := P) t; omega) (P.flatten.length + 1))
  have HREM := Aside0.mk (show rem P [0, 0, 0] < P.flatten.length + 1 from by have := rem_le h3; omega)
  have HBD := Aside0.mk (show (outAll P).length ≤ 1000000000000 from by
    have h := outsL_bound P h3 (P.flatten.length + 1) mem0
    have h2 : 6 ^ (P.flatten.length + 1) ≤ 6 ^ 15 := Nat.pow_le_pow_right (by decide) (by omega)
    unfold outAll
    have h5 : 6 ^ 15 = 470184984576 := by decide
    omega)
  have HNE := Aside0.mk (show outAll P ≠ [] from outsL_ne P h3 (P.flatten.length + 1) mem0 rfl (fun k hk => by rcases lt3 hk with rfl | rfl | rfl <;> exact Nat.zero_le _) HREM.out)
  have n0 := heap_alloc_new w (.cells #[.slice A P.length c] 24 (0, 0))
  have k0 : (w.alloc (.cells #[.slice A P.length c] 24 (0, 0))).cell? ⟨w.heap.size, 0, none⟩ = some (.slice A P.length c) := (Go.Lib.cell_of_heap n0 0).trans rfl
  have B := Aside0.mk (al1 w (.cells #[.slice A P.length c] 24 (0, 0)))
  have N0 := Aside0.mk n0
  have HC := Aside0.mk (check_calls P A c (w.alloc (.cells #[.slice A P.length c] 24 (0, 0))) (hp.below B.out) hl hl2)
  rw [hz] at HC
  clear n0 hp hl hl2 hz h3 hok h14 hne
  go_enter Try.func17, Try.ntmps17
  go_upto_region 7 with (first | (go_at_call 14; refine HC.out.mono ?_; rintro e w2 ⟨rfl, hb⟩; have N2 := Aside0.mk ((hb.block _ (blk_lt N0.out)).trans N0.out); have HB := Aside0.mk (btrans B.out hb); clear hb))
  (try simp only [Act.put, List.setIfInBounds_toArray, List.set_cons_zero, List.set_cons_succ])
  have ba := al1 w2 (.cells #[.slice none 0 0] 33 (0, 0))
  have hs2 : (w2.alloc (.cells #[.slice none 0 0] 33 (0, 0))).heap.size = w2.heap.size + 1 := by show (w2.heap.push _).size = _; rw [Array.size_push]
  have bf := al1 (w2.alloc (.cells #[.slice none 0 0] 33 (0, 0))) (.cells #[.func (.func 36) #[] #[.pointer (some ⟨w.heap.size, 0, none⟩), .pointer (some ⟨w2.heap.size + 1, 0, none⟩), .pointer (some ⟨w2.heap.size, 0, none⟩)]] 49 (0, 0))
  have na := heap_alloc_new w2 (.cells #[.slice none 0 0] 33 (0, 0))
  have nf := heap_alloc_new (w2.alloc (.cells #[.slice none 0 0] 33 (0, 0))) (.cells #[.func (.func 36) #[] #[.pointer (some ⟨w.heap.size, 0, none⟩), .pointer (some ⟨w2.heap.size + 1, 0, none⟩), .pointer (some ⟨w2.heap.size, 0, none⟩)]] 49 (0, 0))
  rw [hs2] at nf
  have E3 := Aside0.mk (show Env w ((w2.alloc (.cells #[.slice none 0 0] 33 (0, 0))).alloc (.cells #[.func (.func 36) #[] #[.pointer (some ⟨w.heap.size, 0, none⟩), .pointer (some ⟨w2.heap.size + 1, 0, none⟩), .pointer (some ⟨w2.heap.size, 0, none⟩)]] 49 (0, 0))) A c P w.heap.size (w2.heap.size + 1) w2.heap.size (.slice none 0 0) from ⟨(bf.block _ (blk_lt ((ba.block _ (blk_lt N2.out)).trans N2.out))).trans ((ba.block _ (blk_lt N2.out)).trans N2.out), nf, (bf.block _ (blk_lt na)).trans na, btrans (btrans HB.out ba) bf, HB.out.size⟩)
  clear ba hs2 bf na nf
  generalize (w2.alloc (.cells #[.slice none 0 0] 33 (0, 0))).alloc (.cells #[.func (.func 36) #[] #[.pointer (some ⟨w.heap.size, 0, none⟩), .pointer (some ⟨w2.heap.size + 1, 0, none⟩), .pointer (some ⟨w2.heap.size, 0, none⟩)]] 49 (0, 0)) = W3 at *
  have HWK := Aside0.mk (show Calls Try.prog 36 #[.agg #[.int .i64 0, .int .i64 0, .int .i64 0, .int .i64 0, .int .i64 0, .int .i64 0, .slice none 0 0, .slice none 0 0, .slice none 0 0], .pointer (some ⟨w.heap.size, 0, none⟩), .pointer (some ⟨w2.heap.size + 1, 0, none⟩), .pointer (some ⟨w2.heap.size, 0, none⟩)] W3 _ from HW.out w.heap.size (w2.heap.size + 1) w2.heap.size W3 [0, 0, 0] [0, 0, 0] (fun _ => none) (fun _ => 0) (fun _ => []) (.slice none 0 0) [] E3.out ⟨Kd.R_nil _ _ _ _ _, fun e he => by simp at he⟩ rfl rfl (fun k hk => Kd.R_nil _ _ _ _ _) (fun k hk => ⟨by rcases lt3 hk with rfl | rfl | rfl <;> exact Nat.zero_le _, Nat.zero_le _⟩) HREM.out (by have := HBD.out; rw [List.length_nil, Nat.zero_add]; exact this))
  have fe := E3.out.fe
  generalize hga : w2.heap.size = ga at *
  clear k0 hga
  go_wp2_with (first
    | (go_at_call 36; refine HWK.out.mono ?_; rintro e W4 ⟨rfl, va, es, henv, hall, hmap, hk⟩; have hmap2 : es.map (·.2.2) = outAll P := hmap; have hpos : 0 < es.length := (by have h := HNE.out; rw [← hmap2] at h; exact List.length_pos_iff.2 (fun e => h (by rw [e]; rfl))); have hlen : es.length ≤ 1000000000000 := (by have h := HBD.out; rw [← hmap2, List.length_map] at h; exact h); obtain ⟨g, cap, eva, hg, hgl, gcs, hgc⟩ := Kd.R_form hall.1 hpos; subst eva; have ae := henv.ae; have ELT := Aside0.mk hlen; have EPS := Aside0.mk hpos; have EB := Aside0.mk henv.b; have EA := Aside0.mk henv.a; have RA := Aside0.mk hall; have MAPS := Aside0.mk hmap2; have GC := Aside0.mk hgc; have HGB := Aside0.mk hg; have TOP := Aside0.mk (show Top W4 w.heap.size g cap es from Kd.own_of_R hall.1); have GA := Aside0.mk (show ga ≠ g from fun e2 => by have h2 := henv.a; rw [e2, hgc] at h2; injection h2 with h2; injection h2 with _ h2; exact absurd h2 (by decide)); have SO := Aside0.mk (sort_calls TOP.out hpos (fun e he => rdE_of (hall.2 e he).1 (hall.2 e he).2 hgc) hlen); clear henv hall hmap hk hmap2 hpos hlen hg hgl hgc HWK fe)
    | (go_at_call 40; refine SO.out.mono ?_; rintro e W5 ⟨rfl, es2, htop, hl2, hmem, hsrt, hgr⟩; have ae := (Go.Lib.cell_of_heap ((hgr.block ga (blk_lt EA.out) (fun e2 => GA.out (by injection e2))).trans EA.out) 0).trans rfl; simp only [List.getElem?_toArray, List.getElem?_cons_zero] at ae; have TOP2 := Aside0.mk htop; have MEM := Aside0.mk hmem; have SRT := Aside0.mk hsrt; have GR := Aside0.mk hgr; have LL := Aside0.mk hl2; have CO := Aside0.mk (by have h := compact_calls htop (fun e he => (by obtain ⟨h1, h2, h3⟩ := rdE_of (RA.out.2 e ((hmem e).1 he)).1 (RA.out.2 e ((hmem e).1 he)).2 GC.out; exact ⟨h1.same (hgr.block _ h3 (fun e2 => h2 (by injection e2))), h2, Nat.lt_of_lt_of_le h3 hgr.size⟩)) (by have := EPS.out; omega) (by have := ELT.out; omega); rw [hl2] at h; exact h); clear htop hl2 hmem hsrt hgr SO)
    | (go_at_call 42; refine CO.out.mono ?_; rintro e W6 ⟨rfl, htop, hgr⟩; have TOP3 := Aside0.mk htop; have GR2 := Aside0.mk hgr; clear htop hgr CO))
  go_ret2
  refine ⟨_, (keepE es2 es.length).map (·.2.2), rfl, ?_, ?_, fun x => ?_, ?_⟩
  · refine rows_of (Kd.R_of_own (h1 := fun _ => rfl) TOP3.out (fun _ _ => trivial)) (fun e he => ?_)
    obtain ⟨i, hi, _, rfl⟩ := keepE_sub es2 es.length (by rw [LL.out]; exact Nat.le_refl _) e he
    have h1 := (RA.out.2 (es2[i]) ((MEM.out _).1 (List.getElem_mem hi))).1
    have h2 := Kd.R_types h1 GC.out (by intro q hq; have e3 : q = 3 := (by simpa [Kd.int, Kd.scalar] using hq); subst e3; decide)
    exact Kd.R_mono (Kd.R_grown h2 (grown_trans GR.out GR2.out) (fun k hk e2 => hk.2 (by injection e2))) (fun _ _ => trivial)
  · exact keepE_asc es2 (SRT.out.imp (fun h => by omega)) es.length (by rw [LL.out]; exact Nat.le_refl _)
  · rw [← MAPS.out]
    constructor
    · intro hx
      obtain ⟨e, he, rfl⟩ := List.mem_map.1 hx
      obtain ⟨i, hi, _, rfl⟩ := keepE_sub es2 es.length (by rw [LL.out]; exact Nat.le_refl _) e he
      exact List.mem_map.2 ⟨es2[i], (MEM.out _).1 (List.getElem_mem hi), rfl⟩
    · intro hx
      obtain ⟨e, he, rfl⟩ := List.mem_map.1 hx
      obtain ⟨i, hi, rfl⟩ := List.getElem_of_mem ((MEM.out e).2 he)
      obtain ⟨e2, h1, h2⟩ := keepE_mem es2 es.length (by rw [LL.out]; exact Nat.le_refl _) i hi (by rw [← LL.out]; exact hi)
      exact List.mem_map.2 ⟨e2, h1, h2⟩
  · exact EB.out.grown (grown_trans GR.out GR2.out) EB.out.size (fun j hj => by injection hj with hj; subst hj; exact HGB.out)
end Go.Proofs.Ytgfbgbclpeihdaa.Li
