/- That a set has what was added and not taken out since, and that all tells just that: the law, walked; no condition. -/
import Derived.Test.YtiialjmpfeopjaaLrV
import Derived.Test.YtiialjmpfeopjaaPwS
namespace Go.Proofs.Ytiialjmpfeopjaa.SeV
open Go.RowKit Go.Sort Go.Proofs.Ytiialjmpfeopjaa.XSa Go.Proofs.Ytiialjmpfeopjaa.LrV Go.Proofs.Ytiialjmpfeopjaa.Sp Go.Proofs.YtiialjmpfeopjaaW.PrintWords Go.Proofs.YtiialjmpfeopjaaW.PrintLast Go.Proofs.YtiialjmpfeopjaaW.PrintMore
set_option linter.unusedVariables false
set_option linter.unusedSimpArgs false
set_option maxHeartbeats 8000000
set_option maxRecDepth 100000
def hereC (here : Nat → Bool) : Array Value := #[.bool (here 0), .bool (here 1), .bool (here 2), .bool (here 3), .bool (here 4), .bool (here 5), .bool (here 6), .bool (here 7), .bool (here 8), .bool (here 9), .bool (here 10), .bool (here 11), .bool (here 12), .bool (here 13), .bool (here 14), .bool (here 15)]
theorem hereC_at (here : Nat → Bool) (k : Nat) (hk : k < 16) : (hereC here)[k]? = some (.bool (here k)) := by
  match k, hk with
  | 0, _ | 1, _ | 2, _ | 3, _ | 4, _ | 5, _ | 6, _ | 7, _ | 8, _ | 9, _ | 10, _ | 11, _ | 12, _ | 13, _ | 14, _ | 15, _ => rfl
  | k + 16, h => omega
theorem hereC_set (here : Nat → Bool) (k : Nat) (hk : k < 16) (b : Bool) : (hereC here).setIfInBounds k (.bool b) = hereC (upd here k b) := by
  match k, hk with
  | 0, _ | 1, _ | 2, _ | 3, _ | 4, _ | 5, _ | 6, _ | 7, _ | 8, _ | 9, _ | 10, _ | 11, _ | 12, _ | 13, _ | 14, _ | 15, _ => rfl
  | k + 16, h => omega
def setS (q : Int × Nat) : S27 := ⟨setOp q.1, (q.2 : Int), 0⟩
theorem setS_call (l : List (Int × Nat)) : (l.map setS).map callT = l.map setC := by rw [List.map_map]; rfl
theorem k27_M (W : World) (base : Nat) (ok : Nat → Prop) (s : ByteArray) (x y : Int) : k27.M W base ok ⟨s, x, y⟩ [.string s, .int .i64 x, .int .i64 y] := ⟨[.string s], [.int .i64 x, .int .i64 y], rfl, rfl, [.int .i64 x], [.int .i64 y], rfl, rfl, rfl⟩
theorem blk_over {w w' : World} {k : Nat} {u : Value} {e : Nat} {cs : Array Value} (h : w.heap[k]? = some (.cells cs 33 (0, 0))) (hg : w.grownBy w' u.ownBlock) (ht : ∀ j, u.ownBlock = some j → ∃ cells, w.heap[j]? = some (.cells cells e (0, 0))) (he : e ≠ 33) : w'.heap[k]? = some (.cells cs 33 (0, 0)) := by
  refine (hg.block k (blk_lt h) (fun q => ?_)).trans h
  obtain ⟨c, hc⟩ := ht k q.symm
  rw [h] at hc
  injection hc with hc
  injection hc with _ hc
  exact he hc.symm
theorem hor_bd (here : Nat → Bool) : ∀ m, m ≤ 16 → 0 ≤ hor here m ∧ hor here m ≤ 65535 := by
  have key : ∀ m, 0 ≤ hor here m ∧ hor here m + 1 ≤ 2 ^ m := by
    intro m
    induction m with
    | zero => exact ⟨(by show (0 : Int) ≤ 0; decide), (by show (0 : Int) + 1 ≤ 2 ^ 0; decide)⟩
    | succ m ih =>
      have hb : 0 ≤ bitI here (15 - m) ∧ bitI here (15 - m) ≤ 1 := by unfold bitI; split <;> omega
      have : hor here (m + 1) = 2 * hor here m + bitI here (15 - m) := rfl
      rw [this, Int.pow_succ]
      omega
  intro m hm
  refine ⟨(key m).1, ?_⟩
  have h1 := (key m).2
  have h2 : (2 : Int) ^ m ≤ 2 ^ 16 := by
    have := Nat.pow_le_pow_right (n := 2) (by omega) hm
    exact_mod_cast this
  have h3 : (2 : Int) ^ 16 = 65536 := by decide
  omega
theorem se_walk (A0 : Option Addr) (c0 : Nat) (l0 : List Int) (w : World) (hr : Rd w A0 l0) :
    Calls Try.prog 6 #[.slice A0 l0.length c0] w fun e w' => e = .returned (.bool true) ∧ Below w.heap.size w w' := by
  have HR := Aside0.mk hr
  have hmx := hr.max
  clear hr
  go_enter Try.func6, Try.ntmps6
  go_wp2_with (go_at_call 15; refine (locklesslaw18_awake.calls true _ awake_true).mono ?_; rintro e w1 ⟨rfl, hb⟩; have B1 := Aside0.mk hb; have N5 := Aside0.mk (heap_alloc_new w1 (.cells (hereC fun _ => false) 33 (0, 0))); clear hb)
  obtain ⟨k0, hk0⟩ : ∃ k, k = w1.heap.size := ⟨_, rfl⟩
  have HK := Aside0.mk (show w.heap.size ≤ k0 from by rw [hk0]; exact B1.out.size)
  rw [← hk0] at N5 ⊢
  clear hk0
  go_loopg [3, 4, 6, 7, 8, 9] l0.length (fun gg v3 v4 v6 v7 v8 v9 wr => ∃ (kk : Nat) (qs : List (Int × Nat)), kk ≤ l0.length ∧ l0.length - kk ≤ gg ∧ v6 = .int .i64 kk ∧ qs.length = kk ∧ kk ≤ 20 ∧ Aside0 (∀ q ∈ qs, q.2 < 16) ∧ Aside0 (k27.R 27 wr w.heap.size (fun _ => True) v3 (qs.map setS)) ∧ Aside0 (Kd.R (Kd.int .i64) 3 wr w.heap.size (fun _ => True) v4 (setRun qs fun _ => false).1) ∧ Aside0 (wr.heap[k0]? = some (.cells (hereC (setRun qs fun _ => false).2) 33 (0, 0))) ∧ Aside0 (Below w.heap.size w wr))
  case atStart => exact ⟨0, [], Nat.zero_le _, by omega, rfl, rfl, by omega, ⟨fun q hq => by cases hq⟩, ⟨Kd.R_nil _ _ _ _ _⟩, ⟨Kd.R_nil _ _ _ _ _⟩, N5, ⟨btrans B1.out (al1 w1 _)⟩⟩
  case round =>
    clear N5 B1
    obtain ⟨kk, qs, hkk, hgg, rfl, hql, h20, HQ, HC, HW, HN, HB⟩ := hrel
    by_cases hlt : kk < l0.length ∧ kk < 20
    · obtain ⟨hlt, h20b⟩ := hlt
      obtain ⟨ad, rfl, hc⟩ := (HR.out.below HB.out).at kk hlt
      generalize l0.getD kk 0 = z at hc
      have hb3 : Go.bits .and .i64 z 3 = z % 4 := i64_and3 z
      have hx15 : Go.bits .and .i64 (z / 4) 15 = (z / 4) % 16 := i64_low (z / 4) 4 (by decide)
      obtain ⟨k, hk⟩ : ∃ k : Nat, (z / 4) % 16 = (k : Int) := ⟨((z / 4) % 16).toNat, by omega⟩
      have hk16 : k < 16 := by omega
      rw [hk] at hx15
      have hk0i : (0 : Int) ≤ (k : Int) := by omega
      have hk1i : (k : Int) < 16 := by omega
      obtain ⟨want, hw0⟩ : ∃ l, l = (setRun qs fun _ => false).1 := ⟨_, rfl⟩
      obtain ⟨here, hh0⟩ : ∃ h, h = (setRun qs fun _ => false).2 := ⟨_, rfl⟩
      have hwl : want.length = kk := by rw [hw0, setRun_len, hql]
      rw [← hw0] at HW
      rw [← hh0] at HN
      have ck := (Go.Lib.cell_of_heap HN.out k).trans (hereC_at here k hk16)
      have fk : wr.frozen? ⟨k0, k, none⟩ = false := blk_frozen HN.out k
      have HQL := Aside0.mk hql
      have hlq : qs.length ≤ 20 := by omega
      have hz4 : z % 4 = 0 ∨ z % 4 = 1 ∨ z % 4 = 2 ∨ z % 4 = 3 := by omega
      clear hql hk
      rcases hz4 with hz | hz | hz | hz
      · have hbz : Go.bits .and .i64 z 3 = 0 := hb3.trans hz
        clear hb3 hz
        cases hhv : here k with
        | true =>
          rw [hhv] at ck
          have HC2 := Aside0.mk (Kd.R_set HC.out HN.out (by decide) k (.bool true))
          have HW2 := Aside0.mk (Kd.R_set HW.out HN.out (by decide) k (.bool true))
          have HB2 := Aside0.mk (HB.out.setCell (p := ⟨k0, k, none⟩) HK.out (.bool true))
          have HN2 := Aside0.mk (show (wr.setCell ⟨k0, k, none⟩ (.bool true)).heap[k0]? = some (.cells (hereC (upd here k true)) 33 (0, 0)) from by rw [blk_set HN.out k (.bool true), hereC_set here k hk16 true])
          have hsz2 : (wr.setCell ⟨k0, k, none⟩ (.bool true)).heap.size = wr.heap.size := World.size_setCell _ _ _
          have HSN := Aside0.mk (show setRun (qs ++ [(0, k)]) (fun _ => false) = (want ++ [0], upd here k true) from by rw [setRun_snoc, ← hw0, ← hh0]; unfold setRes setNext; rw [hhv]; rfl)
          clear hw0 hh0
          go_wp2_with (first
            | ((with_reducible refine gate_builtin (b := .append) (xs := #[.tmp 57, .tmp 61]) rfl ?_); at_builtin; refine Kd.R_append k27 (w0 := w) (W := (wr.setCell ⟨k0, k, none⟩ (.bool true))) w.heap.size rfl (.tmp 57) (.tmp 61) 24 27 (.agg #[.string ⟨#[]⟩, .int .i64 0, .int .i64 0]) 32 rfl Try.underlying24 info27 rfl (by decide) (by omega) u3 (qs.map setS) ⟨⟨#[97, 100, 100]⟩, (k : Int), 0⟩ [.string ⟨#[97, 100, 100]⟩, .int .i64 k, .int .i64 0] (fun _ => True) (fun _ => False) rfl (by first | rfl | (rw [World.size_setCell]; rfl)) (k27_M _ _ _ _ _ _) (fun _ hk => hk.elim) (fun _ _ => trivial) HC2.out HB2.out HB2.out.size (by rw [List.length_map]; omega) ?_; intro v1 wn ho hb hg hat; have HC3 := Aside0.mk ho; have HB3 := Aside0.mk hb; have HW3 := Aside0.mk (Kd.R_over' HW2.out (fun j hj => Kd.R_typed HC2.out j hj) (by decide) hg); have HN3 := Aside0.mk (blk_over HN2.out hg (fun j hj => Kd.R_typed HC2.out j hj) (by decide)); clear ho hb hg hat)
            | ((with_reducible refine gate_builtin (b := .append) (xs := #[.tmp 63, .tmp 65]) rfl ?_); at_builtin; refine Kd.R_append (Kd.int .i64) (w0 := w) (W := wn) w.heap.size rfl (.tmp 63) (.tmp 65) 22 3 (.int .i64 0) 8 rfl Try.underlying22 info3 rfl (by decide) (by omega) u4 want 0 [.int .i64 0] (fun _ => True) (fun _ => False) rfl rfl rfl (fun _ hk => hk.elim) (fun _ _ => trivial) HW3.out HB3.out HB3.out.size (by omega) ?_; intro v2 wm ho hb hg hat; have HW4 := Aside0.mk ho; have HB4 := Aside0.mk hb; have HC4 := Aside0.mk (Kd.R_over' HC3.out (fun j hj => Kd.R_typed HW3.out j hj) (by decide) hg); have HN4 := Aside0.mk (blk_over HN3.out hg (fun j hj => Kd.R_typed HW3.out j hj) (by decide)); clear ho hb hg hat))
          go_roundg (l0.length - (kk + 1))
          case measure => omega
          case rel =>
            refine ⟨kk + 1, qs ++ [(0, k)], by omega, by omega, by go_num, by rw [List.length_append, HQL.out]; rfl, by omega, ⟨fun q hq => ?_⟩, ⟨?_⟩, ⟨?_⟩, ⟨?_⟩, HB4⟩
            · rcases List.mem_append.1 hq with e | e
              · exact HQ.out q e
              · rw [List.mem_singleton.1 e]; exact hk16
            · rw [List.map_append]; exact HC4.out
            · rw [HSN.out]; exact HW4.out
            · rw [HSN.out]; exact HN4.out
        | false =>
          rw [hhv] at ck
          have HC2 := Aside0.mk (Kd.R_set HC.out HN.out (by decide) k (.bool true))
          have HW2 := Aside0.mk (Kd.R_set HW.out HN.out (by decide) k (.bool true))
          have HB2 := Aside0.mk (HB.out.setCell (p := ⟨k0, k, none⟩) HK.out (.bool true))
          have HN2 := Aside0.mk (show (wr.setCell ⟨k0, k, none⟩ (.bool true)).heap[k0]? = some (.cells (hereC (upd here k true)) 33 (0, 0)) from by rw [blk_set HN.out k (.bool true), hereC_set here k hk16 true])
          have hsz2 : (wr.setCell ⟨k0, k, none⟩ (.bool true)).heap.size = wr.heap.size := World.size_setCell _ _ _
          have HSN := Aside0.mk (show setRun (qs ++ [(0, k)]) (fun _ => false) = (want ++ [1], upd here k true) from by rw [setRun_snoc, ← hw0, ← hh0]; unfold setRes setNext; rw [hhv]; rfl)
          clear hw0 hh0
          go_wp2_with (first
            | ((with_reducible refine gate_builtin (b := .append) (xs := #[.tmp 57, .tmp 61]) rfl ?_); at_builtin; refine Kd.R_append k27 (w0 := w) (W := (wr.setCell ⟨k0, k, none⟩ (.bool true))) w.heap.size rfl (.tmp 57) (.tmp 61) 24 27 (.agg #[.string ⟨#[]⟩, .int .i64 0, .int .i64 0]) 32 rfl Try.underlying24 info27 rfl (by decide) (by omega) u3 (qs.map setS) ⟨⟨#[97, 100, 100]⟩, (k : Int), 0⟩ [.string ⟨#[97, 100, 100]⟩, .int .i64 k, .int .i64 0] (fun _ => True) (fun _ => False) rfl (by first | rfl | (rw [World.size_setCell]; rfl)) (k27_M _ _ _ _ _ _) (fun _ hk => hk.elim) (fun _ _ => trivial) HC2.out HB2.out HB2.out.size (by rw [List.length_map]; omega) ?_; intro v1 wn ho hb hg hat; have HC3 := Aside0.mk ho; have HB3 := Aside0.mk hb; have HW3 := Aside0.mk (Kd.R_over' HW2.out (fun j hj => Kd.R_typed HC2.out j hj) (by decide) hg); have HN3 := Aside0.mk (blk_over HN2.out hg (fun j hj => Kd.R_typed HC2.out j hj) (by decide)); clear ho hb hg hat)
            | ((with_reducible refine gate_builtin (b := .append) (xs := #[.tmp 63, .tmp 65]) rfl ?_); at_builtin; refine Kd.R_append (Kd.int .i64) (w0 := w) (W := wn) w.heap.size rfl (.tmp 63) (.tmp 65) 22 3 (.int .i64 0) 8 rfl Try.underlying22 info3 rfl (by decide) (by omega) u4 want 1 [.int .i64 1] (fun _ => True) (fun _ => False) rfl rfl rfl (fun _ hk => hk.elim) (fun _ _ => trivial) HW3.out HB3.out HB3.out.size (by omega) ?_; intro v2 wm ho hb hg hat; have HW4 := Aside0.mk ho; have HB4 := Aside0.mk hb; have HC4 := Aside0.mk (Kd.R_over' HC3.out (fun j hj => Kd.R_typed HW3.out j hj) (by decide) hg); have HN4 := Aside0.mk (blk_over HN3.out hg (fun j hj => Kd.R_typed HW3.out j hj) (by decide)); clear ho hb hg hat))
          go_roundg (l0.length - (kk + 1))
          case measure => omega
          case rel =>
            refine ⟨kk + 1, qs ++ [(0, k)], by omega, by omega, by go_num, by rw [List.length_append, HQL.out]; rfl, by omega, ⟨fun q hq => ?_⟩, ⟨?_⟩, ⟨?_⟩, ⟨?_⟩, HB4⟩
            · rcases List.mem_append.1 hq with e | e
              · exact HQ.out q e
              · rw [List.mem_singleton.1 e]; exact hk16
            · rw [List.map_append]; exact HC4.out
            · rw [HSN.out]; exact HW4.out
            · rw [HSN.out]; exact HN4.out
      · have hbz : Go.bits .and .i64 z 3 = 1 := hb3.trans hz
        clear hb3 hz
        cases hhv : here k with
        | true =>
          rw [hhv] at ck
          have HC2 := Aside0.mk (Kd.R_set HC.out HN.out (by decide) k (.bool false))
          have HW2 := Aside0.mk (Kd.R_set HW.out HN.out (by decide) k (.bool false))
          have HB2 := Aside0.mk (HB.out.setCell (p := ⟨k0, k, none⟩) HK.out (.bool false))
          have HN2 := Aside0.mk (show (wr.setCell ⟨k0, k, none⟩ (.bool false)).heap[k0]? = some (.cells (hereC (upd here k false)) 33 (0, 0)) from by rw [blk_set HN.out k (.bool false), hereC_set here k hk16 false])
          have hsz2 : (wr.setCell ⟨k0, k, none⟩ (.bool false)).heap.size = wr.heap.size := World.size_setCell _ _ _
          have HSN := Aside0.mk (show setRun (qs ++ [(1, k)]) (fun _ => false) = (want ++ [1], upd here k false) from by rw [setRun_snoc, ← hw0, ← hh0]; unfold setRes setNext; rw [hhv]; rfl)
          clear hw0 hh0
          go_wp2_with (first
            | ((with_reducible refine gate_builtin (b := .append) (xs := #[.tmp 57, .tmp 61]) rfl ?_); at_builtin; refine Kd.R_append k27 (w0 := w) (W := (wr.setCell ⟨k0, k, none⟩ (.bool false))) w.heap.size rfl (.tmp 57) (.tmp 61) 24 27 (.agg #[.string ⟨#[]⟩, .int .i64 0, .int .i64 0]) 32 rfl Try.underlying24 info27 rfl (by decide) (by omega) u3 (qs.map setS) ⟨⟨#[114, 101, 109]⟩, (k : Int), 0⟩ [.string ⟨#[114, 101, 109]⟩, .int .i64 k, .int .i64 0] (fun _ => True) (fun _ => False) rfl (by first | rfl | (rw [World.size_setCell]; rfl)) (k27_M _ _ _ _ _ _) (fun _ hk => hk.elim) (fun _ _ => trivial) HC2.out HB2.out HB2.out.size (by rw [List.length_map]; omega) ?_; intro v1 wn ho hb hg hat; have HC3 := Aside0.mk ho; have HB3 := Aside0.mk hb; have HW3 := Aside0.mk (Kd.R_over' HW2.out (fun j hj => Kd.R_typed HC2.out j hj) (by decide) hg); have HN3 := Aside0.mk (blk_over HN2.out hg (fun j hj => Kd.R_typed HC2.out j hj) (by decide)); clear ho hb hg hat)
            | ((with_reducible refine gate_builtin (b := .append) (xs := #[.tmp 63, .tmp 65]) rfl ?_); at_builtin; refine Kd.R_append (Kd.int .i64) (w0 := w) (W := wn) w.heap.size rfl (.tmp 63) (.tmp 65) 22 3 (.int .i64 0) 8 rfl Try.underlying22 info3 rfl (by decide) (by omega) u4 want 1 [.int .i64 1] (fun _ => True) (fun _ => False) rfl rfl rfl (fun _ hk => hk.elim) (fun _ _ => trivial) HW3.out HB3.out HB3.out.size (by omega) ?_; intro v2 wm ho hb hg hat; have HW4 := Aside0.mk ho; have HB4 := Aside0.mk hb; have HC4 := Aside0.mk (Kd.R_over' HC3.out (fun j hj => Kd.R_typed HW3.out j hj) (by decide) hg); have HN4 := Aside0.mk (blk_over HN3.out hg (fun j hj => Kd.R_typed HW3.out j hj) (by decide)); clear ho hb hg hat))
          go_roundg (l0.length - (kk + 1))
          case measure => omega
          case rel =>
            refine ⟨kk + 1, qs ++ [(1, k)], by omega, by omega, by go_num, by rw [List.length_append, HQL.out]; rfl, by omega, ⟨fun q hq => ?_⟩, ⟨?_⟩, ⟨?_⟩, ⟨?_⟩, HB4⟩
            · rcases List.mem_append.1 hq with e | e
              · exact HQ.out q e
              · rw [List.mem_singleton.1 e]; exact hk16
            · rw [List.map_append]; exact HC4.out
            · rw [HSN.out]; exact HW4.out
            · rw [HSN.out]; exact HN4.out
        | false =>
          rw [hhv] at ck
          have HC2 := Aside0.mk (Kd.R_set HC.out HN.out (by decide) k (.bool false))
          have HW2 := Aside0.mk (Kd.R_set HW.out HN.out (by decide) k (.bool false))
          have HB2 := Aside0.mk (HB.out.setCell (p := ⟨k0, k, none⟩) HK.out (.bool false))
          have HN2 := Aside0.mk (show (wr.setCell ⟨k0, k, none⟩ (.bool false)).heap[k0]? = some (.cells (hereC (upd here k false)) 33 (0, 0)) from by rw [blk_set HN.out k (.bool false), hereC_set here k hk16 false])
          have hsz2 : (wr.setCell ⟨k0, k, none⟩ (.bool false)).heap.size = wr.heap.size := World.size_setCell _ _ _
          have HSN := Aside0.mk (show setRun (qs ++ [(1, k)]) (fun _ => false) = (want ++ [0], upd here k false) from by rw [setRun_snoc, ← hw0, ← hh0]; unfold setRes setNext; rw [hhv]; rfl)
          clear hw0 hh0
          go_wp2_with (first
            | ((with_reducible refine gate_builtin (b := .append) (xs := #[.tmp 57, .tmp 61]) rfl ?_); at_builtin; refine Kd.R_append k27 (w0 := w) (W := (wr.setCell ⟨k0, k, none⟩ (.bool false))) w.heap.size rfl (.tmp 57) (.tmp 61) 24 27 (.agg #[.string ⟨#[]⟩, .int .i64 0, .int .i64 0]) 32 rfl Try.underlying24 info27 rfl (by decide) (by omega) u3 (qs.map setS) ⟨⟨#[114, 101, 109]⟩, (k : Int), 0⟩ [.string ⟨#[114, 101, 109]⟩, .int .i64 k, .int .i64 0] (fun _ => True) (fun _ => False) rfl (by first | rfl | (rw [World.size_setCell]; rfl)) (k27_M _ _ _ _ _ _) (fun _ hk => hk.elim) (fun _ _ => trivial) HC2.out HB2.out HB2.out.size (by rw [List.length_map]; omega) ?_; intro v1 wn ho hb hg hat; have HC3 := Aside0.mk ho; have HB3 := Aside0.mk hb; have HW3 := Aside0.mk (Kd.R_over' HW2.out (fun j hj => Kd.R_typed HC2.out j hj) (by decide) hg); have HN3 := Aside0.mk (blk_over HN2.out hg (fun j hj => Kd.R_typed HC2.out j hj) (by decide)); clear ho hb hg hat)
            | ((with_reducible refine gate_builtin (b := .append) (xs := #[.tmp 63, .tmp 65]) rfl ?_); at_builtin; refine Kd.R_append (Kd.int .i64) (w0 := w) (W := wn) w.heap.size rfl (.tmp 63) (.tmp 65) 22 3 (.int .i64 0) 8 rfl Try.underlying22 info3 rfl (by decide) (by omega) u4 want 0 [.int .i64 0] (fun _ => True) (fun _ => False) rfl rfl rfl (fun _ hk => hk.elim) (fun _ _ => trivial) HW3.out HB3.out HB3.out.size (by omega) ?_; intro v2 wm ho hb hg hat; have HW4 := Aside0.mk ho; have HB4 := Aside0.mk hb; have HC4 := Aside0.mk (Kd.R_over' HC3.out (fun j hj => Kd.R_typed HW3.out j hj) (by decide) hg); have HN4 := Aside0.mk (blk_over HN3.out hg (fun j hj => Kd.R_typed HW3.out j hj) (by decide)); clear ho hb hg hat))
          go_roundg (l0.length - (kk + 1))
          case measure => omega
          case rel =>
            refine ⟨kk + 1, qs ++ [(1, k)], by omega, by omega, by go_num, by rw [List.length_append, HQL.out]; rfl, by omega, ⟨fun q hq => ?_⟩, ⟨?_⟩, ⟨?_⟩, ⟨?_⟩, HB4⟩
            · rcases List.mem_append.1 hq with e | e
              · exact HQ.out q e
              · rw [List.mem_singleton.1 e]; exact hk16
            · rw [List.map_append]; exact HC4.out
            · rw [HSN.out]; exact HW4.out
            · rw [HSN.out]; exact HN4.out
      · have hbz : Go.bits .and .i64 z 3 = 2 := hb3.trans hz
        clear hb3 hz
        cases hhv : here k with
        | true =>
          rw [hhv] at ck
          have HC2 := HC
          have HW2 := HW
          have HB2 := HB
          have HN2 := HN
          have HSN := Aside0.mk (show setRun (qs ++ [(2, k)]) (fun _ => false) = (want ++ [1], here) from by rw [setRun_snoc, ← hw0, ← hh0]; unfold setRes setNext; rw [hhv]; rfl)
          clear hw0 hh0
          go_wp2_with (first
            | ((with_reducible refine gate_builtin (b := .append) (xs := #[.tmp 57, .tmp 61]) rfl ?_); at_builtin; refine Kd.R_append k27 (w0 := w) (W := wr) w.heap.size rfl (.tmp 57) (.tmp 61) 24 27 (.agg #[.string ⟨#[]⟩, .int .i64 0, .int .i64 0]) 32 rfl Try.underlying24 info27 rfl (by decide) (by omega) u3 (qs.map setS) ⟨⟨#[104, 97, 115]⟩, (k : Int), 0⟩ [.string ⟨#[104, 97, 115]⟩, .int .i64 k, .int .i64 0] (fun _ => True) (fun _ => False) rfl (by first | rfl | (rw [World.size_setCell]; rfl)) (k27_M _ _ _ _ _ _) (fun _ hk => hk.elim) (fun _ _ => trivial) HC2.out HB2.out HB2.out.size (by rw [List.length_map]; omega) ?_; intro v1 wn ho hb hg hat; have HC3 := Aside0.mk ho; have HB3 := Aside0.mk hb; have HW3 := Aside0.mk (Kd.R_over' HW2.out (fun j hj => Kd.R_typed HC2.out j hj) (by decide) hg); have HN3 := Aside0.mk (blk_over HN2.out hg (fun j hj => Kd.R_typed HC2.out j hj) (by decide)); clear ho hb hg hat)
            | ((with_reducible refine gate_builtin (b := .append) (xs := #[.tmp 63, .tmp 65]) rfl ?_); at_builtin; refine Kd.R_append (Kd.int .i64) (w0 := w) (W := wn) w.heap.size rfl (.tmp 63) (.tmp 65) 22 3 (.int .i64 0) 8 rfl Try.underlying22 info3 rfl (by decide) (by omega) u4 want 1 [.int .i64 1] (fun _ => True) (fun _ => False) rfl rfl rfl (fun _ hk => hk.elim) (fun _ _ => trivial) HW3.out HB3.out HB3.out.size (by omega) ?_; intro v2 wm ho hb hg hat; have HW4 := Aside0.mk ho; have HB4 := Aside0.mk hb; have HC4 := Aside0.mk (Kd.R_over' HC3.out (fun j hj => Kd.R_typed HW3.out j hj) (by decide) hg); have HN4 := Aside0.mk (blk_over HN3.out hg (fun j hj => Kd.R_typed HW3.out j hj) (by decide)); clear ho hb hg hat))
          go_roundg (l0.length - (kk + 1))
          case measure => omega
          case rel =>
            refine ⟨kk + 1, qs ++ [(2, k)], by omega, by omega, by go_num, by rw [List.length_append, HQL.out]; rfl, by omega, ⟨fun q hq => ?_⟩, ⟨?_⟩, ⟨?_⟩, ⟨?_⟩, HB4⟩
            · rcases List.mem_append.1 hq with e | e
              · exact HQ.out q e
              · rw [List.mem_singleton.1 e]; exact hk16
            · rw [List.map_append]; exact HC4.out
            · rw [HSN.out]; exact HW4.out
            · rw [HSN.out]; exact HN4.out
        | false =>
          rw [hhv] at ck
          have HC2 := HC
          have HW2 := HW
          have HB2 := HB
          have HN2 := HN
          have HSN := Aside0.mk (show setRun (qs ++ [(2, k)]) (fun _ => false) = (want ++ [0], here) from by rw [setRun_snoc, ← hw0, ← hh0]; unfold setRes setNext; rw [hhv]; rfl)
          clear hw0 hh0
          go_wp2_with (first
            | ((with_reducible refine gate_builtin (b := .append) (xs := #[.tmp 57, .tmp 61]) rfl ?_); at_builtin; refine Kd.R_append k27 (w0 := w) (W := wr) w.heap.size rfl (.tmp 57) (.tmp 61) 24 27 (.agg #[.string ⟨#[]⟩, .int .i64 0, .int .i64 0]) 32 rfl Try.underlying24 info27 rfl (by decide) (by omega) u3 (qs.map setS) ⟨⟨#[104, 97, 115]⟩, (k : Int), 0⟩ [.string ⟨#[104, 97, 115]⟩, .int .i64 k, .int .i64 0] (fun _ => True) (fun _ => False) rfl (by first | rfl | (rw [World.size_setCell]; rfl)) (k27_M _ _ _ _ _ _) (fun _ hk => hk.elim) (fun _ _ => trivial) HC2.out HB2.out HB2.out.size (by rw [List.length_map]; omega) ?_; intro v1 wn ho hb hg hat; have HC3 := Aside0.mk ho; have HB3 := Aside0.mk hb; have HW3 := Aside0.mk (Kd.R_over' HW2.out (fun j hj => Kd.R_typed HC2.out j hj) (by decide) hg); have HN3 := Aside0.mk (blk_over HN2.out hg (fun j hj => Kd.R_typed HC2.out j hj) (by decide)); clear ho hb hg hat)
            | ((with_reducible refine gate_builtin (b := .append) (xs := #[.tmp 63, .tmp 65]) rfl ?_); at_builtin; refine Kd.R_append (Kd.int .i64) (w0 := w) (W := wn) w.heap.size rfl (.tmp 63) (.tmp 65) 22 3 (.int .i64 0) 8 rfl Try.underlying22 info3 rfl (by decide) (by omega) u4 want 0 [.int .i64 0] (fun _ => True) (fun _ => False) rfl rfl rfl (fun _ hk => hk.elim) (fun _ _ => trivial) HW3.out HB3.out HB3.out.size (by omega) ?_; intro v2 wm ho hb hg hat; have HW4 := Aside0.mk ho; have HB4 := Aside0.mk hb; have HC4 := Aside0.mk (Kd.R_over' HC3.out (fun j hj => Kd.R_typed HW3.out j hj) (by decide) hg); have HN4 := Aside0.mk (blk_over HN3.out hg (fun j hj => Kd.R_typed HW3.out j hj) (by decide)); clear ho hb hg hat))
          go_roundg (l0.length - (kk + 1))
          case measure => omega
          case rel =>
            refine ⟨kk + 1, qs ++ [(2, k)], by omega, by omega, by go_num, by rw [List.length_append, HQL.out]; rfl, by omega, ⟨fun q hq => ?_⟩, ⟨?_⟩, ⟨?_⟩, ⟨?_⟩, HB4⟩
            · rcases List.mem_append.1 hq with e | e
              · exact HQ.out q e
              · rw [List.mem_singleton.1 e]; exact hk16
            · rw [List.map_append]; exact HC4.out
            · rw [HSN.out]; exact HW4.out
            · rw [HSN.out]; exact HN4.out
      · have hbz : Go.bits .and .i64 z 3 = 3 := hb3.trans hz
        clear hb3 hz
        cases hhv : here k with
        | true =>
          rw [hhv] at ck
          have HC2 := HC
          have HW2 := HW
          have HB2 := HB
          have HN2 := HN
          have HSN := Aside0.mk (show setRun (qs ++ [(2, k)]) (fun _ => false) = (want ++ [1], here) from by rw [setRun_snoc, ← hw0, ← hh0]; unfold setRes setNext; rw [hhv]; rfl)
          clear hw0 hh0
          go_wp2_with (first
            | ((with_reducible refine gate_builtin (b := .append) (xs := #[.tmp 57, .tmp 61]) rfl ?_); at_builtin; refine Kd.R_append k27 (w0 := w) (W := wr) w.heap.size rfl (.tmp 57) (.tmp 61) 24 27 (.agg #[.string ⟨#[]⟩, .int .i64 0, .int .i64 0]) 32 rfl Try.underlying24 info27 rfl (by decide) (by omega) u3 (qs.map setS) ⟨⟨#[104, 97, 115]⟩, (k : Int), 0⟩ [.string ⟨#[104, 97, 115]⟩, .int .i64 k, .int .i64 0] (fun _ => True) (fun _ => False) rfl (by first | rfl | (rw [World.size_setCell]; rfl)) (k27_M _ _ _ _ _ _) (fun _ hk => hk.elim) (fun _ _ => trivial) HC2.out HB2.out HB2.out.size (by rw [List.length_map]; omega) ?_; intro v1 wn ho hb hg hat; have HC3 := Aside0.mk ho; have HB3 := Aside0.mk hb; have HW3 := Aside0.mk (Kd.R_over' HW2.out (fun j hj => Kd.R_typed HC2.out j hj) (by decide) hg); have HN3 := Aside0.mk (blk_over HN2.out hg (fun j hj => Kd.R_typed HC2.out j hj) (by decide)); clear ho hb hg hat)
            | ((with_reducible refine gate_builtin (b := .append) (xs := #[.tmp 63, .tmp 65]) rfl ?_); at_builtin; refine Kd.R_append (Kd.int .i64) (w0 := w) (W := wn) w.heap.size rfl (.tmp 63) (.tmp 65) 22 3 (.int .i64 0) 8 rfl Try.underlying22 info3 rfl (by decide) (by omega) u4 want 1 [.int .i64 1] (fun _ => True) (fun _ => False) rfl rfl rfl (fun _ hk => hk.elim) (fun _ _ => trivial) HW3.out HB3.out HB3.out.size (by omega) ?_; intro v2 wm ho hb hg hat; have HW4 := Aside0.mk ho; have HB4 := Aside0.mk hb; have HC4 := Aside0.mk (Kd.R_over' HC3.out (fun j hj => Kd.R_typed HW3.out j hj) (by decide) hg); have HN4 := Aside0.mk (blk_over HN3.out hg (fun j hj => Kd.R_typed HW3.out j hj) (by decide)); clear ho hb hg hat))
          go_roundg (l0.length - (kk + 1))
          case measure => omega
          case rel =>
            refine ⟨kk + 1, qs ++ [(2, k)], by omega, by omega, by go_num, by rw [List.length_append, HQL.out]; rfl, by omega, ⟨fun q hq => ?_⟩, ⟨?_⟩, ⟨?_⟩, ⟨?_⟩, HB4⟩
            · rcases List.mem_append.1 hq with e | e
              · exact HQ.out q e
              · rw [List.mem_singleton.1 e]; exact hk16
            · rw [List.map_append]; exact HC4.out
            · rw [HSN.out]; exact HW4.out
            · rw [HSN.out]; exact HN4.out
        | false =>
          rw [hhv] at ck
          have HC2 := HC
          have HW2 := HW
          have HB2 := HB
          have HN2 := HN
          have HSN := Aside0.mk (show setRun (qs ++ [(2, k)]) (fun _ => false) = (want ++ [0], here) from by rw [setRun_snoc, ← hw0, ← hh0]; unfold setRes setNext; rw [hhv]; rfl)
          clear hw0 hh0
          go_wp2_with (first
            | ((with_reducible refine gate_builtin (b := .append) (xs := #[.tmp 57, .tmp 61]) rfl ?_); at_builtin; refine Kd.R_append k27 (w0 := w) (W := wr) w.heap.size rfl (.tmp 57) (.tmp 61) 24 27 (.agg #[.string ⟨#[]⟩, .int .i64 0, .int .i64 0]) 32 rfl Try.underlying24 info27 rfl (by decide) (by omega) u3 (qs.map setS) ⟨⟨#[104, 97, 115]⟩, (k : Int), 0⟩ [.string ⟨#[104, 97, 115]⟩, .int .i64 k, .int .i64 0] (fun _ => True) (fun _ => False) rfl (by first | rfl | (rw [World.size_setCell]; rfl)) (k27_M _ _ _ _ _ _) (fun _ hk => hk.elim) (fun _ _ => trivial) HC2.out HB2.out HB2.out.size (by rw [List.length_map]; omega) ?_; intro v1 wn ho hb hg hat; have HC3 := Aside0.mk ho; have HB3 := Aside0.mk hb; have HW3 := Aside0.mk (Kd.R_over' HW2.out (fun j hj => Kd.R_typed HC2.out j hj) (by decide) hg); have HN3 := Aside0.mk (blk_over HN2.out hg (fun j hj => Kd.R_typed HC2.out j hj) (by decide)); clear ho hb hg hat)
            | ((with_reducible refine gate_builtin (b := .append) (xs := #[.tmp 63, .tmp 65]) rfl ?_); at_builtin; refine Kd.R_append (Kd.int .i64) (w0 := w) (W := wn) w.heap.size rfl (.tmp 63) (.tmp 65) 22 3 (.int .i64 0) 8 rfl Try.underlying22 info3 rfl (by decide) (by omega) u4 want 0 [.int .i64 0] (fun _ => True) (fun _ => False) rfl rfl rfl (fun _ hk => hk.elim) (fun _ _ => trivial) HW3.out HB3.out HB3.out.size (by omega) ?_; intro v2 wm ho hb hg hat; have HW4 := Aside0.mk ho; have HB4 := Aside0.mk hb; have HC4 := Aside0.mk (Kd.R_over' HC3.out (fun j hj => Kd.R_typed HW3.out j hj) (by decide) hg); have HN4 := Aside0.mk (blk_over HN3.out hg (fun j hj => Kd.R_typed HW3.out j hj) (by decide)); clear ho hb hg hat))
          go_roundg (l0.length - (kk + 1))
          case measure => omega
          case rel =>
            refine ⟨kk + 1, qs ++ [(2, k)], by omega, by omega, by go_num, by rw [List.length_append, HQL.out]; rfl, by omega, ⟨fun q hq => ?_⟩, ⟨?_⟩, ⟨?_⟩, ⟨?_⟩, HB4⟩
            · rcases List.mem_append.1 hq with e | e
              · exact HQ.out q e
              · rw [List.mem_singleton.1 e]; exact hk16
            · rw [List.map_append]; exact HC4.out
            · rw [HSN.out]; exact HW4.out
            · rw [HSN.out]; exact HN4.out
    · have hk20 : (kk < l0.length ∧ decide ((kk : Int) < 20) = false) ∨ ¬ kk < l0.length := by
        by_cases h : kk < l0.length
        · exact .inl ⟨h, decide_eq_false (fun e => hlt ⟨h, by omega⟩)⟩
        · exact .inr h
      clear hlt
      rcases hk20 with ⟨hl1, hl2⟩ | hl1
      · obtain ⟨want, hw0⟩ : ∃ l, l = (setRun qs fun _ => false).1 := ⟨_, rfl⟩
        obtain ⟨here, hh0⟩ : ∃ h, h = (setRun qs fun _ => false).2 := ⟨_, rfl⟩
        have hwl : want.length = kk := by rw [hw0, setRun_len, hql]
        have hsr := sets_run qs (by omega) HQ.out
        rw [← hw0, ← hh0] at hsr
        obtain ⟨⟨s7, h7⟩, s8, h8⟩ := hsr
        rw [← hw0] at HW
        rw [← hh0] at HN
        obtain ⟨CL, hCL⟩ : ∃ CL, CL = qs.map setS := ⟨_, rfl⟩
        have hcl : CL.length = kk := by rw [hCL, List.length_map, hql]
        rw [← setS_call, ← hCL] at h7 h8
        rw [← hCL] at HC
        obtain ⟨A3, c3, e3⟩ := Kd.R_slice HC.out
        obtain ⟨A4, c4, e4⟩ := Kd.R_slice HW.out
        rw [hcl] at e3
        rw [hwl] at e4
        subst e3
        subst e4
        obtain ⟨S, hS⟩ : ∃ S, S = hor here 16 := ⟨_, rfl⟩
        rw [← hS] at h8
        have HR7 := Aside0.mk (show Calls Try.prog 16 #[.int .i64 7, .int .i64 1, .slice A3 kk c3] wr fun e w' => ∃ v, e = .returned (.tuple #[v, .bool true]) ∧ Kd.R (Kd.int .i64) 3 w' wr.heap.size (fun _ => True) v want ∧ Below wr.heap.size wr w' from by
          have := run_at 7 1 A3 c3 CL want s7 wr (by have := (Kd.R_reads' HC.out).2.2; exact this) (by have := (Kd.R_reads' HC.out); omega) h7 (by omega) (by omega)
          rw [hcl] at this; exact this)
        have HR8 := Aside0.mk (fun (A : Option Addr) (c : Nat) (W : World) (hR : k27.R 27 W w.heap.size (fun _ => True) (.slice A (kk + 1) c) (CL ++ [⟨⟨#[97, 108, 108]⟩, 0, 0⟩])) => (show Calls Try.prog 16 #[.int .i64 8, .int .i64 1, .slice A (kk + 1) c] W fun e w' => ∃ v, e = .returned (.tuple #[v, .bool true]) ∧ Kd.R (Kd.int .i64) 3 w' W.heap.size (fun _ => True) v (want ++ [S]) ∧ Below W.heap.size W w' from by
          have hl : (CL ++ [(⟨⟨#[97, 108, 108]⟩, 0, 0⟩ : S27)]).length = kk + 1 := by rw [List.length_append, hcl]; rfl
          have := run_at 8 1 A c (CL ++ [⟨⟨#[97, 108, 108]⟩, 0, 0⟩]) (want ++ [S]) s8 W (by have := (Kd.R_reads' hR).2.2; exact this) (by have := (Kd.R_reads' hR); omega) (by rw [List.map_append]; exact h8) (by rw [List.length_append, List.length_append, hcl, hwl]; rfl) (by omega)
          rw [hl] at this; exact this))
        have HSE := Aside0.mk hS
        have HWL := Aside0.mk hwl
        have HCLL := Aside0.mk hcl
        clear h7 h8 hw0 hh0 hCL hql hS hwl hcl
        go_wp2_with (go_at_call 16; refine (HR7.out).mono ?_; rintro e w2 ⟨v2, rfl, hr, hb⟩; obtain ⟨A2, c2, rfl⟩ := Kd.R_slice hr; rw [HWL.out] at hr ⊢; have HA := Aside0.mk hr; have HC2 := Aside0.mk (Kd.R_below HC.out hb); have HW2 := Aside0.mk (Kd.R_below HW.out hb); have HN2 := Aside0.mk ((hb.block _ (blk_lt HN.out)).trans HN.out); have B2 := Aside0.mk (btrans HB.out hb); have hsz2 := hb.size; clear hr hb)
        go_loopg [12, 13] 16 (fun gg v12 v13 wl => ∃ m : Nat, m ≤ 16 ∧ 16 - m ≤ gg ∧ v12 = .int .i64 (hor here m) ∧ v13 = .int .i64 (15 - m) ∧ w2 = wl)
        case atStart => exact ⟨0, Nat.zero_le _, by omega, rfl, rfl, rfl⟩
        case round =>
          obtain ⟨m, hm, hgm, rfl, rfl, hw⟩ := hrel
          subst hw
          have hbd := hor_bd here m hm
          by_cases hm16 : m < 16
          · obtain ⟨j, hj⟩ : ∃ j : Nat, (15 : Int) - m = (j : Int) := ⟨15 - m, by omega⟩
            have hj16 : j < 16 := by omega
            have hji : (j : Int) < 16 := by omega
            have hstep : hor here (m + 1) = 2 * hor here m + bitI here j := by rw [show j = 15 - m by omega]; rfl
            have HST := Aside0.mk hstep
            have HJ := Aside0.mk hj
            have cj := (Go.Lib.cell_of_heap HN2.out j).trans (hereC_at here j hj16)
            have hwj : IntKind.i64.wrap ((j : Int) - 1) = (j : Int) - 1 := IntWalk.i64_in _ (by omega)
            rw [hj]
            generalize hor here m = sm at *
            have hw2 : IntKind.i64.wrap (2 * sm) = 2 * sm := IntWalk.i64_in _ (by omega)
            have hw3 : IntKind.i64.wrap (2 * sm + 1) = 2 * sm + 1 := IntWalk.i64_in _ (by omega)
            clear hj hstep
            cases hb : here j with
            | true =>
              rw [hb] at cj
              have HBI := Aside0.mk (show bitI here j = 1 from by unfold bitI; rw [hb]; rfl)
              clear hb
              go_wp2
              go_roundg (16 - (m + 1))
              case measure => omega
              case rel => exact ⟨m + 1, by omega, by omega, by rw [HST.out, HBI.out], by (have := HJ.out; congr 1; omega), rfl⟩
            | false =>
              rw [hb] at cj
              have HBI := Aside0.mk (show bitI here j = 0 from by unfold bitI; rw [hb]; rfl)
              clear hb
              go_wp2
              go_roundg (16 - (m + 1))
              case measure => omega
              case rel => exact ⟨m + 1, by omega, by omega, by rw [HST.out, HBI.out, Int.add_zero], by (have := HJ.out; congr 1; omega), rfl⟩
          · have hm2 : m = 16 := by omega
            subst hm2
            rw [← HSE.out]
            have hneg : (15 : Int) - ((16 : Nat) : Int) = -1 := by omega
            rw [hneg]
            have tokS : True := trivial
            go_wp2_with (first
              | ((with_reducible refine gate_builtin (b := .append) (xs := #[.tmp 84, .tmp 86]) rfl ?_); at_builtin; refine Kd.R_append k27 (w0 := w) (W := w2) w.heap.size rfl (.tmp 84) (.tmp 86) 24 27 (.agg #[.string ⟨#[]⟩, .int .i64 0, .int .i64 0]) 32 rfl Try.underlying24 info27 rfl (by decide) (by omega) (.slice A3 kk c3) CL ⟨⟨#[97, 108, 108]⟩, 0, 0⟩ [.string ⟨#[97, 108, 108]⟩, .int .i64 0, .int .i64 0] (fun _ => True) (fun _ => False) rfl rfl (k27_M _ _ _ _ _ _) (fun _ hk => hk.elim) (fun _ _ => trivial) HC2.out B2.out B2.out.size (by rw [HCLL.out]; omega) ?_; intro v1 wn ho hb hg hat; obtain ⟨A5, c5, rfl⟩ := Kd.R_slice ho; have hl5 : (CL ++ [(⟨⟨#[97, 108, 108]⟩, 0, 0⟩ : S27)]).length = kk + 1 := (by rw [List.length_append, HCLL.out]; rfl); rw [hl5] at ho ⊢; have HC5 := Aside0.mk ho; have B5 := Aside0.mk hb; have HA5 := Aside0.mk (Kd.R_over' HA.out (fun j hj => Kd.R_typed HC2.out j hj) (by decide) hg); have HW5 := Aside0.mk (Kd.R_over' HW2.out (fun j hj => Kd.R_typed HC2.out j hj) (by decide) hg); clear ho hb hg hat hl5)
              | (go_at_call 16; refine (HR8.out A5 c5 wn HC5.out).mono ?_; rintro e w6 ⟨v6, rfl, hr, hb⟩; obtain ⟨A6, c6, rfl⟩ := Kd.R_slice hr; have hl6 : (want ++ [S]).length = kk + 1 := (by rw [List.length_append, HWL.out]; rfl); rw [hl6] at hr ⊢; have HB6 := Aside0.mk hr; have HA6 := Aside0.mk (Kd.R_below HA5.out hb); have HW6 := Aside0.mk (Kd.R_below HW5.out hb); have B6 := Aside0.mk (btrans B5.out hb); have hsz6 := hb.size; clear hr hb hl6)
              | (go_at_call 17; have _t := tokS; clear _t tokS; refine (show Calls Try.prog 17 #[.slice A2 kk c2, .slice A4 kk c4] w6 (fun e w' => e = .returned (.bool true) ∧ ∃ q, w' = w6.drewN q) from by have h := same_at want want A2 A4 c2 c4 w6 (Kd.R_reads' HA6.out).2.2 (Kd.R_reads' HW6.out).2.2; rw [HWL.out, decide_eq_true (rfl : want = want)] at h; exact h).mono ?_; rintro e w7 ⟨rfl, q, hw⟩; have HB7 := Aside0.mk (show Kd.R (Kd.int .i64) 3 w7 wn.heap.size (fun _ => True) (.slice A6 (kk + 1) c6) (want ++ [S]) from by rw [hw]; exact Kd.R_drewN HB6.out q); have HW7 := Aside0.mk (show Kd.R (Kd.int .i64) 3 w7 w.heap.size (fun _ => True) (.slice A4 kk c4) want from by rw [hw]; exact Kd.R_drewN HW6.out q); have B7 := Aside0.mk (show Below w.heap.size w w7 from by rw [hw]; exact pw_below_drewN B6.out q); clear hw)
              | ((with_reducible refine gate_builtin (b := .append) (xs := #[.tmp 102, .tmp 104]) rfl ?_); refine wpList_step (fun Kc hKc => ?_); refine Kd.R_append_step (Kd.int .i64) (w0 := w) (W := w7) w.heap.size ?hw (.tmp 102) (.tmp 104) 22 3 (.int .i64 0) 8 rfl Try.underlying22 info3 rfl (by decide) (by omega) (.slice A4 kk c4) want S [.int .i64 S] (fun _ => True) (fun _ => False) ?hs ?hx rfl (fun _ hk => hk.elim) (fun _ _ => trivial) HW7.out B7.out B7.out.size (by rw [HWL.out]; omega) ?_; (case hw => exact (by simp [Region.wanted, yielded])); (case hs => exact (by first | rfl | simp [Act.eval, Act.put])); (case hx => exact (by first | rfl | simp [Act.eval, Act.put])); intro v8 w8 ho hb hg hat; obtain ⟨A8, c8, rfl⟩ := Kd.R_slice ho; have hl8 : (want ++ [S]).length = kk + 1 := (by rw [List.length_append, HWL.out]; rfl); rw [hl8] at ho ⊢; have HW8 := Aside0.mk ho; have HB8 := Aside0.mk (Kd.R_grown1 HB7.out rfl hg (fun e => by obtain ⟨g6, cap6, e6, hb6, _, _⟩ := Kd.R_form HB7.out (by simp); have h1 := Kd.R_lt HW5.out g6 (e.trans (by rw [e6]; rfl)); omega)); have B8 := Aside0.mk hb; refine hKc _ _ ?_; clear ho hb hg hat hl8; have tokT : True := trivial)
              | (go_at_call 17; have _t := tokT; clear _t tokT; refine (show Calls Try.prog 17 #[.slice A6 (kk + 1) c6, .slice A8 (kk + 1) c8] w8 (fun e w' => e = .returned (.bool true) ∧ ∃ q, w' = w8.drewN q) from by have h := same_at (want ++ [S]) (want ++ [S]) A6 A8 c6 c8 w8 (Kd.R_reads' HB8.out).2.2 (Kd.R_reads' HW8.out).2.2; rw [show (want ++ [S]).length = kk + 1 from by rw [List.length_append, HWL.out]; rfl, decide_eq_true (rfl : want ++ [S] = want ++ [S])] at h; exact h).mono ?_; rintro e w9 ⟨rfl, q9, hw⟩; have B9 := Aside0.mk (show Below w.heap.size w w9 from by rw [hw]; exact pw_below_drewN B8.out q9); clear hw))
            go_ret
            exact ⟨rfl, B9.out⟩
      · obtain ⟨want, hw0⟩ : ∃ l, l = (setRun qs fun _ => false).1 := ⟨_, rfl⟩
        obtain ⟨here, hh0⟩ : ∃ h, h = (setRun qs fun _ => false).2 := ⟨_, rfl⟩
        have hwl : want.length = kk := by rw [hw0, setRun_len, hql]
        have hsr := sets_run qs (by omega) HQ.out
        rw [← hw0, ← hh0] at hsr
        obtain ⟨⟨s7, h7⟩, s8, h8⟩ := hsr
        rw [← hw0] at HW
        rw [← hh0] at HN
        obtain ⟨CL, hCL⟩ : ∃ CL, CL = qs.map setS := ⟨_, rfl⟩
        have hcl : CL.length = kk := by rw [hCL, List.length_map, hql]
        rw [← setS_call, ← hCL] at h7 h8
        rw [← hCL] at HC
        obtain ⟨A3, c3, e3⟩ := Kd.R_slice HC.out
        obtain ⟨A4, c4, e4⟩ := Kd.R_slice HW.out
        rw [hcl] at e3
        rw [hwl] at e4
        subst e3
        subst e4
        obtain ⟨S, hS⟩ : ∃ S, S = hor here 16 := ⟨_, rfl⟩
        rw [← hS] at h8
        have HR7 := Aside0.mk (show Calls Try.prog 16 #[.int .i64 7, .int .i64 1, .slice A3 kk c3] wr fun e w' => ∃ v, e = .returned (.tuple #[v, .bool true]) ∧ Kd.R (Kd.int .i64) 3 w' wr.heap.size (fun _ => True) v want ∧ Below wr.heap.size wr w' from by
          have := run_at 7 1 A3 c3 CL want s7 wr (by have := (Kd.R_reads' HC.out).2.2; exact this) (by have := (Kd.R_reads' HC.out); omega) h7 (by omega) (by omega)
          rw [hcl] at this; exact this)
        have HR8 := Aside0.mk (fun (A : Option Addr) (c : Nat) (W : World) (hR : k27.R 27 W w.heap.size (fun _ => True) (.slice A (kk + 1) c) (CL ++ [⟨⟨#[97, 108, 108]⟩, 0, 0⟩])) => (show Calls Try.prog 16 #[.int .i64 8, .int .i64 1, .slice A (kk + 1) c] W fun e w' => ∃ v, e = .returned (.tuple #[v, .bool true]) ∧ Kd.R (Kd.int .i64) 3 w' W.heap.size (fun _ => True) v (want ++ [S]) ∧ Below W.heap.size W w' from by
          have hl : (CL ++ [(⟨⟨#[97, 108, 108]⟩, 0, 0⟩ : S27)]).length = kk + 1 := by rw [List.length_append, hcl]; rfl
          have := run_at 8 1 A c (CL ++ [⟨⟨#[97, 108, 108]⟩, 0, 0⟩]) (want ++ [S]) s8 W (by have := (Kd.R_reads' hR).2.2; exact this) (by have := (Kd.R_reads' hR); omega) (by rw [List.map_append]; exact h8) (by rw [List.length_append, List.length_append, hcl, hwl]; rfl) (by omega)
          rw [hl] at this; exact this))
        have HSE := Aside0.mk hS
        have HWL := Aside0.mk hwl
        have HCLL := Aside0.mk hcl
        clear h7 h8 hw0 hh0 hCL hql hS hwl hcl
        go_wp2_with (go_at_call 16; refine (HR7.out).mono ?_; rintro e w2 ⟨v2, rfl, hr, hb⟩; obtain ⟨A2, c2, rfl⟩ := Kd.R_slice hr; rw [HWL.out] at hr ⊢; have HA := Aside0.mk hr; have HC2 := Aside0.mk (Kd.R_below HC.out hb); have HW2 := Aside0.mk (Kd.R_below HW.out hb); have HN2 := Aside0.mk ((hb.block _ (blk_lt HN.out)).trans HN.out); have B2 := Aside0.mk (btrans HB.out hb); have hsz2 := hb.size; clear hr hb)
        go_loopg [12, 13] 16 (fun gg v12 v13 wl => ∃ m : Nat, m ≤ 16 ∧ 16 - m ≤ gg ∧ v12 = .int .i64 (hor here m) ∧ v13 = .int .i64 (15 - m) ∧ w2 = wl)
        case atStart => exact ⟨0, Nat.zero_le _, by omega, rfl, rfl, rfl⟩
        case round =>
          obtain ⟨m, hm, hgm, rfl, rfl, hw⟩ := hrel
          subst hw
          have hbd := hor_bd here m hm
          by_cases hm16 : m < 16
          · obtain ⟨j, hj⟩ : ∃ j : Nat, (15 : Int) - m = (j : Int) := ⟨15 - m, by omega⟩
            have hj16 : j < 16 := by omega
            have hji : (j : Int) < 16 := by omega
            have hstep : hor here (m + 1) = 2 * hor here m + bitI here j := by rw [show j = 15 - m by omega]; rfl
            have HST := Aside0.mk hstep
            have HJ := Aside0.mk hj
            have cj := (Go.Lib.cell_of_heap HN2.out j).trans (hereC_at here j hj16)
            have hwj : IntKind.i64.wrap ((j : Int) - 1) = (j : Int) - 1 := IntWalk.i64_in _ (by omega)
            rw [hj]
            generalize hor here m = sm at *
            have hw2 : IntKind.i64.wrap (2 * sm) = 2 * sm := IntWalk.i64_in _ (by omega)
            have hw3 : IntKind.i64.wrap (2 * sm + 1) = 2 * sm + 1 := IntWalk.i64_in _ (by omega)
            clear hj hstep
            cases hb : here j with
            | true =>
              rw [hb] at cj
              have HBI := Aside0.mk (show bitI here j = 1 from by unfold bitI; rw [hb]; rfl)
              clear hb
              go_wp2
              go_roundg (16 - (m + 1))
              case measure => omega
              case rel => exact ⟨m + 1, by omega, by omega, by rw [HST.out, HBI.out], by (have := HJ.out; congr 1; omega), rfl⟩
            | false =>
              rw [hb] at cj
              have HBI := Aside0.mk (show bitI here j = 0 from by unfold bitI; rw [hb]; rfl)
              clear hb
              go_wp2
              go_roundg (16 - (m + 1))
              case measure => omega
              case rel => exact ⟨m + 1, by omega, by omega, by rw [HST.out, HBI.out, Int.add_zero], by (have := HJ.out; congr 1; omega), rfl⟩
          · have hm2 : m = 16 := by omega
            subst hm2
            rw [← HSE.out]
            have hneg : (15 : Int) - ((16 : Nat) : Int) = -1 := by omega
            rw [hneg]
            have tokS : True := trivial
            go_wp2_with (first
              | ((with_reducible refine gate_builtin (b := .append) (xs := #[.tmp 84, .tmp 86]) rfl ?_); at_builtin; refine Kd.R_append k27 (w0 := w) (W := w2) w.heap.size rfl (.tmp 84) (.tmp 86) 24 27 (.agg #[.string ⟨#[]⟩, .int .i64 0, .int .i64 0]) 32 rfl Try.underlying24 info27 rfl (by decide) (by omega) (.slice A3 kk c3) CL ⟨⟨#[97, 108, 108]⟩, 0, 0⟩ [.string ⟨#[97, 108, 108]⟩, .int .i64 0, .int .i64 0] (fun _ => True) (fun _ => False) rfl rfl (k27_M _ _ _ _ _ _) (fun _ hk => hk.elim) (fun _ _ => trivial) HC2.out B2.out B2.out.size (by rw [HCLL.out]; omega) ?_; intro v1 wn ho hb hg hat; obtain ⟨A5, c5, rfl⟩ := Kd.R_slice ho; have hl5 : (CL ++ [(⟨⟨#[97, 108, 108]⟩, 0, 0⟩ : S27)]).length = kk + 1 := (by rw [List.length_append, HCLL.out]; rfl); rw [hl5] at ho ⊢; have HC5 := Aside0.mk ho; have B5 := Aside0.mk hb; have HA5 := Aside0.mk (Kd.R_over' HA.out (fun j hj => Kd.R_typed HC2.out j hj) (by decide) hg); have HW5 := Aside0.mk (Kd.R_over' HW2.out (fun j hj => Kd.R_typed HC2.out j hj) (by decide) hg); clear ho hb hg hat hl5)
              | (go_at_call 16; refine (HR8.out A5 c5 wn HC5.out).mono ?_; rintro e w6 ⟨v6, rfl, hr, hb⟩; obtain ⟨A6, c6, rfl⟩ := Kd.R_slice hr; have hl6 : (want ++ [S]).length = kk + 1 := (by rw [List.length_append, HWL.out]; rfl); rw [hl6] at hr ⊢; have HB6 := Aside0.mk hr; have HA6 := Aside0.mk (Kd.R_below HA5.out hb); have HW6 := Aside0.mk (Kd.R_below HW5.out hb); have B6 := Aside0.mk (btrans B5.out hb); have hsz6 := hb.size; clear hr hb hl6)
              | (go_at_call 17; have _t := tokS; clear _t tokS; refine (show Calls Try.prog 17 #[.slice A2 kk c2, .slice A4 kk c4] w6 (fun e w' => e = .returned (.bool true) ∧ ∃ q, w' = w6.drewN q) from by have h := same_at want want A2 A4 c2 c4 w6 (Kd.R_reads' HA6.out).2.2 (Kd.R_reads' HW6.out).2.2; rw [HWL.out, decide_eq_true (rfl : want = want)] at h; exact h).mono ?_; rintro e w7 ⟨rfl, q, hw⟩; have HB7 := Aside0.mk (show Kd.R (Kd.int .i64) 3 w7 wn.heap.size (fun _ => True) (.slice A6 (kk + 1) c6) (want ++ [S]) from by rw [hw]; exact Kd.R_drewN HB6.out q); have HW7 := Aside0.mk (show Kd.R (Kd.int .i64) 3 w7 w.heap.size (fun _ => True) (.slice A4 kk c4) want from by rw [hw]; exact Kd.R_drewN HW6.out q); have B7 := Aside0.mk (show Below w.heap.size w w7 from by rw [hw]; exact pw_below_drewN B6.out q); clear hw)
              | ((with_reducible refine gate_builtin (b := .append) (xs := #[.tmp 102, .tmp 104]) rfl ?_); refine wpList_step (fun Kc hKc => ?_); refine Kd.R_append_step (Kd.int .i64) (w0 := w) (W := w7) w.heap.size ?hw (.tmp 102) (.tmp 104) 22 3 (.int .i64 0) 8 rfl Try.underlying22 info3 rfl (by decide) (by omega) (.slice A4 kk c4) want S [.int .i64 S] (fun _ => True) (fun _ => False) ?hs ?hx rfl (fun _ hk => hk.elim) (fun _ _ => trivial) HW7.out B7.out B7.out.size (by rw [HWL.out]; omega) ?_; (case hw => exact (by simp [Region.wanted, yielded])); (case hs => exact (by first | rfl | simp [Act.eval, Act.put])); (case hx => exact (by first | rfl | simp [Act.eval, Act.put])); intro v8 w8 ho hb hg hat; obtain ⟨A8, c8, rfl⟩ := Kd.R_slice ho; have hl8 : (want ++ [S]).length = kk + 1 := (by rw [List.length_append, HWL.out]; rfl); rw [hl8] at ho ⊢; have HW8 := Aside0.mk ho; have HB8 := Aside0.mk (Kd.R_grown1 HB7.out rfl hg (fun e => by obtain ⟨g6, cap6, e6, hb6, _, _⟩ := Kd.R_form HB7.out (by simp); have h1 := Kd.R_lt HW5.out g6 (e.trans (by rw [e6]; rfl)); omega)); have B8 := Aside0.mk hb; refine hKc _ _ ?_; clear ho hb hg hat hl8; have tokT : True := trivial)
              | (go_at_call 17; have _t := tokT; clear _t tokT; refine (show Calls Try.prog 17 #[.slice A6 (kk + 1) c6, .slice A8 (kk + 1) c8] w8 (fun e w' => e = .returned (.bool true) ∧ ∃ q, w' = w8.drewN q) from by have h := same_at (want ++ [S]) (want ++ [S]) A6 A8 c6 c8 w8 (Kd.R_reads' HB8.out).2.2 (Kd.R_reads' HW8.out).2.2; rw [show (want ++ [S]).length = kk + 1 from by rw [List.length_append, HWL.out]; rfl, decide_eq_true (rfl : want ++ [S] = want ++ [S])] at h; exact h).mono ?_; rintro e w9 ⟨rfl, q9, hw⟩; have B9 := Aside0.mk (show Below w.heap.size w w9 from by rw [hw]; exact pw_below_drewN B8.out q9); clear hw))
            go_ret
            exact ⟨rfl, B9.out⟩
theorem sets_row (a0 : Option Addr) (len0 cap0 : Nat) (z0 : List Int) (w : World) (w0 : (a0 = none ∧ len0 = 0 ∧ cap0 = 0 ∧ z0 = []) ∨ ∃ x, a0 = some x ∧ len0 ≤ cap0 ∧ cap0 ≤ maxLen ∧ z0.length = cap0 ∧ (∀ i, i < z0.length → w.cell? (x.add i) = some (.int .i64 (z0.getD i 0))) ∧ ∀ n ∈ z0, (Lit.int .i64 n).wf = true) (_y0 : len0 * 8 ≤ 140737488351232) :
    Calls Try.prog 6 #[.slice a0 len0 cap0] w fun e w' => e = .returned (.bool true) ∧ Below w.heap.size w w' := by
  obtain ⟨l0, rfl, hr0, hm0, hw0, hc0⟩ := ReadsInt.ofRowC w0
  exact se_walk _ _ l0 w (Kd.C_of_reads (d := (0 : Int)) (h1 := fun _ => rfl) hr0)
end Go.Proofs.Ytiialjmpfeopjaa.SeV
