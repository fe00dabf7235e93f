/- The rules of the specification, walked: measures, sets, unions, pairs, bags: plain lemmas; no condition. -/
import Derived.Test.YtiialjmpfeopjaaGreatSm1
import Derived.BigQuiet
import Derived.StillTailTactics
import Derived.WalkLawsBesides
namespace Go.Proofs.YtiialjmpfeopjaaGreat.Sp
open Go.RowKit Go.Sort Go.Proofs.YtiialjmpfeopjaaGreatW.PrintWords Go.Proofs.YtiialjmpfeopjaaGreatW.PrintLast Go.Proofs.YtiialjmpfeopjaaGreatW.PrintMore
set_option linter.unusedVariables false
set_option linter.unusedSimpArgs false
set_option maxHeartbeats 8000000
set_option maxRecDepth 100000
theorem behind_into (w : World) : Into w (.func (.func 49) #[] #[]) (fun _ _ => True) (fun s x => s ++ [x]) :=
  ⟨49, #[], rfl, enters_of Tryz.func49 (by kernel_rfl) rfl, fun W base v s x _ _ h2 ho hl _ => behind_calls v base s x W ho h2 (by omega)⟩
theorem sorted_into (w : World) : Into w (.func (.func 55) #[] #[]) (fun s _ => s.Pairwise (· ≤ ·)) insL :=
  ⟨55, #[], rfl, enters_of Tryz.func55 (by kernel_rfl) rfl, fun W base v s x _ _ h2 ho hl hp => sortedI_calls v base s x W ho h2 (by omega) hp⟩
theorem Own.cellAt {w : World} {base : Nat} {v : Value} {s : List Int} (h : Own w base v s) (j : Nat) (hj : j < s.length) : ∃ b cap, v = .slice (some ⟨b, 0, none⟩) s.length cap ∧ b < w.heap.size ∧ w.cell? ⟨b, j, none⟩ = some (.int .i64 (s.getD j 0)) := by
  rcases h.parts with ⟨_, e⟩ | ⟨b, cap, cur, rfl, h1, h2, h3, h4, h5, h6⟩
  · rw [e] at hj; exact absurd hj (by simp)
  · exact ⟨b, cap, rfl, blk_lt h2, row_cell h2 h6 j hj⟩
theorem front_meas (w : World) : Meas w (.func (.func 52) #[] #[]) (fun s => s ≠ []) (fun _ => 0) := by
  refine ⟨52, #[], rfl, enters_of Tryz.func52 (by kernel_rfl) rfl, fun W base v s _ _ h2 ho hl hp => ?_⟩
  obtain ⟨A, c, rfl⟩ := ho.slice
  have hb := Below.refl W.heap.size W
  clear ho hp
  go_enter Tryz.func52, Tryz.ntmps52
  go_wp2
  go_ret
  exact ⟨rfl, hb⟩
theorem back_meas (w : World) : Meas w (.func (.func 51) #[] #[]) (fun s => s ≠ []) (fun s => (s.length : Int) - 1) := by
  refine ⟨51, #[], rfl, enters_of Tryz.func51 (by kernel_rfl) rfl, fun W base v s _ _ h2 ho hl hp => ?_⟩
  obtain ⟨A, c, rfl⟩ := ho.slice
  have hb := Below.refl W.heap.size W
  clear ho hp
  go_enter Tryz.func51, Tryz.ntmps51
  go_wp2
  go_ret
  exact ⟨rfl, hb⟩
theorem first_meas (w : World) : Meas w (.func (.func 70) #[] #[]) (fun s => 0 < s.length) (fun s => s.getD 0 0) := by
  refine ⟨70, #[], rfl, enters_of Tryz.func70 (by kernel_rfl) rfl, fun W base v s _ _ h2 ho hl hp => ?_⟩
  obtain ⟨b, cap, rfl, _, hc⟩ := ho.cellAt 0 hp
  have hb := Below.refl W.heap.size W
  dsimp only
  generalize s.getD 0 0 = x at *
  clear ho
  go_enter Tryz.func70, Tryz.ntmps70
  go_wp2
  go_ret
  exact ⟨rfl, hb⟩
theorem wide_meas (w : World) : Meas w (.func (.func 63) #[] #[]) (fun s => 0 < s.length ∧ 0 ≤ s.getD 0 0 ∧ s.getD 0 0 ≤ 900) (fun s => 1001 * s.getD 0 0 + 1) := by
  refine ⟨63, #[], rfl, enters_of Tryz.func63 (by kernel_rfl) rfl, fun W base v s _ _ h2 ho hl hp => ?_⟩
  obtain ⟨hp, hp1, hp2⟩ := hp
  obtain ⟨b, cap, rfl, _, hc⟩ := ho.cellAt 0 hp
  have hb := Below.refl W.heap.size W
  dsimp only
  generalize s.getD 0 0 = x at *
  clear ho
  go_enter Tryz.func63, Tryz.ntmps63
  go_wp2
  go_ret
  exact ⟨rfl, hb⟩
theorem write_into (w : World) : Into w (.func (.func 62) #[] #[]) (fun _ _ => True) (fun _ x => [x]) := by
  refine ⟨62, #[], rfl, enters_of Tryz.func62 (by kernel_rfl) rfl, fun W base v s x _ _ h2 ho hl hp => ?_⟩
  obtain ⟨A, c, rfl⟩ := ho.slice
  have ho2 : Own (W.alloc (.cells #[.int .i64 x] 3 (0, 0))) base (.slice (some ⟨W.heap.size, 0, none⟩) 1 1) [x] := own_lit W base 3 .i64 [x] h2 (by simp)
  have HO := Aside0.mk ho2
  have hb := Aside0.mk ((Below.refl base W).alloc h2 (.cells #[.int .i64 x] 3 (0, 0)))
  clear ho ho2 hp
  go_enter Tryz.func62, Tryz.ntmps62
  go_wp2
  go_ret
  exact ⟨_, rfl, HO.out, hb.out⟩
theorem pair_meas_(g : Nat) (w : World) (W : World) (base : Nat) (v : Value) (s : List Int) (ho : Own W base v s) (hp : 1 < s.length) : ∃ b cap, v = .slice (some ⟨b, 0, none⟩) s.length cap ∧ W.cell? ⟨b, 0, none⟩ = some (.int .i64 (s.getD 0 0)) ∧ W.cell? ⟨b, 1, none⟩ = some (.int .i64 (s.getD 1 0)) := by
  obtain ⟨b, cap, rfl, _, hc⟩ := ho.cellAt 0 (by omega)
  obtain ⟨b', cap', e, _, hc'⟩ := ho.cellAt 1 hp
  injection e with e _ _
  injection e with e
  injection e with e
  subst e
  exact ⟨b, cap, rfl, hc, hc'⟩
theorem scan_meas (w : World) : Meas w (.func (.func 98) #[] #[]) (fun s => 1 < s.length ∧ (0 ≤ s.getD 0 0 ∧ s.getD 0 0 ≤ 900) ∧ 0 ≤ s.getD 1 0 ∧ s.getD 1 0 ≤ 900) (fun s => 1000 * s.getD 0 0 + s.getD 1 0) := by
  refine ⟨98, #[], rfl, enters_of Tryz.func98 (by kernel_rfl) rfl, fun W base v s _ _ h2 ho hl hp => ?_⟩
  obtain ⟨hp, ⟨p1, p2⟩, p3, p4⟩ := hp
  obtain ⟨b, cap, rfl, c0, c1⟩ := pair_meas_ 0 W W base v s ho hp
  have hb := Aside0.mk (Below.refl W.heap.size W)
  dsimp only
  generalize s.getD 0 0 = x at *
  generalize s.getD 1 0 = y at *
  have e1 : IntKind.i64.wrap (1000 * x) = 1000 * x := IntWalk.i64_in _ (by omega)
  have e2 : IntKind.i64.wrap (1000 * x + y) = 1000 * x + y := IntWalk.i64_in _ (by omega)
  clear ho
  go_enter Tryz.func98, Tryz.ntmps98
  go_wp2
  go_quiet (fail)
  go_wp2
  go_ret
  exact ⟨rfl, pw_below_drewN hb.out _⟩
theorem both_meas (w : World) : Meas w (.func (.func 107) #[] #[]) (fun s => 1 < s.length ∧ (0 ≤ s.getD 0 0 ∧ s.getD 0 0 ≤ 99) ∧ 0 ≤ s.getD 1 0 ∧ s.getD 1 0 ≤ 99) (fun s => 1000 * s.getD 0 0 + s.getD 1 0) := by
  refine ⟨107, #[], rfl, enters_of Tryz.func107 (by kernel_rfl) rfl, fun W base v s _ _ h2 ho hl hp => ?_⟩
  obtain ⟨hp, ⟨p1, p2⟩, p3, p4⟩ := hp
  obtain ⟨b, cap, rfl, c0, c1⟩ := pair_meas_ 0 W W base v s ho hp
  have hb := Aside0.mk (Below.refl W.heap.size W)
  dsimp only
  generalize s.getD 0 0 = x at *
  generalize s.getD 1 0 = y at *
  have e1 : IntKind.i64.wrap (1000 * x) = 1000 * x := IntWalk.i64_in _ (by omega)
  have e2 : IntKind.i64.wrap (1000 * x + y) = 1000 * x + y := IntWalk.i64_in _ (by omega)
  clear ho
  go_enter Tryz.func107, Tryz.ntmps107
  go_wp2
  go_quiet (fail)
  go_wp2
  go_ret
  exact ⟨rfl, pw_below_drewN hb.out _⟩
/-- The sum of the powers of 2. -/
def powS (s : List Int) : Int := (s.map fun x => (2 : Int) ^ x.toNat).foldl (· + ·) 0
theorem powS_snoc (s : List Int) (x : Int) : powS (s ++ [x]) = powS s + 2 ^ x.toNat := by simp [powS, List.foldl_append]
theorem pow_le (x : Int) (h : x ≤ 15) : (2 : Int) ^ x.toNat ≤ 32768 ∧ 0 ≤ (2 : Int) ^ x.toNat := by
  have h2 : x.toNat ≤ 15 := by omega
  constructor
  · have := Nat.pow_le_pow_right (n := 2) (by omega) h2
    have h3 : ((2 ^ x.toNat : Nat) : Int) ≤ ((2 ^ 15 : Nat) : Int) := by exact_mod_cast this
    simpa using h3
  · exact Int.le_of_lt (Int.pow_pos (by omega))
theorem powS_le (s : List Int) (h : ∀ j, j < s.length → s.getD j 0 ≤ 15) : ∀ k, k ≤ s.length → 0 ≤ powS (s.take k) ∧ powS (s.take k) ≤ 32768 * k := by
  intro k
  induction k with
  | zero => intro _; simp [powS]
  | succ k ih =>
    intro hk
    have := ih (by omega)
    have h15 := h k (by omega)
    rw [List.take_succ_eq_append_getElem (by omega), powS_snoc]
    have e : s[k]'(by omega) = s.getD k 0 := by simp [show k < s.length by omega]
    rw [e]
    have := pow_le _ h15
    push_cast
    omega
theorem all_meas (w : World) : Meas w (.func (.func 60) #[] #[]) (fun s => ∀ j, j < s.length → 0 ≤ s.getD j 0 ∧ s.getD j 0 ≤ 15) powS := by
  refine ⟨60, #[], rfl, enters_of Tryz.func60 (by kernel_rfl) rfl, fun W base v s _ _ h2 ho hl hp => ?_⟩
  have hsum := Aside0.mk (powS_le s (fun j hj => (hp j hj).2))
  have HP := Aside0.mk hp
  have HO := Aside0.mk ho
  have hb := Aside0.mk (Below.refl W.heap.size W)
  obtain ⟨A, c, rfl⟩ := ho.slice
  clear hp ho
  go_enter Tryz.func60, Tryz.ntmps60
  go_wp2
  go_loopg [3, 8] s.length (fun gg v3 v8 wr => ∃ kk : Nat, kk ≤ s.length ∧ s.length - kk ≤ gg ∧ v8 = .int .i64 kk ∧ v3 = .int .i64 (powS (s.take kk)) ∧ W = wr)
  case atStart => exact ⟨0, Nat.zero_le _, by omega, rfl, rfl, rfl⟩
  case round =>
    obtain ⟨kk, hkk, hg, rfl, rfl, rfl⟩ := hrel
    by_cases hlt : kk < s.length
    · obtain ⟨b, cap, e, _, hc⟩ := HO.out.cellAt kk hlt
      injection e with e e2 e3
      subst e e3
      clear e2
      obtain ⟨p1, p2⟩ := HP.out kk hlt
      obtain ⟨q1, q2⟩ := hsum.out kk hkk
      have hsn : powS (s.take (kk + 1)) = powS (s.take kk) + 2 ^ (s.getD kk 0).toNat := by
        rw [List.take_succ_eq_append_getElem hlt, powS_snoc]; simp [hlt]
      have HSN := Aside0.mk hsn
      clear hsn
      generalize powS (s.take kk) = q at *
      generalize s.getD kk 0 = x at *
      obtain ⟨r1, r2⟩ := pow_le x p2
      have hsh : shl .i64 1 x = 2 ^ x.toNat := by
        unfold shl
        rw [Nat.min_eq_left (by have : IntKind.i64.bits = 64 := rfl; omega)]
        rw [Int.one_mul]
        exact IntWalk.i64_in _ (by omega)
      have hx64 : ¬ (64 ≤ x) := by omega
      have e1 : IntKind.i64.wrap (2 ^ x.toNat) = 2 ^ x.toNat := IntWalk.i64_in _ (by omega)
      have e2 : IntKind.i64.wrap (q + 2 ^ x.toNat) = q + 2 ^ x.toNat := IntWalk.i64_in _ (by omega)
      go_wp2
      go_roundg (s.length - (kk + 1))
      case measure => omega
      case rel => exact ⟨kk + 1, by omega, by omega, by go_num, by rw [HSN.out], rfl⟩
    · have : kk = s.length := by omega
      subst this
      rw [List.take_length]
      go_wp2
      go_ret
      exact ⟨rfl, hb.out⟩
theorem bcell {W w1 : World} (hb : Below W.heap.size W w1) : (∀ b o, b < W.heap.size → w1.cell? ⟨b, o, none⟩ = W.cell? ⟨b, o, none⟩) ∧ (∀ b o, b < W.heap.size → w1.frozen? ⟨b, o, none⟩ = W.frozen? ⟨b, o, none⟩) :=
  ⟨fun b o h => hb.cell (p := ⟨b, o, none⟩) h, fun b o h => hb.frozen (p := ⟨b, o, none⟩) h⟩
theorem row_old {w1 : World} {k : Nat} {c : Array Value} {t : TypeId} (h : w1.heap[k]? = some (.cells c t (0, 0))) (j : Nat) : w1.frozen? ⟨k, j, none⟩ = false ∧ w1.cell? ⟨k, j, none⟩ = c[j]? :=
  ⟨blk_frozen h j, Go.Lib.cell_of_heap h j⟩
theorem row_old2 {w1 : World} {k : Nat} {c : Array Value} {t : TypeId} (h : w1.heap[k]? = some (.cells c t (0, 0))) (o o' : Obj) (j : Nat) : ((w1.alloc o).alloc o').frozen? ⟨k, j, none⟩ = false ∧ ((w1.alloc o).alloc o').cell? ⟨k, j, none⟩ = c[j]? :=
  row_old (blk_alloc (blk_alloc h o) o') j
theorem stays7 {W : World} {k : Nat} {c : Array Value} {t : TypeId} (h : W.heap[k]? = some (.cells c t (0, 0))) (ht : t = 87 ∨ t = 67) {v0 v1 v2 v3 v4 v5 v6 : Value} : Stays W (((((((((((((W.setCell ⟨k, 0, none⟩ v0)).setCell ⟨k, 1, none⟩ v1)).setCell ⟨k, 2, none⟩ v2)).setCell ⟨k, 3, none⟩ v3)).setCell ⟨k, 4, none⟩ v4)).setCell ⟨k, 5, none⟩ v5)).setCell ⟨k, 6, none⟩ v6) := by
  have h0 := blk_set h 0 v0
  have h1 := blk_set h0 1 v1
  have h2 := blk_set h1 2 v2
  have h3 := blk_set h2 3 v3
  have h4 := blk_set h3 4 v4
  have h5 := blk_set h4 5 v5
  exact (((((((Stays.set h ht 0 v0).trans (Stays.set h0 ht 1 v1)).trans (Stays.set h1 ht 2 v2)).trans (Stays.set h2 ht 3 v3)).trans (Stays.set h3 ht 4 v4)).trans (Stays.set h4 ht 5 v5)).trans (Stays.set h5 ht 6 v6))
theorem below7 {W w0 : World} {B k : Nat} (hb : Below B w0 W) (hk : B ≤ k) {v0 v1 v2 v3 v4 v5 v6 : Value} : Below B w0 (((((((((((((W.setCell ⟨k, 0, none⟩ v0)).setCell ⟨k, 1, none⟩ v1)).setCell ⟨k, 2, none⟩ v2)).setCell ⟨k, 3, none⟩ v3)).setCell ⟨k, 4, none⟩ v4)).setCell ⟨k, 5, none⟩ v5)).setCell ⟨k, 6, none⟩ v6) :=
  ((((((hb.setCell (p := ⟨k, 0, none⟩) hk v0).setCell (p := ⟨k, 1, none⟩) hk v1).setCell (p := ⟨k, 2, none⟩) hk v2).setCell (p := ⟨k, 3, none⟩) hk v3).setCell (p := ⟨k, 4, none⟩) hk v4).setCell (p := ⟨k, 5, none⟩) hk v5).setCell (p := ⟨k, 6, none⟩) hk v6
theorem size7 {W : World} {k : Nat} {v0 v1 v2 v3 v4 v5 v6 : Value} : (((((((((((((W.setCell ⟨k, 0, none⟩ v0)).setCell ⟨k, 1, none⟩ v1)).setCell ⟨k, 2, none⟩ v2)).setCell ⟨k, 3, none⟩ v3)).setCell ⟨k, 4, none⟩ v4)).setCell ⟨k, 5, none⟩ v5)).setCell ⟨k, 6, none⟩ v6).heap.size = W.heap.size := by simp [World.setCell]
def zeroAct : Array Value := #[.string ⟨#[]⟩, .int .i64 0, .int .i64 0, .int .i64 0, .int .i64 0, .bool false, .nilFunc]
theorem limited_calls (n : Int) (w : World) :
    Calls Tryz.prog 53 #[.int .i64 n] w fun e w' => ∃ v, e = .returned v ∧ ActV w' v ⟨⟨#[101, 110, 113]⟩, 1, 0, 900, 4, false, ofInto (fun _ _ => True), limD n (putD fun s x => s ++ [x])⟩ ∧ Below w.heap.size w w' := by
  have hput := Aside0.mk (fun W => put_calls ⟨#[101, 110, 113]⟩ 900 _ _ _ W (behind_into W))
  obtain ⟨hb2, c1, c2⟩ := (show _ ∧ _ ∧ _ from ⟨((Below.refl w.heap.size w).alloc (Nat.le_refl _) (.cells #[.int .i64 n] 3 (0, 0))), heap_alloc_new w (.cells #[.int .i64 n] 3 (0, 0)), alloc_size w (.cells #[.int .i64 n] 3 (0, 0))⟩)
  have n2 := heap_alloc_new (w.alloc (.cells #[.int .i64 n] 3 (0, 0))) (.cells zeroAct 87 (0, 0))
  have o2 := (alloc_old (w.alloc (.cells #[.int .i64 n] 3 (0, 0))) (.cells zeroAct 87 (0, 0)) w.heap.size (by omega)).trans c1
  have b3 := hb2.alloc hb2.size (.cells zeroAct 87 (0, 0))
  rw [c2] at n2
  have N2 := Aside0.mk n2
  have O2 := Aside0.mk o2
  have B3 := Aside0.mk b3
  clear hb2 c1 c2 n2 o2 b3
  go_enter Tryz.func53, Tryz.ntmps53
  go_wp2_with (go_at_call 48; refine (hput.out _).mono ?_; rintro e w1 ⟨v1, rfl, ha, hb⟩; obtain ⟨V, rfl, hd⟩ := ha; have HD := Aside0.mk hd; have B4 := Aside0.mk (show Below w.heap.size w w1 from btrans B3.out hb); have N4 := Aside0.mk ((hb.block _ (blk_lt N2.out)).trans N2.out); have O4 := Aside0.mk ((hb.block _ (blk_lt O2.out)).trans O2.out); have hfz := (fun o o' j => (row_old2 N4.out o o' j).1); have hcz := (fun o o' j => (row_old2 N4.out o o' j).2); unfold zeroAct at hcz; have hz : w.heap.size + 1 < w1.heap.size := blk_lt N4.out; obtain ⟨g, cap, rfl, eg, _⟩ := hd; clear hb)
  refine bodyPost_ret (v := .agg #[.string ⟨#[101, 110, 113]⟩, .int .i64 1, .int .i64 0, .int .i64 900, .int .i64 4, .bool false, .func (.func 81) #[] #[.pointer (some ⟨w.heap.size, 0, none⟩), .pointer (some ⟨w1.heap.size + 1, 0, none⟩)]]) (by simp [results, Tryz.results53, go_sem, hcz]) rfl ?_
  have hd2 : ∀ o : Obj, DoV ((w1.alloc o).alloc (.cells #[.func (.func g) #[] cap] 85 (0, 0))) (.func (.func 81) #[] #[.pointer (some ⟨w.heap.size, 0, none⟩), .pointer (some ⟨w1.heap.size + 1, 0, none⟩)]) (ofInto fun _ _ => True) (limD n (putD fun s x => s ++ [x])) := fun o => by
    have hb := ((Below.refl w1.heap.size w1).alloc (Nat.le_refl _) o).alloc (by rw [alloc_size]; omega) (.cells #[.func (.func g) #[] cap] 85 (0, 0))
    have hn := heap_alloc_new (w1.alloc o) (.cells #[.func (.func g) #[] cap] 85 (0, 0))
    rw [alloc_size] at hn
    exact limited1_calls n (HD.out.mono (Stays.of hb) hb.size) (blk_alloc (blk_alloc O4.out o) _) hn
  exact ⟨_, rfl, ⟨_, rfl, (hd2 _).mono (stays7 (blk_alloc (blk_alloc N4.out _) _) (.inl rfl)) (by rw [size7]; exact Nat.le_refl _)⟩, below7 ((B4.out.alloc B4.out.size _).alloc (by rw [alloc_size]; have := B4.out.size; omega) _) (by omega)⟩
end Go.Proofs.YtiialjmpfeopjaaGreat.Sp

namespace Go.Proofs.YtiialjmpfeopjaaGreat.Sp
open Go.RowKit Go.Sort Go.Proofs.YtiialjmpfeopjaaGreatW.PrintWords Go.Proofs.YtiialjmpfeopjaaGreatW.PrintLast Go.Proofs.YtiialjmpfeopjaaGreatW.PrintMore
set_option linter.unusedVariables false
set_option linter.unusedSimpArgs false
set_option maxHeartbeats 8000000
set_option maxRecDepth 100000
theorem own_one (W : World) (base : Nat) (y : Int) (h : base ≤ W.heap.size) : Own (W.alloc (.cells #[.int .i64 y] 3 (0, 0))) base (.slice (some ⟨W.heap.size, 0, none⟩) 1 1) [y] := own_lit W base 3 .i64 [y] h (by simp)
theorem own_two (W : World) (base : Nat) (x y : Int) (h : base ≤ W.heap.size) : Own (W.alloc (.cells #[.int .i64 x, .int .i64 y] 3 (0, 0))) base (.slice (some ⟨W.heap.size, 0, none⟩) 2 2) [x, y] := own_lit W base 3 .i64 [x, y] h (by simp)
theorem Own.drew_ {w : World} {base : Nat} {v : Value} {s : List Int} (h : Own w base v s) : Own w.drew base v s := h
theorem Own.drewN_ {w : World} {base : Nat} {v : Value} {s : List Int} {n : Nat} (h : Own w base v s) : Own (w.drewN n) base v s := h
theorem own_one' {b : Nat} (W : World) (base : Nat) (y : Int) (hb : b = W.heap.size) (h : base ≤ W.heap.size) : Own (W.alloc (.cells #[.int .i64 y] 3 (0, 0))) base (.slice (some ⟨b, 0, none⟩) 1 1) [y] := by subst hb; exact own_one W base y h
theorem own_two' {b : Nat} (W : World) (base : Nat) (x y : Int) (hb : b = W.heap.size) (h : base ≤ W.heap.size) : Own (W.alloc (.cells #[.int .i64 x, .int .i64 y] 3 (0, 0))) base (.slice (some ⟨b, 0, none⟩) 2 2) [x, y] := by subst hb; exact own_two W base x y h
def growD (old : Bool) : Deed := fun s x _ _ => [(if old then s.getD 0 0 else 0, [s.getD 0 0 + x])]
def growPre (lo hi : Int) : List Int → Int → Int → Int → Prop := fun s x _ _ => 0 < s.length ∧ -1000000 ≤ s.getD 0 0 ∧ s.getD 0 0 ≤ 1000000 ∧ -1000 ≤ x ∧ x ≤ 1000
theorem grows1_calls {w : World} (old : Bool) {b : Nat} (hbox : w.heap[b]? = some (.cells #[.bool old] 4 (0, 0))) :
    DoV w (.func (.func 108) #[] #[.pointer (some ⟨b, 0, none⟩)]) (growPre 0 0) (growD old) := by
  refine ⟨108, _, rfl, enters_of Tryz.func108 (by kernel_rfl) rfl, fun W base v s op x y t hW hb1 hb2 ho hl hp => ?_⟩
  obtain ⟨p0, p1, p2, p3, p4⟩ := hp
  have ba := (Below.refl W.heap.size W).alloc (Nat.le_refl _) (.cells #[.string op, .int .i64 x, .int .i64 y] 24 (0, 0))
  have cb : (W.alloc (.cells #[.string op, .int .i64 x, .int .i64 y] 24 (0, 0))).cell? ⟨b, 0, none⟩ = some (.bool old) := one_cell ((hW.trans (Stays.of ba)) _ _ _ (by decide) (by decide) hbox)
  obtain ⟨bv, cp, rfl, hlt, hc⟩ := ho.cellAt 0 p0
  have hc2 := (ba.cell (p := ⟨bv, 0, none⟩) hlt).trans hc
  have BA := Aside0.mk ba
  unfold growD
  generalize s.getD 0 0 = z at *
  have hsum : IntKind.i64.wrap (z + x) = z + x := IntWalk.i64_in _ (by omega)
  have HB2 := Aside0.mk hb2
  clear hc hbox hW ho ba
  cases old
  all_goals
    first | rw [if_pos rfl] | rw [if_neg (by decide)]
    go_enter Tryz.func108, Tryz.ntmps108
    go_wp2
    go_region_with (go_at_call 78; refine (one_calls _ _ base [z + x] _ (by repeat (first | exact own_one' _ _ _ (by simp) (Nat.le_trans HB2.out BA.out.size) | apply Own.drew_ | apply Own.drewN_)) (Nat.le_trans HB2.out (Nat.le_trans BA.out.size (by simp)))).mono ?_; rintro e w2 ⟨v2, rfl, he, hb⟩; have HE := Aside0.mk he; have B2 := Aside0.mk (show Below base W w2 from Below.trans (by repeat (first | exact BA.out.mono HB2.out | apply pw_below_drewN | apply below_drew1 | refine Below.alloc ?_ (Nat.le_trans HB2.out BA.out.size) _)) (hb.mono (Nat.le_trans HB2.out (Nat.le_trans BA.out.size (by simp))))); clear he hb)
    all_goals go_wp2
    all_goals go_ret
    all_goals exact ⟨_, rfl, Effs.below HE.out (by repeat (first | exact Below.refl _ _ | apply pw_below_drewN | apply below_drew1)), by repeat (first | exact B2.out | apply pw_below_drewN | apply below_drew1)⟩
theorem grows_calls (lo hi thr : Int) (old : Bool) (w : World) :
    Calls Tryz.prog 69 #[.int .i64 lo, .int .i64 hi, .int .i64 thr, .bool old] w fun e w' => ∃ v, e = .returned v ∧ ActV w' v ⟨⟨#[97, 100, 100]⟩, 1, lo, hi, thr, false, growPre 0 0, growD old⟩ ∧ Below w.heap.size w w' := by
  have b1 := (Below.refl w.heap.size w).alloc (Nat.le_refl _) (.cells #[.bool old] 4 (0, 0))
  have n1 := heap_alloc_new w (.cells #[.bool old] 4 (0, 0))
  have HD := Aside0.mk (grows1_calls old n1)
  have B1 := Aside0.mk b1
  clear b1 n1
  go_enter Tryz.func69, Tryz.ntmps69
  go_wp2
  refine bodyPost_ret (v := .agg #[.string ⟨#[97, 100, 100]⟩, .int .i64 1, .int .i64 lo, .int .i64 hi, .int .i64 thr, .bool false, .func (.func 108) #[] #[.pointer (some ⟨w.heap.size, 0, none⟩)]]) (by simp [results, Tryz.results69, go_sem]) rfl ⟨_, rfl, ⟨_, rfl, HD.out.mono (Stays.of ((Below.refl _ _).alloc (Nat.le_refl _) _)) (by simp only [alloc_size]; omega)⟩, B1.out.alloc B1.out.size _⟩
/-- A whole number written into one's own row. -/
theorem own_set {w : World} {base b n cap : Nat} {s : List Int} (h : Own w base (.slice (some ⟨b, 0, none⟩) n cap) s) (i : Nat) (x : Int) : Own (w.setCell ⟨b, i, none⟩ (.int .i64 x)) base (.slice (some ⟨b, 0, none⟩) n cap) (s.set i x) := by
  obtain rfl : n = s.length := h.len
  have h2 := (own_store (k := .i64) h (i : Int) x).1
  rw [Int.toNat_natCast] at h2
  unfold Own
  rw [List.length_set]
  exact h2
def updD : Deed := fun s x _ t => [(0, s.set t.toNat x)]
theorem update_do (w : World) : DoV w (.func (.func 97) #[] #[]) (fun s _ _ t => 0 ≤ t ∧ t < s.length) updD := by
  refine ⟨97, #[], rfl, enters_of Tryz.func97 (by kernel_rfl) rfl, fun W base v s op x y t hW hb1 hb2 ho hl hp => ?_⟩
  obtain ⟨p0, p1⟩ := hp
  obtain ⟨k, rfl⟩ := Int.eq_ofNat_of_zero_le p0
  have hk : k < s.length := by omega
  have ba := (Below.refl W.heap.size W).alloc (Nat.le_refl _) (.cells #[.string op, .int .i64 x, .int .i64 y] 24 (0, 0))
  rcases ho.parts with ⟨_, e2⟩ | ⟨bv, cp, cur, rfl, h1, h2, h3, h4, h5, h6⟩
  · rw [e2] at hk; exact absurd hk (by simp)
  · have g2 := blk_alloc h2 (.cells #[.string op, .int .i64 x, .int .i64 y] 24 (0, 0))
    have hfz := blk_frozen g2 k
    have hcl := row_cell g2 h6 k hk
    have hO := own_set (ho.below ba) k x
    have hBb := (ba.mono hb2).setCell (p := ⟨bv, k, none⟩) h1 (.int .i64 x)
    have HO := Aside0.mk hO
    have HBB := Aside0.mk hBb
    have HB2 := Aside0.mk hb2
    have hsz : W.heap.size ≤ ((W.alloc (.cells #[.string op, .int .i64 x, .int .i64 y] 24 (0, 0))).setCell ⟨bv, k, none⟩ (.int .i64 x)).heap.size := by simp [World.setCell]
    have HSZ := Aside0.mk hsz
    show Calls _ _ _ _ fun e W' => ∃ v', e = .returned v' ∧ Effs W' base v' [(0, s.set (k : Int).toNat x)] ∧ Below base W W'
    rw [Int.toNat_natCast]
    clear hO hBb ho ba h1 h2 h3 h4 h5 h6 g2 hW hsz p0 p1
    go_enter Tryz.func97, Tryz.ntmps97
    go_wp2_with (go_at_call 78; refine (one_calls 0 _ base _ _ HO.out (Nat.le_trans HB2.out HSZ.out)).mono ?_; rintro e w2 ⟨v2, rfl, he, hb⟩; have HE := Aside0.mk he; have B2 := Aside0.mk (HBB.out.trans (hb.mono (Nat.le_trans HB2.out HSZ.out))); clear he hb)
    go_ret
    exact ⟨_, rfl, HE.out, B2.out⟩
end Go.Proofs.YtiialjmpfeopjaaGreat.Sp

namespace Go.Proofs.YtiialjmpfeopjaaGreat.Sp
open Go.RowKit Go.Sort Go.Proofs.YtiialjmpfeopjaaGreatW.PrintWords Go.Proofs.YtiialjmpfeopjaaGreatW.PrintLast Go.Proofs.YtiialjmpfeopjaaGreatW.PrintMore
set_option linter.unusedVariables false
set_option linter.unusedSimpArgs false
set_option maxHeartbeats 8000000
set_option maxRecDepth 100000
/-- What a pair's change makes of two numbers. -/
def To (w : World) (V : Value) (F : Int → Int → Int → Int × Int) : Prop := ∃ g, V = .func (.func g) #[] #[] ∧ (∀ args w, (callFunc g args).run Tryz.prog w = .ok (.enter g args) w) ∧
  ∀ (W : World) (a b x : Int), 0 ≤ a → a ≤ 99 → 0 ≤ b → b ≤ 99 → 0 ≤ x → x ≤ 99 → Calls Tryz.prog g #[.int .i64 a, .int .i64 b, .int .i64 x] W fun e W' => e = .returned (.tuple #[.int .i64 (F a b x).1, .int .i64 (F a b x).2]) ∧ W' = W
theorem put_to (w : World) : To w (.func (.func 105) #[] #[]) (fun a b x => (a + x, b)) := by
  refine ⟨105, rfl, enters_of Tryz.func105 (by kernel_rfl) rfl, fun W a b x _ _ _ _ _ _ => ?_⟩
  dsimp only
  go_enter Tryz.func105, Tryz.ntmps105
  go_wp2
  go_ret2
  exact ⟨rfl, rfl⟩
theorem move_to (w : World) : To w (.func (.func 106) #[] #[]) (fun a b x => (a - x, b + x)) := by
  refine ⟨106, rfl, enters_of Tryz.func106 (by kernel_rfl) rfl, fun W a b x _ _ _ _ _ _ => ?_⟩
  dsimp only
  go_enter Tryz.func106, Tryz.ntmps106
  go_wp2
  go_ret2
  exact ⟨rfl, rfl⟩
def changeD (F : Int → Int → Int → Int × Int) : Deed := fun s x _ _ => if (F (s.getD 0 0) (s.getD 1 0) x).1 < 0 ∨ 99 < (F (s.getD 0 0) (s.getD 1 0) x).1 ∨ 99 < (F (s.getD 0 0) (s.getD 1 0) x).2 then [(0, s)] else [(1, [(F (s.getD 0 0) (s.getD 1 0) x).1, (F (s.getD 0 0) (s.getD 1 0) x).2])]
def changePre : List Int → Int → Int → Int → Prop := fun s x _ _ => 1 < s.length ∧ (0 ≤ s.getD 0 0 ∧ s.getD 0 0 ≤ 99) ∧ (0 ≤ s.getD 1 0 ∧ s.getD 1 0 ≤ 99) ∧ 0 ≤ x ∧ x ≤ 99
theorem change1_calls {w : World} {V : Value} {F : Int → Int → Int → Int × Int} (hT : To w V F) {b : Nat} (hbox : w.heap[b]? = some (.cells #[V] 121 (0, 0))) :
    DoV w (.func (.func 104) #[] #[.pointer (some ⟨b, 0, none⟩)]) changePre (changeD F) := by
  refine ⟨104, _, rfl, enters_of Tryz.func104 (by kernel_rfl) rfl, fun W base v s op x y t hW hb1 hb2 ho hl hp => ?_⟩
  obtain ⟨p0, ⟨p1, p2⟩, ⟨p3, p4⟩, p5, p6⟩ := hp
  obtain ⟨g, rfl, eg, hc⟩ := hT
  have ba := (Below.refl W.heap.size W).alloc (Nat.le_refl _) (.cells #[.string op, .int .i64 x, .int .i64 y] 24 (0, 0))
  have cb := into_at hbox (hW.trans (Stays.of ba)) (by decide) (by decide)
  obtain ⟨bv, cp, rfl, c0, c1⟩ := pair_meas_ 0 W _ base v s (ho.below ba) p0
  have HO := Aside0.mk (ho.below ba)
  have BA := Aside0.mk ba
  unfold changeD
  have hcall := fun W => hc W (s.getD 0 0) (s.getD 1 0) x p1 p2 p3 p4 p5 p6
  generalize s.getD 0 0 = p at *
  generalize s.getD 1 0 = q at *
  generalize F p q x = r at *
  obtain ⟨r1, r2⟩ := r
  dsimp only at hcall ⊢
  have HC := Aside0.mk hcall
  have HB2 := Aside0.mk hb2
  clear hc hcall hbox hW ho ba
  by_cases hq : r1 < 0 ∨ 99 < r1 ∨ 99 < r2
  · rw [if_pos hq]
    have h3 : (decide (r1 < 0) = true) ∨ (decide (r1 < 0) = false ∧ decide (99 < r1) = true) ∨ (decide (r1 < 0) = false ∧ decide (99 < r1) = false ∧ decide (99 < r2) = true) := by
      by_cases h1 : r1 < 0
      · exact .inl (decide_eq_true h1)
      · by_cases h2 : 99 < r1
        · exact .inr (.inl ⟨decide_eq_false h1, decide_eq_true h2⟩)
        · exact .inr (.inr ⟨decide_eq_false h1, decide_eq_false h2, decide_eq_true (by omega)⟩)
    clear hq
    rcases h3 with g1 | ⟨g1, g2⟩ | ⟨g1, g2, g3⟩
    all_goals
      go_enter Tryz.func104, Tryz.ntmps104
      go_wp2
      go_quiet ((go_at_fn g; exact Calls.quiet_of_same (HC.out _)))
      all_goals
        go_wp2_with (go_at_call 78; refine (one_calls 0 _ base s _ (by repeat (first | exact HO.out | apply Own.drew_ | apply Own.drewN_)) (by exact Nat.le_trans HB2.out BA.out.size)).mono ?_; rintro e w2 ⟨v2, rfl, he, hb⟩; have HE := Aside0.mk he; have B2 := Aside0.mk (show Below base W w2 from Below.trans (by repeat (first | exact BA.out.mono HB2.out | apply pw_below_drewN | apply below_drew1)) (hb.mono (by exact Nat.le_trans HB2.out BA.out.size))); clear he hb)
        go_ret
        exact ⟨_, rfl, HE.out, B2.out⟩
  · rw [if_neg hq]
    have g1 : decide (r1 < 0) = false := decide_eq_false (by omega)
    have g2 : decide (99 < r1) = false := decide_eq_false (by omega)
    have g3 : decide (99 < r2) = false := decide_eq_false (by omega)
    clear hq
    go_enter Tryz.func104, Tryz.ntmps104
    go_wp2
    go_quiet ((go_at_fn g; exact Calls.quiet_of_same (HC.out _)))
    all_goals
      go_wp2_with (go_at_call 78; refine (one_calls 1 _ base [r1, r2] _ (by repeat (first | exact own_two' _ _ _ _ (by simp) (by exact Nat.le_trans HB2.out BA.out.size) | apply Own.drew_ | apply Own.drewN_)) (Nat.le_trans HB2.out (Nat.le_trans BA.out.size (by simp)))).mono ?_; rintro e w2 ⟨v2, rfl, he, hb⟩; have HE := Aside0.mk he; have B2 := Aside0.mk (show Below base W w2 from Below.trans (by repeat (first | exact BA.out.mono HB2.out | apply pw_below_drewN | apply below_drew1 | refine Below.alloc ?_ (by exact Nat.le_trans HB2.out BA.out.size) _)) (hb.mono (Nat.le_trans HB2.out (Nat.le_trans BA.out.size (by simp))))); clear he hb)
      go_ret
      exact ⟨_, rfl, HE.out, B2.out⟩
theorem change_calls (nm : ByteArray) (V : Value) (F : Int → Int → Int → Int × Int) (w : World) (hT : ∀ w, To w V F) :
    Calls Tryz.prog 103 #[.string nm, V] w fun e w' => ∃ v, e = .returned v ∧ ActV w' v ⟨nm, 1, 0, 99, 4, false, changePre, changeD F⟩ ∧ Below w.heap.size w w' := by
  have b1 := (Below.refl w.heap.size w).alloc (Nat.le_refl _) (.cells #[V] 121 (0, 0))
  have n1 := heap_alloc_new w (.cells #[V] 121 (0, 0))
  have HD := Aside0.mk (change1_calls (hT _) n1)
  have B1 := Aside0.mk b1
  obtain ⟨g, rfl, eg, hc⟩ := hT w
  clear b1 n1 hc hT
  go_enter Tryz.func103, Tryz.ntmps103
  go_wp2
  refine bodyPost_ret (v := .agg #[.string nm, .int .i64 1, .int .i64 0, .int .i64 99, .int .i64 4, .bool false, .func (.func 104) #[] #[.pointer (some ⟨w.heap.size, 0, none⟩)]]) (by simp [results, Tryz.results103, go_sem]) rfl ⟨_, rfl, ⟨_, rfl, HD.out.mono (Stays.of ((Below.refl _ _).alloc (Nat.le_refl _) _)) (by simp only [alloc_size]; omega)⟩, B1.out.alloc B1.out.size _⟩
end Go.Proofs.YtiialjmpfeopjaaGreat.Sp

namespace Go.Proofs.YtiialjmpfeopjaaGreat.Sp
open Go.RowKit Go.Sort Go.Proofs.YtiialjmpfeopjaaGreatW.PrintWords Go.Proofs.YtiialjmpfeopjaaGreatW.PrintLast Go.Proofs.YtiialjmpfeopjaaGreatW.PrintMore
set_option linter.unusedVariables false
set_option linter.unusedSimpArgs false
set_option maxHeartbeats 8000000
set_option maxRecDepth 100000
abbrev SetF := List Int → Int → Nat → Bool → List Eff
def SetV (V : Value) (F : SetF) : Prop := ∃ g, V = .func (.func g) #[] #[] ∧ (∀ args w, (callFunc g args).run Tryz.prog w = .ok (.enter g args) w) ∧
  ∀ (W : World) (base : Nat) (v : Value) (s : List Int) (x : Int) (i : Nat) (there : Bool), base ≤ W.heap.size → Own W base v s → s.length ≤ 1000 → i ≤ s.length → (there = true → i < s.length) →
    Calls Tryz.prog g #[v, .int .i64 x, .int .i64 i, .bool there] W fun e W' => ∃ v', e = .returned v' ∧ Effs W' base v' (F s x i there) ∧ Below base W W'
def addF : SetF := fun s x i there => if there = true then [(0, s)] else [(1, s.take i ++ x :: s.drop i)]
def remF : SetF := fun s x i there => if there = true then [(1, s.eraseIdx i)] else [(0, s)]
def hasF : SetF := fun s x i there => if there = true then [(1, s)] else [(0, s)]
theorem add_set : SetV (.func (.func 90) #[] #[]) addF := by
  refine ⟨90, rfl, enters_of Tryz.func90 (by kernel_rfl) rfl, fun W base v s x i there hb ho hl hi hth => ?_⟩
  have HB := Aside0.mk hb
  have HO := Aside0.mk ho
  have hin := Aside0.mk (insert_calls v base W.heap.size s i x (W.alloc (.cells #[.int .i64 x] 3 (0, 0))) (ho.below ((Below.refl _ _).alloc (Nat.le_refl _) _)) (Nat.le_trans hb (by rw [alloc_size]; omega)) hi (heap_alloc_new _ _) (fun e => by have := ho.lt _ e; omega) (by omega))
  obtain ⟨A, c, rfl⟩ := ho.slice
  unfold addF
  clear ho hth
  cases there with
  | true =>
    rw [if_pos rfl]
    clear hb hin
    go_enter Tryz.func90, Tryz.ntmps90
    go_wp2_with (go_at_call 78; refine (one_calls 0 _ base s _ HO.out HB.out).mono ?_; rintro e w2 ⟨v2, rfl, he, hb⟩; have HE := Aside0.mk he; have B2 := Aside0.mk (hb.mono HB.out); clear he hb)
    go_ret
    exact ⟨_, rfl, HE.out, B2.out⟩
  | false =>
    rw [if_neg (by decide)]
    generalize s.take i ++ x :: s.drop i = s2 at *
    clear hb
    go_enter Tryz.func90, Tryz.ntmps90
    go_wp2_with (first
      | (go_at_call 83; refine (hin.out).mono ?_; rintro e w1 ⟨v1, rfl, ho1, hb⟩; have HO1 := Aside0.mk ho1; have B1 := Aside0.mk (show Below base W w1 from ((Below.refl base W).alloc HB.out _).trans hb); obtain ⟨A1, c1, rfl⟩ := ho1.slice; clear ho1 hb)
      | (go_at_call 78; refine (one_calls 1 _ base s2 _ HO1.out (Nat.le_trans HB.out B1.out.size)).mono ?_; rintro e w2 ⟨v2, rfl, he, hb⟩; have HE := Aside0.mk he; have B2 := Aside0.mk (B1.out.trans (hb.mono (Nat.le_trans HB.out B1.out.size))); clear he hb))
    go_ret
    exact ⟨_, rfl, HE.out, B2.out⟩
theorem rem_set : SetV (.func (.func 91) #[] #[]) remF := by
  refine ⟨91, rfl, enters_of Tryz.func91 (by kernel_rfl) rfl, fun W base v s x i there hb ho hl hi hth => ?_⟩
  have HB := Aside0.mk hb
  have HO := Aside0.mk ho
  unfold remF
  cases there with
  | true =>
    rw [if_pos rfl]
    have hde := Aside0.mk (delete_callsI v base s i W ho (hth rfl))
    obtain ⟨A, c, rfl⟩ := ho.slice
    have hw : IntKind.i64.wrap ((i : Int) + 1) = (i : Int) + 1 := IntWalk.i64_in _ (by omega)
    generalize s.eraseIdx i = s2 at *
    clear hb ho hth
    go_enter Tryz.func91, Tryz.ntmps91
    go_wp2_with (first
      | (go_at_call 80; refine (hde.out).mono ?_; rintro e w1 ⟨v1, rfl, ho1, hb⟩; have HO1 := Aside0.mk ho1; have B1 := Aside0.mk hb; obtain ⟨A1, c1, rfl⟩ := ho1.slice; clear ho1 hb)
      | (go_at_call 78; refine (one_calls 1 _ base s2 _ HO1.out (Nat.le_trans HB.out B1.out.size)).mono ?_; rintro e w2 ⟨v2, rfl, he, hb⟩; have HE := Aside0.mk he; have B2 := Aside0.mk (B1.out.trans (hb.mono (Nat.le_trans HB.out B1.out.size))); clear he hb))
    go_ret
    exact ⟨_, rfl, HE.out, B2.out⟩
  | false =>
    rw [if_neg (by decide)]
    obtain ⟨A, c, rfl⟩ := ho.slice
    clear hb ho hth
    go_enter Tryz.func91, Tryz.ntmps91
    go_wp2_with (go_at_call 78; refine (one_calls 0 _ base s _ HO.out HB.out).mono ?_; rintro e w2 ⟨v2, rfl, he, hb⟩; have HE := Aside0.mk he; have B2 := Aside0.mk (hb.mono HB.out); clear he hb)
    go_ret
    exact ⟨_, rfl, HE.out, B2.out⟩
theorem has_set : SetV (.func (.func 92) #[] #[]) hasF := by
  refine ⟨92, rfl, enters_of Tryz.func92 (by kernel_rfl) rfl, fun W base v s x i there hb ho hl hi hth => ?_⟩
  have HB := Aside0.mk hb
  have HO := Aside0.mk ho
  obtain ⟨A, c, rfl⟩ := ho.slice
  unfold hasF
  clear hb ho hth
  cases there with
  | true =>
    rw [if_pos rfl]
    go_enter Tryz.func92, Tryz.ntmps92
    go_wp2_with (go_at_call 78; refine (one_calls 1 _ base s _ HO.out HB.out).mono ?_; rintro e w2 ⟨v2, rfl, he, hb⟩; have HE := Aside0.mk he; have B2 := Aside0.mk (hb.mono HB.out); clear he hb)
    go_ret
    exact ⟨_, rfl, HE.out, B2.out⟩
  | false =>
    rw [if_neg (by decide)]
    go_enter Tryz.func92, Tryz.ntmps92
    go_wp2_with (go_at_call 78; refine (one_calls 0 _ base s _ HO.out HB.out).mono ?_; rintro e w2 ⟨v2, rfl, he, hb⟩; have HE := Aside0.mk he; have B2 := Aside0.mk (hb.mono HB.out); clear he hb)
    go_ret
    exact ⟨_, rfl, HE.out, B2.out⟩
def setD (F : SetF) : Deed := fun s x _ _ => F s x (s.countP (· < x)) (s.contains x)
theorem there_lt (s : List Int) (x : Int) (h : s.contains x = true) : s.countP (· < x) < s.length := by
  rw [List.contains_iff_mem] at h
  refine Nat.lt_of_le_of_ne List.countP_le_length (fun e => ?_)
  have := List.countP_eq_length.1 e x h
  simp at this
theorem set1_calls {w : World} {V : Value} {F : SetF} (hS : SetV V F) {b : Nat} (hbox : w.heap[b]? = some (.cells #[V] 116 (0, 0))) :
    DoV w (.func (.func 89) #[] #[.pointer (some ⟨b, 0, none⟩)]) (fun s _ _ _ => s.Pairwise (· ≤ ·)) (setD F) := by
  refine ⟨89, _, rfl, enters_of Tryz.func89 (by kernel_rfl) rfl, fun W base v s op x y t hW hb1 hb2 ho hl hp => ?_⟩
  obtain ⟨g, rfl, eg, hc⟩ := hS
  have ba := (Below.refl W.heap.size W).alloc (Nat.le_refl _) (.cells #[.string op, .int .i64 x, .int .i64 y] 24 (0, 0))
  have cb := into_at hbox (hW.trans (Stays.of ba)) (by decide) (by decide)
  have hse := Aside0.mk (search_calls v base s x _ (ho.below ba) hp (by omega))
  have hlt := there_lt s x
  have hcn : s.countP (· < x) ≤ s.length := List.countP_le_length
  unfold setD
  generalize s.countP (· < x) = i at *
  generalize s.contains x = q at *
  have hcall := Aside0.mk (fun n => hc ((W.alloc (.cells #[.string op, .int .i64 x, .int .i64 y] 24 (0, 0))).drewN n) base v s x i q (Nat.le_trans hb2 ba.size) (ho.below (pw_below_drewN ba n)) hl hcn hlt)
  have BA := Aside0.mk (ba.mono hb2)
  obtain ⟨A, c, rfl⟩ := ho.slice
  clear hc hbox hW ho hp ba hlt
  go_enter Tryz.func89, Tryz.ntmps89
  go_wp2_with (first
    | (go_at_call 82; refine (hse.out).mono ?_; rintro e w1 ⟨rfl, n1, rfl⟩)
    | (go_at_fn g; refine (hcall.out _).mono ?_; rintro e w2 ⟨v2, rfl, he, hb⟩; have HE := Aside0.mk he; have B2 := Aside0.mk (show Below base W w2 from (pw_below_drewN BA.out _).trans hb); clear he hb))
  go_ret
  exact ⟨_, rfl, HE.out, B2.out⟩
theorem set_calls (nm : ByteArray) (hi : Int) (b : Nat) (V : Value) (F : SetF) (w : World) (hS : SetV V F) (hh : w.cell? ⟨b, 0, none⟩ = some (.int .i64 hi)) :
    Calls Tryz.prog 88 #[.string nm, V, .pointer (some ⟨b, 0, none⟩)] w fun e w' => ∃ v, e = .returned v ∧ ActV w' v ⟨nm, 1, 0, hi, 4, false, fun s _ _ _ => s.Pairwise (· ≤ ·), setD F⟩ ∧ Below w.heap.size w w' := by
  have b1 := (Below.refl w.heap.size w).alloc (Nat.le_refl _) (.cells #[V] 116 (0, 0))
  have n1 := heap_alloc_new w (.cells #[V] 116 (0, 0))
  have hlt := World.block_lt_of_cell? w _ hh
  have hh1 := (b1.cell (p := ⟨b, 0, none⟩) hlt).trans hh
  have HD := Aside0.mk (set1_calls hS n1)
  have B1 := Aside0.mk b1
  obtain ⟨g, rfl, eg, hc⟩ := hS
  clear b1 n1 hc
  go_enter Tryz.func88, Tryz.ntmps88
  go_wp2
  refine bodyPost_ret (v := .agg #[.string nm, .int .i64 1, .int .i64 0, .int .i64 hi, .int .i64 4, .bool false, .func (.func 89) #[] #[.pointer (some ⟨w.heap.size, 0, none⟩)]]) (by simp [results, Tryz.results88, go_sem]) rfl ⟨_, rfl, ⟨_, rfl, HD.out.mono (Stays.of ((Below.refl _ _).alloc (Nat.le_refl _) _)) (by simp only [alloc_size]; omega)⟩, B1.out.alloc B1.out.size _⟩
/-- The acts of a rule, laid in a row. -/
def acells (a : ActS) (V : Value) : List Value := [.string a.name, .int .i64 a.args, .int .i64 a.lo, .int .i64 a.hi, .int .i64 a.thr, .bool a.rd, V]
def ActsV (w : World) (v : Value) (l : List ActS) : Prop := ∃ base Vs, Vs.length = l.length ∧ (Kd.raw 7).R 87 w base (fun _ => True) v (List.zipWith acells l Vs) ∧ ∀ (j : Nat) a V, l[j]? = some a → Vs[j]? = some V → DoV w V a.pre a.D
theorem DoV.one {w : World} {V : Value} {pre : List Int → Int → Int → Int → Prop} {D : Deed} (h : DoV w V pre D) : V.oneCell' = true := by
  obtain ⟨g, cap, e, _⟩ := h
  rw [e]; rfl
theorem acells_one {a : ActS} {V : Value} (h : V.oneCell' = true) : ∀ u ∈ acells a V, u.oneCell' = true := by
  intro u hu
  simp only [acells, List.mem_cons, List.not_mem_nil, or_false] at hu
  rcases hu with rfl | rfl | rfl | rfl | rfl | rfl | rfl <;> first | rfl | exact h
theorem ActsV.below {w w1 : World} {v : Value} {l : List ActS} (h : ActsV w v l) (hb : Below w.heap.size w w1) : ActsV w1 v l := by
  obtain ⟨base, Vs, hl, hr, hd⟩ := h
  exact ⟨base, Vs, hl, Kd.R_below hr hb, fun j a V h1 h2 => (hd j a V h1 h2).mono (Stays.of hb) hb.size⟩
theorem acts_reps : ∀ (l : List ActS) (Vs : List Value), Vs.length = l.length → (∀ V ∈ Vs, V.oneCell' = true) → Reps (fun (x : List Value) (cs : List Value) => cs = x ∧ cs.length = 7 ∧ ∀ u ∈ cs, u.oneCell' = true) 7 (List.zipWith acells l Vs) (List.zipWith acells l Vs).flatten
  | [], _, _, _ => Reps.none _ _
  | a :: l, V :: Vs, h, ho => by
    have ih := acts_reps l Vs (by simpa using h) (fun U hU => ho U (List.mem_cons_of_mem _ hU))
    exact Reps.front (c := acells a V) ⟨rfl, rfl, acells_one (ho V (List.mem_cons_self ..))⟩ rfl ih (by simp)
/-- A literal of acts. -/
theorem acts_lit (W : World) (l : List ActS) (Vs : List Value) (hl : Vs.length = l.length) (hd : ∀ (j : Nat) a V, l[j]? = some a → Vs[j]? = some V → DoV W V a.pre a.D) (hm : l.length ≤ 100) (cs : Array Value) (hcs : cs = (List.zipWith acells l Vs).flatten.toArray) {b n : Nat} (hb : b = W.heap.size) (hn : n = l.length) :
    ActsV (W.alloc (.cells cs 87 (0, 0))) (.slice (some ⟨b, 0, none⟩) n n) l := by
  subst hcs hb hn
  have hone : ∀ V ∈ Vs, V.oneCell' = true := by
    intro V hV
    obtain ⟨j, hj, rfl⟩ := List.mem_iff_getElem.1 hV
    exact (hd j (l[j]'(by omega)) _ (List.getElem?_eq_getElem (by omega)) (List.getElem?_eq_getElem hj)).one
  have hz : (List.zipWith acells l Vs).length = l.length := by rw [List.length_zipWith]; omega
  have hr := OwnRow.lit (e := 87) W W.heap.size (acts_reps l Vs hl hone) (Nat.le_refl _) (by rw [hz]; omega)
  rw [hz] at hr
  exact ⟨W.heap.size, Vs, hl, ⟨fun _ _ => trivial, hr⟩, fun j a V h1 h2 => (hd j a V h1 h2).mono (Stays.of ((Below.refl _ _).alloc (Nat.le_refl _) _)) (by rw [alloc_size]; omega)⟩
def setActs (hi : Int) : List ActS := [⟨⟨#[97, 100, 100]⟩, 1, 0, hi, 4, false, fun s _ _ _ => s.Pairwise (· ≤ ·), setD addF⟩, ⟨⟨#[114, 101, 109]⟩, 1, 0, hi, 4, false, fun s _ _ _ => s.Pairwise (· ≤ ·), setD remF⟩, ⟨⟨#[104, 97, 115]⟩, 1, 0, hi, 4, true, fun s _ _ _ => s.Pairwise (· ≤ ·), setD hasF⟩]
theorem sets_calls (hi : Int) (w : World) :
    Calls Tryz.prog 58 #[.int .i64 hi] w fun e w' => ∃ v, e = .returned v ∧ ActsV w' v (setActs hi) ∧ Below w.heap.size w w' := by
  have b1 := (Below.refl w.heap.size w).alloc (Nat.le_refl _) (.cells #[.int .i64 hi] 3 (0, 0))
  have n1 := heap_alloc_new w (.cells #[.int .i64 hi] 3 (0, 0))
  have B1 := Aside0.mk b1
  have N1 := Aside0.mk n1
  have eg : ∀ args w, (callFunc 88 args).run Tryz.prog w = .ok (.enter 88 args) w := enters_of Tryz.func88 (by kernel_rfl) rfl
  clear b1 n1
  go_enter Tryz.func58, Tryz.ntmps58
  have tok1 : True := trivial
  go_wp2_with (first
    | (go_at_fn 88; have _t := tok1; refine (set_calls ⟨#[97, 100, 100]⟩ hi w.heap.size _ addF _ add_set (one_cell N1.out)).mono ?_; rintro e w1 ⟨v1, rfl, ha, hb⟩; obtain ⟨V1, rfl, hd1⟩ := ha; have HD1 := Aside0.mk hd1; have B2 := Aside0.mk (btrans B1.out hb); have N2 := Aside0.mk ((hb.block _ (blk_lt N1.out)).trans N1.out); obtain ⟨g1, cap1, rfl, _⟩ := hd1; clear hb tok1; have tok2 : True := trivial)
    | (go_at_fn 88; have _t := tok2; refine (set_calls ⟨#[114, 101, 109]⟩ hi w.heap.size _ remF _ rem_set (one_cell (blk_alloc N2.out _))).mono ?_; rintro e w2 ⟨v2, rfl, ha, hb⟩; obtain ⟨V2, rfl, hd2⟩ := ha; have HD2 := Aside0.mk hd2; have BB2 := Aside0.mk hb; have N3 := Aside0.mk ((hb.block _ (blk_lt (blk_alloc N2.out _))).trans (blk_alloc N2.out _)); obtain ⟨hcl2, hfr2⟩ := bcell hb; have h12 : w1.heap.size < w2.heap.size := (by have := hb.size; simp at this; omega); obtain ⟨g2, cap2, rfl, _⟩ := hd2; clear hb tok2; have tok3 : True := trivial)
    | (go_at_fn 88; have _t := tok3; refine (set_calls ⟨#[104, 97, 115]⟩ hi w.heap.size _ hasF _ has_set (one_cell (blk_alloc N3.out _))).mono ?_; rintro e w3 ⟨v3, rfl, ha, hb⟩; obtain ⟨V3, rfl, hd3⟩ := ha; have HD3 := Aside0.mk hd3; have BB3 := Aside0.mk hb; obtain ⟨hcl3, hfr3⟩ := bcell hb; have h23 : w2.heap.size < w3.heap.size := (by have := hb.size; simp at this; omega); have h13 : w1.heap.size < w3.heap.size := (by omega); obtain ⟨g3, cap3, rfl, _⟩ := hd3; clear hb tok3))
  go_ret
  have q12 : Below w1.heap.size w1 w2 := btrans ((Below.refl w1.heap.size w1).alloc (Nat.le_refl _) _) BB2.out
  have q23 : Below w2.heap.size w2 w3 := btrans ((Below.refl w2.heap.size w2).alloc (Nat.le_refl _) _) BB3.out
  have q3 : ∀ o, Below w3.heap.size w3 (w3.alloc o) := fun o => (Below.refl w3.heap.size w3).alloc (Nat.le_refl _) o
  refine ⟨_, rfl, acts_lit (w3.alloc _) (setActs hi) [.func (.func g1) #[] cap1, .func (.func g2) #[] cap2, .func (.func g3) #[] cap3] rfl (fun j a V h1 h2 => ?_) (by simp [setActs]) _ rfl (by rw [alloc_size]) rfl, ?_⟩
  · match j, h1, h2 with
    | 0, h1, h2 => cases h1; cases h2; exact HD1.out.mono (Stays.of (btrans q12 (btrans q23 (q3 _)))) (btrans q12 (btrans q23 (q3 _))).size
    | 1, h1, h2 => cases h1; cases h2; exact HD2.out.mono (Stays.of (btrans q23 (q3 _))) (btrans q23 (q3 _)).size
    | 2, h1, h2 => cases h1; cases h2; exact HD3.out.mono (Stays.of (q3 _)) (q3 _).size
    | j + 3, h1, _ => simp [setActs] at h1
  · exact (btrans B2.out (btrans q12 (btrans q23 (q3 _)))).alloc (btrans B2.out (btrans q12 (btrans q23 (q3 _)))).size _
end Go.Proofs.YtiialjmpfeopjaaGreat.Sp

namespace Go.Proofs.YtiialjmpfeopjaaGreat.Sp
open Go.RowKit Go.Sort Go.Proofs.YtiialjmpfeopjaaGreatW.PrintWords Go.Proofs.YtiialjmpfeopjaaGreatW.PrintLast Go.Proofs.YtiialjmpfeopjaaGreatW.PrintMore
set_option linter.unusedVariables false
set_option linter.unusedSimpArgs false
set_option maxHeartbeats 8000000
set_option maxRecDepth 100000
abbrev UniF := List Int → Int → Int → List Eff
def UniV (V : Value) (F : UniF) : Prop := ∃ g, V = .func (.func g) #[] #[] ∧ (∀ args w, (callFunc g args).run Tryz.prog w = .ok (.enter g args) w) ∧
  ∀ (W : World) (base : Nat) (v : Value) (s : List Int) (a b : Int), base ≤ W.heap.size → Own W base v s → s.length ≤ 1000 →
    Calls Tryz.prog g #[v, .int .i64 a, .int .i64 b] W fun e W' => ∃ v', e = .returned v' ∧ Effs W' base v' (F s a b) ∧ Below base W W'
def sameF : UniF := fun s a b => if a = b then [(1, s)] else [(0, s)]
def joinI (a b x : Int) : Int := if x = max a b then min a b else x
def uniteF : UniF := fun s a b => if a = b then [(0, s)] else [(1, s.map (joinI a b))]
theorem same_uni : UniV (.func (.func 102) #[] #[]) sameF := by
  refine ⟨102, rfl, enters_of Tryz.func102 (by kernel_rfl) rfl, fun W base v s a b hb ho hl => ?_⟩
  have HB := Aside0.mk hb
  have HO := Aside0.mk ho
  obtain ⟨A, c, rfl⟩ := ho.slice
  unfold sameF
  clear hb ho
  by_cases h : a = b
  · rw [if_pos h]
    have hd : (a == b) = true := by simp [h]
    clear h
    go_enter Tryz.func102, Tryz.ntmps102
    go_wp2_with (go_at_call 78; refine (one_calls 1 _ base s _ HO.out HB.out).mono ?_; rintro e w2 ⟨v2, rfl, he, hb⟩; have HE := Aside0.mk he; have B2 := Aside0.mk (hb.mono HB.out); clear he hb)
    go_ret
    exact ⟨_, rfl, HE.out, B2.out⟩
  · rw [if_neg h]
    have hd : (a == b) = false := by simp [h]
    clear h
    go_enter Tryz.func102, Tryz.ntmps102
    go_wp2_with (go_at_call 78; refine (one_calls 0 _ base s _ HO.out HB.out).mono ?_; rintro e w2 ⟨v2, rfl, he, hb⟩; have HE := Aside0.mk he; have B2 := Aside0.mk (hb.mono HB.out); clear he hb)
    go_ret
    exact ⟨_, rfl, HE.out, B2.out⟩
/-- The list when k of its numbers were looked at. -/
def joined (a b : Int) (s : List Int) (k : Nat) : List Int := (s.take k).map (joinI a b) ++ s.drop k
theorem joined_len (a b : Int) (s : List Int) (k : Nat) (hk : k ≤ s.length) : (joined a b s k).length = s.length := by simp [joined]; omega
theorem joined_at (a b : Int) (s : List Int) (k : Nat) (hk : k < s.length) : (joined a b s k).getD k 0 = s.getD k 0 := by
  unfold joined
  have h1 : ((s.take k).map (joinI a b)).length = k := by simp; omega
  simp only [List.getD_eq_getElem?_getD]
  rw [List.getElem?_append_right (by omega), h1, Nat.sub_self, List.getElem?_drop, Nat.add_zero]
theorem joined_succ (a b : Int) (s : List Int) (k : Nat) (hk : k < s.length) : joined a b s (k + 1) = (joined a b s k).set k (joinI a b (s.getD k 0)) := by
  unfold joined
  have h1 : ((s.take k).map (joinI a b)).length = k := by simp; omega
  rw [List.set_append_right _ _ (by omega), h1, Nat.sub_self, List.drop_eq_getElem_cons hk, List.set_cons_zero, List.take_succ_eq_append_getElem hk, List.map_append]
  simp [hk]
theorem unite_uni : UniV (.func (.func 101) #[] #[]) uniteF := by
  refine ⟨101, rfl, enters_of Tryz.func101 (by kernel_rfl) rfl, fun W base v s a b hb ho hl => ?_⟩
  have HB := Aside0.mk hb
  have HO := Aside0.mk ho
  unfold uniteF
  by_cases h : a = b
  · rw [if_pos h]
    have hd : (a == b) = true := by simp [h]
    obtain ⟨A, c, rfl⟩ := ho.slice
    clear hb ho h
    go_enter Tryz.func101, Tryz.ntmps101
    go_wp2_with (go_at_call 78; refine (one_calls 0 _ base s _ HO.out HB.out).mono ?_; rintro e w2 ⟨v2, rfl, he, hb⟩; have HE := Aside0.mk he; have B2 := Aside0.mk (hb.mono HB.out); clear he hb)
    go_ret
    exact ⟨_, rfl, HE.out, B2.out⟩
  · rw [if_neg h]
    have hd : (a == b) = false := by simp [h]
    obtain ⟨A, c, rfl⟩ := ho.slice
    have HO2 : Aside0 (Own W base (.slice A s.length c) (joined a b s 0)) := ⟨by unfold joined; simpa using HO.out⟩
    have HB0 := Aside0.mk (Below.refl base W)
    clear hb ho h
    go_enter Tryz.func101, Tryz.ntmps101
    go_wp2
    go_loopg [16] s.length (fun gg v16 wr => ∃ kk : Nat, kk ≤ s.length ∧ s.length - kk ≤ gg ∧ v16 = .int .i64 kk ∧ Aside0 (Own wr base (.slice A s.length c) (joined a b s kk)) ∧ Aside0 (Below base W wr))
    case atStart => exact ⟨0, Nat.zero_le _, by omega, rfl, HO2, HB0⟩
    case round =>
      clear HO2 HB0
      obtain ⟨kk, hkk, hg, rfl, HO2, HB2⟩ := hrel
      by_cases hlt : kk < s.length
      · have hjl := joined_len a b s kk hkk
        rcases HO2.out.parts with ⟨e2, _⟩ | ⟨bv, cp, cur, e2, h1, h2, h3, h4, h5, h6⟩
        · injection e2 with _ e2 _
          omega
        · injection e2 with e2 e3 e4
          subst e2 e4
          clear e3
          have hcl := row_cell h2 h6 kk (by omega)
          rw [joined_at a b s kk hlt] at hcl
          have hfz := blk_frozen h2 kk
          have hset := own_set HO2.out kk (joinI a b (s.getD kk 0))
          rw [← joined_succ a b s kk hlt] at hset
          have hbl := HB2.out.setCell (p := ⟨bv, kk, none⟩) h1 (.int .i64 (joinI a b (s.getD kk 0)))
          have hns : joinI a b (s.getD kk 0) = s.getD kk 0 → joined a b s (kk + 1) = joined a b s kk := fun e => by
            rw [joined_succ a b s kk hlt, e, ← joined_at a b s kk hlt]
            simp [show kk < (joined a b s kk).length by omega]
          generalize s.getD kk 0 = x at *
          have HSET := Aside0.mk hset
          have HBL := Aside0.mk hbl
          have HNS := Aside0.mk hns
          clear hset hbl hns h1 h2 h3 h4 h5 h6 hjl
          by_cases hx : x = max a b
          · have hxd : (x == max a b) = true := by simp [hx]
            have hji : joinI a b x = min a b := by unfold joinI; rw [if_pos hx]
            rw [hji] at HSET HBL
            clear hx hji HNS
            go_wp2
            go_roundg (s.length - (kk + 1))
            case measure => omega
            case rel => exact ⟨kk + 1, by omega, by omega, by go_num, HSET, HBL⟩
          · have hxd : (x == max a b) = false := by simp [hx]
            have hji : joinI a b x = x := by unfold joinI; rw [if_neg hx]
            have HJ := Aside0.mk (HNS.out hji)
            clear hx hji HNS HSET HBL
            go_wp2
            go_roundg (s.length - (kk + 1))
            case measure => omega
            case rel => exact ⟨kk + 1, by omega, by omega, by go_num, by rw [HJ.out]; exact HO2, HB2⟩
      · have hk : kk = s.length := by omega
        subst hk
        have hj : joined a b s s.length = s.map (joinI a b) := by unfold joined; simp
        have hl2 := joined_len a b s s.length (Nat.le_refl _)
        rw [hj] at HO2 hl2
        go_wp2_with (go_at_call 78; refine (one_calls 1 _ base (s.map (joinI a b)) _ HO2.out (Nat.le_trans HB.out HB2.out.size)).mono ?_; rintro e w2 ⟨v2, rfl, he, hb⟩; have HE := Aside0.mk he; have B2 := Aside0.mk (HB2.out.trans (hb.mono (Nat.le_trans HB.out HB2.out.size))); clear he hb)
        go_ret
        exact ⟨_, rfl, HE.out, B2.out⟩
def unionD (F : UniF) : Deed := fun s x y _ => F s (s.getD x.toNat 0) (s.getD y.toNat 0)
theorem union1_calls {w : World} {V : Value} {F : UniF} (hS : UniV V F) {b : Nat} (hbox : w.heap[b]? = some (.cells #[V] 119 (0, 0))) :
    DoV w (.func (.func 100) #[] #[.pointer (some ⟨b, 0, none⟩)]) (fun s x y _ => 0 ≤ x ∧ x < s.length ∧ 0 ≤ y ∧ y < s.length) (unionD F) := by
  refine ⟨100, _, rfl, enters_of Tryz.func100 (by kernel_rfl) rfl, fun W base v s op x y t hW hb1 hb2 ho hl hp => ?_⟩
  obtain ⟨p1, p2, p3, p4⟩ := hp
  obtain ⟨g, rfl, eg, hc⟩ := hS
  obtain ⟨i, rfl⟩ := Int.eq_ofNat_of_zero_le p1
  obtain ⟨j, rfl⟩ := Int.eq_ofNat_of_zero_le p3
  have hi : i < s.length := by omega
  have hj : j < s.length := by omega
  have ba := (Below.refl W.heap.size W).alloc (Nat.le_refl _) (.cells #[.string op, .int .i64 (i : Int), .int .i64 (j : Int)] 24 (0, 0))
  have cb := into_at hbox (hW.trans (Stays.of ba)) (by decide) (by decide)
  rcases ho.parts with ⟨_, e2⟩ | ⟨bv, cp, cur, rfl, h1, h2, h3, h4, h5, h6⟩
  · rw [e2] at hi; exact absurd hi (by simp)
  · have g2 := blk_alloc h2 (.cells #[.string op, .int .i64 (i : Int), .int .i64 (j : Int)] 24 (0, 0))
    have ci := row_cell g2 h6 i hi
    have cj := row_cell g2 h6 j hj
    unfold unionD
    rw [Int.toNat_natCast, Int.toNat_natCast]
    have hcall := fun n => hc ((W.alloc (.cells #[.string op, .int .i64 (i : Int), .int .i64 (j : Int)] 24 (0, 0))).drewN n) base _ s (s.getD i 0) (s.getD j 0) (Nat.le_trans hb2 ba.size) (ho.below (pw_below_drewN ba n)) hl
    have BA := Aside0.mk (ba.mono hb2)
    have nx := heap_alloc_new W (.cells #[.string op, .int .i64 (i : Int), .int .i64 (j : Int)] 24 (0, 0))
    have cx := Go.Lib.cell_of_heap nx 1
    have cy := Go.Lib.cell_of_heap nx 2
    simp only [List.getElem?_toArray, List.getElem?_cons_succ, List.getElem?_cons_zero] at cx cy
    generalize s.getD i 0 = p at *
    generalize s.getD j 0 = q at *
    have i1 : (i : Int) < (s.length : Int) := by omega
    have j1 : (j : Int) < (s.length : Int) := by omega
    have HCALL := Aside0.mk hcall
    clear hc hbox hW ho ba h1 h2 h3 h4 h5 h6 g2 nx hcall
    go_enter Tryz.func100, Tryz.ntmps100
    go_wp2
    generalize W.alloc (.cells #[.string op, .int .i64 (i : Int), .int .i64 (j : Int)] 24 (0, 0)) = W2 at *
    have f1 : ∀ d, ({ heap := W2.heap, tape := W2.tape, drawn := d, os := W2.os, output := W2.output } : World).cell? ⟨bv, i, none⟩ = some (.int .i64 p) := fun _ => ci
    have f2 : ∀ d, ({ heap := W2.heap, tape := W2.tape, drawn := d, os := W2.os, output := W2.output } : World).cell? ⟨bv, j, none⟩ = some (.int .i64 q) := fun _ => cj
    have f3 : ∀ d, ({ heap := W2.heap, tape := W2.tape, drawn := d, os := W2.os, output := W2.output } : World).cell? ⟨b, 0, none⟩ = some (.func (.func g) #[] #[]) := fun _ => cb
    have f4 : ∀ d, ({ heap := W2.heap, tape := W2.tape, drawn := d, os := W2.os, output := W2.output } : World).cell? ⟨W.heap.size, 1, none⟩ = some (.int .i64 (i : Int)) := fun _ => cx
    have f5 : ∀ d, ({ heap := W2.heap, tape := W2.tape, drawn := d, os := W2.os, output := W2.output } : World).cell? ⟨W.heap.size, 2, none⟩ = some (.int .i64 (j : Int)) := fun _ => cy
    clear ci cj cb cx cy
    go_still_tail 12, (by kernel_rfl)
    change wpList _ _ _ _ _ (W2.drewN 1)
    go_wp2_with (go_at_fn g; refine (HCALL.out _).mono ?_; rintro e w2 ⟨v2, rfl, he, hb⟩; have HE := Aside0.mk he; have B2 := Aside0.mk (show Below base W w2 from (pw_below_drewN BA.out _).trans hb); clear he hb)
    go_ret
    exact ⟨_, rfl, HE.out, B2.out⟩
theorem union_calls (nm : ByteArray) (V : Value) (F : UniF) (w : World) (hS : UniV V F) :
    Calls Tryz.prog 99 #[.string nm, V] w fun e w' => ∃ v, e = .returned v ∧ ActV w' v ⟨nm, 2, 0, 7, 4, false, fun s x y _ => 0 ≤ x ∧ x < s.length ∧ 0 ≤ y ∧ y < s.length, unionD F⟩ ∧ Below w.heap.size w w' := by
  have b1 := (Below.refl w.heap.size w).alloc (Nat.le_refl _) (.cells #[V] 119 (0, 0))
  have n1 := heap_alloc_new w (.cells #[V] 119 (0, 0))
  have HD := Aside0.mk (union1_calls hS n1)
  have B1 := Aside0.mk b1
  obtain ⟨g, rfl, eg, hc⟩ := hS
  clear b1 n1 hc
  go_enter Tryz.func99, Tryz.ntmps99
  go_wp2
  refine bodyPost_ret (v := .agg #[.string nm, .int .i64 2, .int .i64 0, .int .i64 7, .int .i64 4, .bool false, .func (.func 100) #[] #[.pointer (some ⟨w.heap.size, 0, none⟩)]]) (by simp [results, Tryz.results99, go_sem]) rfl ⟨_, rfl, ⟨_, rfl, HD.out.mono (Stays.of ((Below.refl _ _).alloc (Nat.le_refl _) _)) (by simp only [alloc_size]; omega)⟩, B1.out.alloc B1.out.size _⟩
end Go.Proofs.YtiialjmpfeopjaaGreat.Sp

namespace Go.Proofs.YtiialjmpfeopjaaGreat.Sp
open Go.RowKit Go.Sort Go.Proofs.YtiialjmpfeopjaaGreatW.PrintWords Go.Proofs.YtiialjmpfeopjaaGreatW.PrintLast Go.Proofs.YtiialjmpfeopjaaGreatW.PrintMore
set_option linter.unusedVariables false
set_option linter.unusedSimpArgs false
set_option maxHeartbeats 8000000
set_option maxRecDepth 100000
def uniPre : List Int → Int → Int → Int → Prop := fun s x y _ => 0 ≤ x ∧ x < s.length ∧ 0 ≤ y ∧ y < s.length
def uniActs : List ActS := [⟨⟨#[117, 110, 105, 116, 101]⟩, 2, 0, 7, 4, false, uniPre, unionD uniteF⟩, ⟨⟨#[115, 97, 109, 101]⟩, 2, 0, 7, 4, true, uniPre, unionD sameF⟩]
theorem unions_calls (w : World) : Calls Tryz.prog 66 #[] w fun e w' => ∃ v, e = .returned v ∧ ActsV w' v uniActs ∧ Below w.heap.size w w' := by
  have eg : ∀ args w, (callFunc 99 args).run Tryz.prog w = .ok (.enter 99 args) w := enters_of Tryz.func99 (by kernel_rfl) rfl
  have B0 := Aside0.mk (Below.refl w.heap.size w)
  go_enter Tryz.func66, Tryz.ntmps66
  have tok1 : True := trivial
  go_wp2_with (first
    | (go_at_fn 99; have _t := tok1; refine (union_calls ⟨#[117, 110, 105, 116, 101]⟩ _ uniteF _ unite_uni).mono ?_; rintro e w1 ⟨v1, rfl, ha, hb⟩; obtain ⟨V1, rfl, hd1⟩ := ha; have HD1 := Aside0.mk hd1; have B2 := Aside0.mk (btrans B0.out hb); obtain ⟨g1, cap1, rfl, _⟩ := hd1; clear hb tok1; have tok2 : True := trivial)
    | (go_at_fn 99; have _t := tok2; refine (union_calls ⟨#[115, 97, 109, 101]⟩ _ sameF _ same_uni).mono ?_; rintro e w2 ⟨v2, rfl, ha, hb⟩; obtain ⟨V2, rfl, hd2⟩ := ha; have HD2 := Aside0.mk hd2; have BB2 := Aside0.mk hb; obtain ⟨hcl2, hfr2⟩ := bcell hb; have h12 : w1.heap.size < w2.heap.size := (by have := hb.size; simp at this; omega); obtain ⟨g2, cap2, rfl, _⟩ := hd2; clear hb tok2))
  go_ret
  have q12 : Below w1.heap.size w1 w2 := btrans ((Below.refl w1.heap.size w1).alloc (Nat.le_refl _) _) BB2.out
  have q2 : ∀ o, Below w2.heap.size w2 (w2.alloc o) := fun o => (Below.refl w2.heap.size w2).alloc (Nat.le_refl _) o
  refine ⟨_, rfl, acts_lit (w2.alloc _) uniActs [.func (.func g1) #[] cap1, .func (.func g2) #[] cap2] rfl (fun j a V h1 h2 => ?_) (by simp [uniActs]) _ rfl (by rw [alloc_size]) rfl, ?_⟩
  · match j, h1, h2 with
    | 0, h1, h2 => cases h1; cases h2; exact HD1.out.mono (Stays.of (btrans q12 (q2 _))) (btrans q12 (q2 _)).size
    | 1, h1, h2 => cases h1; cases h2; exact HD2.out.mono (Stays.of (q2 _)) (q2 _).size
    | j + 2, h1, _ => simp [uniActs] at h1
  · exact (btrans B2.out (btrans q12 (q2 _))).alloc (btrans B2.out (btrans q12 (q2 _))).size _
def pairActs : List ActS := [⟨⟨#[112, 117, 116]⟩, 1, 0, 99, 4, false, changePre, changeD fun a b x => (a + x, b)⟩, ⟨⟨#[109, 111, 118, 101]⟩, 1, 0, 99, 4, false, changePre, changeD fun a b x => (a - x, b + x)⟩,
  ⟨⟨#[98, 111, 116, 104]⟩, 0, 0, 0, 4, true, fun s _ _ _ => 1 < s.length ∧ (0 ≤ s.getD 0 0 ∧ s.getD 0 0 ≤ 99) ∧ 0 ≤ s.getD 1 0 ∧ s.getD 1 0 ≤ 99, tellD fun s => 1000 * s.getD 0 0 + s.getD 1 0⟩]
theorem pairs_calls (w : World) : Calls Tryz.prog 68 #[] w fun e w' => ∃ v, e = .returned v ∧ ActsV w' v pairActs ∧ Below w.heap.size w w' := by
  have eg : ∀ args w, (callFunc 103 args).run Tryz.prog w = .ok (.enter 103 args) w := enters_of Tryz.func103 (by kernel_rfl) rfl
  have B0 := Aside0.mk (Below.refl w.heap.size w)
  go_enter Tryz.func68, Tryz.ntmps68
  have tok1 : True := trivial
  go_wp2_with (first
    | (go_at_fn 103; have _t := tok1; refine (change_calls ⟨#[112, 117, 116]⟩ _ _ _ put_to).mono ?_; rintro e w1 ⟨v1, rfl, ha, hb⟩; obtain ⟨V1, rfl, hd1⟩ := ha; have HD1 := Aside0.mk hd1; have B1 := Aside0.mk (btrans B0.out hb); obtain ⟨g1, cap1, rfl, _⟩ := hd1; clear hb tok1; have tok2 : True := trivial)
    | (go_at_fn 103; have _t := tok2; refine (change_calls ⟨#[109, 111, 118, 101]⟩ _ _ _ move_to).mono ?_; rintro e w2 ⟨v2, rfl, ha, hb⟩; obtain ⟨V2, rfl, hd2⟩ := ha; have HD2 := Aside0.mk hd2; have BB2 := Aside0.mk hb; obtain ⟨g2, cap2, rfl, _⟩ := hd2; clear hb tok2)
    | (go_at_call 59; refine (tell_calls ⟨#[98, 111, 116, 104]⟩ _ _ _ _ (both_meas _)).mono ?_; rintro e w3 ⟨v3, rfl, ha, hb⟩; obtain ⟨V3, rfl, hd3⟩ := ha; have HD3 := Aside0.mk hd3; have BB3 := Aside0.mk hb; obtain ⟨g3, cap3, rfl, _⟩ := hd3; clear hb))
  go_ret
  refine ⟨_, rfl, acts_lit w3 pairActs [.func (.func g1) #[] cap1, .func (.func g2) #[] cap2, .func (.func g3) #[] cap3] rfl (fun j a V h1 h2 => ?_) (by simp [pairActs]) _ rfl rfl rfl, ?_⟩
  · match j, h1, h2 with
    | 0, h1, h2 => cases h1; cases h2; exact HD1.out.mono (Stays.of (btrans BB2.out BB3.out)) (btrans BB2.out BB3.out).size
    | 1, h1, h2 => cases h1; cases h2; exact HD2.out.mono (Stays.of BB3.out) BB3.out.size
    | 2, h1, h2 => cases h1; cases h2; exact HD3.out
    | j + 3, h1, _ => simp [pairActs] at h1
  · exact (btrans B1.out (btrans BB2.out BB3.out)).alloc (btrans B1.out (btrans BB2.out BB3.out)).size _
def snapActs : List ActS := [⟨⟨#[117, 112, 100, 97, 116, 101]⟩, 1, 0, 900, 2, false, fun s _ _ t => 0 ≤ t ∧ t < s.length, updD⟩,
  ⟨⟨#[115, 99, 97, 110]⟩, 0, 0, 0, 4, true, fun s _ _ _ => 1 < s.length ∧ (0 ≤ s.getD 0 0 ∧ s.getD 0 0 ≤ 900) ∧ 0 ≤ s.getD 1 0 ∧ s.getD 1 0 ≤ 900, tellD fun s => 1000 * s.getD 0 0 + s.getD 1 0⟩]
theorem snaps_calls (w : World) : Calls Tryz.prog 65 #[] w fun e w' => ∃ v, e = .returned v ∧ ActsV w' v snapActs ∧ Below w.heap.size w w' := by
  have B0 := Aside0.mk (Below.refl w.heap.size w)
  have hby := Aside0.mk (fun W => by_calls 2 (.agg #[.string ⟨#[117, 112, 100, 97, 116, 101]⟩, .int .i64 1, .int .i64 0, .int .i64 900, .int .i64 0, .bool false, .func (.func 97) #[] #[]]) ⟨⟨#[117, 112, 100, 97, 116, 101]⟩, 1, 0, 900, 0, false, fun s _ _ t => 0 ≤ t ∧ t < s.length, updD⟩ W ⟨_, rfl, update_do W⟩)
  go_enter Tryz.func65, Tryz.ntmps65
  go_wp2_with (go_at_call 54; refine (hby.out _).mono ?_; rintro e w1 ⟨v1, rfl, ha, hb⟩; obtain ⟨V1, rfl, hd1⟩ := ha; have HD1 := Aside0.mk hd1; have B1 := Aside0.mk (btrans B0.out hb); obtain ⟨g1, cap1, rfl, _⟩ := hd1; clear hb)
  have hcx := fun j : Nat => (Go.Lib.cell_of_heap (heap_alloc_new w1 (.cells #[.string ⟨#[117, 112, 100, 97, 116, 101]⟩, .int .i64 1, .int .i64 0, .int .i64 900, .int .i64 2, .bool false, .func (.func g1) #[] cap1] 87 (0, 0))) j)
  go_region_with (go_at_call 59; refine (tell_calls ⟨#[115, 99, 97, 110]⟩ _ _ _ _ (scan_meas _)).mono ?_; rintro e w2 ⟨v2, rfl, ha, hb⟩; obtain ⟨V2, rfl, hd2⟩ := ha; have HD2 := Aside0.mk hd2; have BB2 := Aside0.mk hb; obtain ⟨hcl2, hfr2⟩ := bcell hb; have h12 : w1.heap.size < w2.heap.size := (by have := hb.size; simp at this; omega); obtain ⟨g2, cap2, rfl, _⟩ := hd2; clear hb)
  all_goals go_wp2
  all_goals go_ret
  all_goals
    have q12 : Below w1.heap.size w1 w2 := btrans ((below_drew1 ((Below.refl w1.heap.size w1).alloc (Nat.le_refl _) _))) BB2.out
    refine ⟨_, rfl, acts_lit w2 snapActs [.func (.func g1) #[] cap1, .func (.func g2) #[] cap2] rfl (fun j a V h1 h2 => ?_) (by simp [snapActs]) _ rfl rfl rfl, ?_⟩
    · match j, h1, h2 with
      | 0, h1, h2 => cases h1; cases h2; exact HD1.out.mono (Stays.of q12) q12.size
      | 1, h1, h2 => cases h1; cases h2; exact HD2.out
      | j + 2, h1, _ => simp [snapActs] at h1
    · exact (btrans B1.out q12).alloc (btrans B1.out q12).size _
end Go.Proofs.YtiialjmpfeopjaaGreat.Sp

namespace Go.Proofs.YtiialjmpfeopjaaGreat.Sp
open Go.RowKit Go.Sort Go.Proofs.YtiialjmpfeopjaaGreatW.PrintWords Go.Proofs.YtiialjmpfeopjaaGreatW.PrintLast Go.Proofs.YtiialjmpfeopjaaGreatW.PrintMore
set_option linter.unusedVariables false
set_option linter.unusedSimpArgs false
set_option maxHeartbeats 8000000
set_option maxRecDepth 100000
theorem info_eff : (Tryz.prog.info? 72).map (fun i => (i.zero, i.size, i.bytes)) = some (some (.agg #[.int .i64 0, .slice none 0 0]), 2, 32) := by kernel_rfl
theorem Effs.slice {w : World} {base : Nat} {v : Value} {l : List Eff} (h : Effs w base v l) : ∃ A c, v = .slice A l.length c := Kd.R_slice h
theorem Effs.lt {w : World} {base : Nat} {v : Value} {l : List Eff} (h : Effs w base v l) (k : Nat) (hk : v.ownBlock = some k) : k < w.heap.size ∧ ∃ c, w.heap[k]? = some (.cells c 72 (0, 0)) := by
  obtain ⟨inner, ho⟩ := Kd.R_own h
  obtain ⟨c, hc⟩ := own_typed ho k hk
  exact ⟨blk_lt hc, c, hc⟩
/-- One effect more is laid as an element. -/
theorem eff_M {W : World} {base : Nat} {v : Value} {s : List Int} (r : Int) (n0 : Nat) (h : Own W n0 v s) (hb : base ≤ n0) : kE.M W base (fun k => n0 ≤ k) (r, s) [.int .i64 r, v] :=
  ⟨[.int .i64 r], [v], rfl, rfl, v, rfl, Kd.R_lower (Kd.R_mono (Kd.R_bound h.R) (fun k hk => hk.2.1)) hb⟩
theorem own_keep {w w1 : World} {b1 b2 : Nat} {v u : Value} {s : List Int} {l : List Eff} (h : Own w b1 v s) (he : Effs w b2 u l) (hg : w.grownBy w1 u.ownBlock) : Own w1 b1 v s := by
  obtain ⟨inner, ho⟩ := Kd.R_own he
  exact own_other h hg (own_type_ne h ho (by decide))
def isNew (s : List Int) (i : Nat) : Bool := i == 0 || s.getD (i - 1) 0 != s.getD i 0
def whichL (s : List Int) (k : Nat) : List Eff := ((List.range k).filter (isNew s)).map fun i => (s.getD i 0, s.eraseIdx i)
theorem whichL_succ (s : List Int) (k : Nat) : whichL s (k + 1) = whichL s k ++ if isNew s k = true then [(s.getD k 0, s.eraseIdx k)] else [] := by
  unfold whichL
  rw [List.range_succ, List.filter_append, List.map_append]
  cases h : isNew s k <;> simp [h]
theorem whichL_len (s : List Int) (k : Nat) : (whichL s k).length ≤ k := by
  unfold whichL
  rw [List.length_map]
  exact Nat.le_trans (List.length_filter_le _ _) (by simp)
def whichD : Deed := fun s _ _ _ => if s = [] then [(-1, [])] else whichL s s.length
theorem which_do (w : World) : DoV w (.func (.func 87) #[] #[]) (fun _ _ _ _ => True) whichD := by
  refine ⟨87, #[], rfl, enters_of Tryz.func87 (by kernel_rfl) rfl, fun W base v s op x y t hW hb1 hb2 ho hl hp => ?_⟩
  have ba := (Below.refl W.heap.size W).alloc (Nat.le_refl _) (.cells #[.string op, .int .i64 x, .int .i64 y] 24 (0, 0))
  by_cases hz : s = []
  · have e : whichD s x y t = [(-1, [])] := by unfold whichD; rw [if_pos hz]
    rw [e]
    subst hz
    obtain ⟨A, c, rfl⟩ := ho.slice
    have BA := Aside0.mk ba
    clear hW ho hp ba e
    go_enter Tryz.func87, Tryz.ntmps87
    go_wp2_with (go_at_call 78; refine (one_calls (-1) _ base [] _ (own_none _ _) (Nat.le_trans hb2 BA.out.size)).mono ?_; rintro e w2 ⟨v2, rfl, he, hb⟩; have HE := Aside0.mk he; have B2 := Aside0.mk ((BA.out.mono hb2).trans (hb.mono (Nat.le_trans hb2 BA.out.size))); clear he hb)
    go_ret
    exact ⟨_, rfl, HE.out, B2.out⟩
  · have e : whichD s x y t = whichL s s.length := by unfold whichD; rw [if_neg hz]
    rw [e]
    have hpos : 0 < s.length := List.length_pos_iff.2 hz
    have hz0 : ((s.length : Int) == 0) = false := by simp; omega
    have HS := Aside0.mk (ho.below ba)
    have BA := Aside0.mk (ba.mono hb2)
    have HE0 : Aside0 (Effs (W.alloc (.cells #[.string op, .int .i64 x, .int .i64 y] 24 (0, 0))) base (.slice none 0 0) (whichL s 0)) := ⟨Kd.R_nil _ _ _ _ _⟩
    obtain ⟨A, c, rfl⟩ := ho.slice
    clear hW ho hp ba e hz
    go_enter Tryz.func87, Tryz.ntmps87
    go_wp2
    go_loopg [7, 16] s.length (fun gg v7 v16 wr => ∃ kk : Nat, kk ≤ s.length ∧ s.length - kk ≤ gg ∧ v16 = .int .i64 kk ∧ Aside0 (Effs wr base v7 (whichL s kk)) ∧ Aside0 (Own wr base (.slice A s.length c) s) ∧ Aside0 (Below base W wr))
    case atStart => exact ⟨0, Nat.zero_le _, by omega, rfl, HE0, HS, BA⟩
    case round =>
      clear HE0 HS BA
      obtain ⟨kk, hkk, hg, rfl, HE, HS, HB⟩ := hrel
      have hbw : base ≤ wr.heap.size := Nat.le_trans hb2 HB.out.size
      by_cases hlt : kk < s.length
      · rcases HS.out.parts with ⟨e2, _⟩ | ⟨bv, cp, cur, e2, h1, h2, h3, h4, h5, h6⟩
        · injection e2 with _ e2 _
          omega
        · injection e2 with e2 e3 e4
          subst e2 e4
          clear e3
          have hcl := row_cell h2 h6 kk hlt
          have hclone := clone_calls (some ⟨bv, 0, none⟩) c s wr HS.out.rd (by omega)
          have hsn := whichL_succ s kk
          have hll := whichL_len s kk
          have hlt7 : ∀ k, (u7 : Value).ownBlock = some k → k < wr.heap.size := fun k hk => (HE.out.lt k hk).1
          obtain ⟨A7, c7, rfl⟩ := HE.out.slice
          have hwr : IntKind.i64.wrap ((kk : Int) + 1) = (kk : Int) + 1 := IntWalk.i64_in _ (by omega)
          have HCLO := Aside0.mk hclone
          have HSN0 := Aside0.mk hsn
          have HLL := Aside0.mk hll
          have HLT := Aside0.mk hlt7
          have hkey : (kk = 0 ∧ isNew s kk = true) ∨ (∃ m ym, m + 1 = kk ∧ (isNew s kk = (ym != s.getD kk 0)) ∧ wr.cell? ⟨bv, m, none⟩ = some (.int .i64 ym)) := by
            by_cases h0 : kk = 0
            · exact .inl ⟨h0, by subst h0; rfl⟩
            · refine .inr ⟨kk - 1, s.getD (kk - 1) 0, by omega, ?_, row_cell h2 h6 (kk - 1) (by omega)⟩
              unfold isNew
              have : (kk == 0) = false := by simp [h0]
              rw [this, Bool.false_or]
          have HKEY := Aside0.mk hkey
          obtain ⟨xk, hxk⟩ : ∃ xk, xk = s.getD kk 0 := ⟨_, rfl⟩
          rw [← hxk] at hcl HSN0 HKEY
          clear hclone hsn hll hlt7 h1 h2 h3 h4 h5 h6 hkey hxk
          obtain ⟨nw, hnw⟩ : ∃ nw, isNew s kk = nw := ⟨_, rfl⟩
          rw [hnw] at HSN0 HKEY
          clear hnw
          cases nw with
          | true =>
            rcases HKEY.out with ⟨h0, _⟩ | ⟨m, ym, hm, hne, hcm⟩
            · have hk0 : ((kk : Int) == 0) = true := by simp [h0]
              clear HKEY h0
              go_wp2_with (first
                | (go_at_call 40; refine (HCLO.out).mono ?_; rintro e w2 ⟨v2, rfl, ho2, hb2'⟩; have HO2 := Aside0.mk ho2; have B2 := Aside0.mk hb2'; clear ho2 hb2')
                | (go_at_call 80; refine (delete_callsI _ wr.heap.size s kk _ HO2.out hlt).mono ?_; rintro e w3 ⟨v3, rfl, ho3, hb3⟩; obtain ⟨A3, c3, rfl⟩ := ho3.slice; have hbb := B2.out.trans hb3; have HE3 := Aside0.mk (HE.out.below hbb); have HS3 := Aside0.mk (HS.out.below hbb); have BW3 := Aside0.mk (Nat.le_trans hbw hbb.size); have B3 := Aside0.mk (HB.out.trans (hbb.mono hbw)); have EM := Aside0.mk (eff_M xk wr.heap.size ho3 hbw); clear hbb ho3 hb3 HE HS HB HO2 B2)
                | ((with_reducible refine gate_builtin (b := .append) (xs := #[.tmp 32, .tmp 41]) rfl ?_); at_builtin; refine Kd.R_append kE (w0 := w3) base rfl (.tmp 32) (.tmp 41) 68 72 (.agg #[.int .i64 0, .slice none 0 0]) 32 rfl Tryz.underlying68 info_eff rfl (by decide) (by omega) _ (whichL s kk) (xk, s.eraseIdx kk) [.int .i64 xk, _] (fun _ => True) (fun k => wr.heap.size ≤ k) rfl rfl EM.out (fun k hk => ⟨trivial, fun e => by have := (HE3.out.lt k e.symm).1; have := HLT.out k e.symm; omega⟩) (fun _ _ => trivial) HE3.out (Below.refl _ _) BW3.out (by have := HLL.out; omega) ?_; intro v1 wn ho hb hg hat; have HEN := Aside0.mk (show Effs wn base v1 _ from ho); have BN := Aside0.mk (B3.out.trans hb); have HSN := Aside0.mk (own_keep HS3.out HE3.out hg); clear ho hb hg hat))
              go_roundg (s.length - (kk + 1))
              case measure => omega
              case rel => exact ⟨kk + 1, hlt, by omega, by go_num, by rw [HSN0.out]; exact HEN, HSN, BN⟩
            · have hk0 : ((kk : Int) == 0) = false := by simp; omega
              have hkm : IntKind.i64.wrap ((kk : Int) - 1) = (m : Int) := by rw [IntWalk.i64_in _ (by omega)]; omega
              have hne' : (ym != xk) = true := hne.symm
              clear HKEY hne
              go_wp2_with (first
                | (go_at_call 40; refine (HCLO.out).mono ?_; rintro e w2 ⟨v2, rfl, ho2, hb2'⟩; have HO2 := Aside0.mk ho2; have B2 := Aside0.mk hb2'; clear ho2 hb2')
                | (go_at_call 80; refine (delete_callsI _ wr.heap.size s kk _ HO2.out hlt).mono ?_; rintro e w3 ⟨v3, rfl, ho3, hb3⟩; obtain ⟨A3, c3, rfl⟩ := ho3.slice; have hbb := B2.out.trans hb3; have HE3 := Aside0.mk (HE.out.below hbb); have HS3 := Aside0.mk (HS.out.below hbb); have BW3 := Aside0.mk (Nat.le_trans hbw hbb.size); have B3 := Aside0.mk (HB.out.trans (hbb.mono hbw)); have EM := Aside0.mk (eff_M xk wr.heap.size ho3 hbw); clear hbb ho3 hb3 HE HS HB HO2 B2)
                | ((with_reducible refine gate_builtin (b := .append) (xs := #[.tmp 32, .tmp 41]) rfl ?_); at_builtin; refine Kd.R_append kE (w0 := w3) base rfl (.tmp 32) (.tmp 41) 68 72 (.agg #[.int .i64 0, .slice none 0 0]) 32 rfl Tryz.underlying68 info_eff rfl (by decide) (by omega) _ (whichL s kk) (xk, s.eraseIdx kk) [.int .i64 xk, _] (fun _ => True) (fun k => wr.heap.size ≤ k) rfl rfl EM.out (fun k hk => ⟨trivial, fun e => by have := (HE3.out.lt k e.symm).1; have := HLT.out k e.symm; omega⟩) (fun _ _ => trivial) HE3.out (Below.refl _ _) BW3.out (by have := HLL.out; omega) ?_; intro v1 wn ho hb hg hat; have HEN := Aside0.mk (show Effs wn base v1 _ from ho); have BN := Aside0.mk (B3.out.trans hb); have HSN := Aside0.mk (own_keep HS3.out HE3.out hg); clear ho hb hg hat))
              go_roundg (s.length - (kk + 1))
              case measure => omega
              case rel => exact ⟨kk + 1, hlt, by omega, by go_num, by rw [HSN0.out]; exact HEN, HSN, BN⟩
          | false =>
            rcases HKEY.out with ⟨h0, hh⟩ | ⟨m, ym, hm, hne, hcm⟩
            · cases hh
            · have hk0 : ((kk : Int) == 0) = false := by simp; omega
              have hkm : IntKind.i64.wrap ((kk : Int) - 1) = (m : Int) := by rw [IntWalk.i64_in _ (by omega)]; omega
              have hne' : (ym != xk) = false := hne.symm
              clear HKEY hne
              go_wp2
              go_roundg (s.length - (kk + 1))
              case measure => omega
              case rel => exact ⟨kk + 1, hlt, by omega, by go_num, by rw [HSN0.out]; simpa using HE, HS, HB⟩
      · have hk : kk = s.length := by omega
        subst hk
        obtain ⟨A7, c7, rfl⟩ := HE.out.slice
        go_wp2
        go_ret
        exact ⟨_, rfl, HE.out, HB.out⟩
end Go.Proofs.YtiialjmpfeopjaaGreat.Sp
