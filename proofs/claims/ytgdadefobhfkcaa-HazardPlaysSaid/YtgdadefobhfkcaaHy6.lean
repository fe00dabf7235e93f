/- Retire: plain lemmas; no condition. -/
import Derived.Test.YtgdadefobhfkcaaHy5
import Derived.Deep.RegionLaw
namespace Go.Proofs.Ytgdadefobhfkcaa.Hy
open Go.RowKit Go.Proofs.YtgdadefobhfkcaaW.PrintWords Go.Proofs.YtgdadefobhfkcaaW.PrintLast Go.Proofs.YtgdadefobhfkcaaW.PrintMore
set_option linter.unusedVariables false
set_option linter.unusedSimpArgs false

/-- What a deed leaves: the manager is m', nothing else that stood has turned. -/
def After (B : Nat) (w : World) (g : Nat) (A : Option Addr) (wv : Value) (m' : HM) (w' : World) : Prop :=
  ∃ wv', Man B w' g A wv' m' ∧ Kept w w' (foot g A wv) ∧ Below B w w' ∧ ∀ k, wv'.ownBlock = some k → wv.ownBlock = some k ∨ w.heap.size ≤ k
theorem Man.grow {B : Nat} {w w' : World} {g : Nat} {A : Option Addr} {wv : Value} {m : HM} (h : Man B w g A wv m) (hb : Below w.heap.size w w') : Man B w' g A wv m :=
  man_keep h (fun k hk => hb.block k (by
    rcases hk with rfl | ⟨a, ha, rfl⟩ | hk
    · exact blk_lt h.topc
    · obtain ⟨b, e, _, tl, hh⟩ := h.row a ha
      rw [e]; exact blk_lt hh
    · obtain ⟨c, hc⟩ := own_tag h.own k hk
      exact blk_lt hc))
theorem Man.foot_lt {B : Nat} {w : World} {g : Nat} {A : Option Addr} {wv : Value} {m : HM} (h : Man B w g A wv m) (k : Nat) (hk : foot g A wv k) : B ≤ k ∧ k < w.heap.size := by
  rcases hk with rfl | ⟨a, ha, rfl⟩ | hk
  · exact ⟨h.bg, blk_lt h.topc⟩
  · obtain ⟨b, e, hb, tl, hh⟩ := h.row a ha
    rw [e]; exact ⟨hb, blk_lt hh⟩
  · obtain ⟨c, hc⟩ := own_tag h.own k hk
    refine ⟨?_, blk_lt hc⟩
    obtain ⟨_, ⟨e, _⟩ | ⟨b, cap, cur, e, hb, _⟩⟩ := h.own
    · rw [e] at hk; exact absurd hk (by simp [Value.ownBlock])
    · rw [e] at hk; injection hk with hk; rw [← hk]; exact hb
theorem After.grow {B : Nat} {w w' : World} {g : Nat} {A : Option Addr} {wv : Value} {m : HM} (h : Man B w g A wv m) (hB : B ≤ w.heap.size) (hb : Below w.heap.size w w') : After B w g A wv m w' :=
  ⟨wv, h.grow hb, Kept.of_below hb _, hb.mono hB, fun k hk => .inl hk⟩
theorem After.then_ {B : Nat} {w w1 w2 : World} {g : Nat} {A : Option Addr} {wv wv1 : Value} {m2 : HM} (hk : Kept w w1 (foot g A wv)) (hb : Below B w w1) (hw : ∀ k, wv1.ownBlock = some k → wv.ownBlock = some k ∨ w.heap.size ≤ k) (h2 : After B w1 g A wv1 m2 w2) : After B w g A wv m2 w2 := by
  obtain ⟨wv2, hm, hk2, hb2, hw2⟩ := h2
  refine ⟨wv2, hm, hk.then_ hk2 (fun k hf => ?_), hb.trans hb2, fun k he => ?_⟩
  · rcases hf with rfl | ⟨a, ha, rfl⟩ | hf
    · exact .inl (.inl rfl)
    · exact .inl (.inr (.inl ⟨a, ha, rfl⟩))
    · rcases hw k hf with h | h
      · exact .inl (.inr (.inr h))
      · exact .inr h
  · rcases hw2 k he with h | h
    · exact hw k h
    · exact .inr (Nat.le_trans hk.1 h)
theorem dup_calls (x y a : Int) (Bx : Nat) (w : World) (hx : w.cell? ⟨Bx, 0, none⟩ = some (.int .i64 a)) :
    Calls Try.prog 43 #[.agg #[.int .i64 x, .int .i64 y], .pointer (some ⟨Bx, 0, none⟩)] w fun e w' => e = .returned (.bool (y == a)) ∧ Below w.heap.size w w' := by
  have hB := (Below.refl w.heap.size w).alloc (Nat.le_refl _) (.cells #[.int .i64 x, .int .i64 y] 61 (0, 0))
  have hx2 := (hB.cell (p := ⟨Bx, 0, none⟩) (World.block_lt_of_cell? w _ hx)).trans hx
  go_enter Try.func43, Try.ntmps43
  go_wp2
  go_ret
  exact ⟨rfl, hB⟩
theorem wv_form {B : Nat} {w : World} {g : Nat} {A : Option Addr} {wv : Value} {m : HM} (h : Man B w g A wv m) : ∃ A0 c0, wv = .slice A0 m.ws.length c0 := by
  obtain ⟨_, ⟨e, h⟩ | ⟨b, cap, cur, e, _⟩⟩ := h.own
  · exact ⟨none, 0, by rw [e, h]⟩
  · exact ⟨_, _, e⟩
theorem dups {B : Nat} {w : World} {g : Nat} {A A0 : Option Addr} {c0 : Nat} {m : HM} (hm : Man B w g A (.slice A0 m.ws.length c0) m) (hl : m.ws.length ≤ 1000000) (a : Int) (Bx : Nat) (hx : w.cell? ⟨Bx, 0, none⟩ = some (.int .i64 a)) :
    Calls Try.prog 42 #[.slice A0 m.ws.length c0, .func (.func 43) #[] #[.pointer (some ⟨Bx, 0, none⟩)]] w fun e w' => e = .returned (.bool (m.ws.any fun x => x.2 == a)) ∧ Below w.heap.size w w' := by
  have eg : ∀ args w, (callFunc 43 args).run Try.prog w = .ok (.enter 43 args) w := enters_of Try.func43 (by kernel_rfl) rfl
  refine containsW (fun x => x.2 == a) 43 _ eg (fun W => Below w.heap.size w W) A0 c0 m.ws w (fun x W hW => ?_) (fun W hW j hj => ?_) (Below.refl _ _) hl
  · refine (dup_calls x.1 x.2 a Bx W ((hW.cell (p := ⟨Bx, 0, none⟩) (World.block_lt_of_cell? w _ hx)).trans hx)).mono ?_
    rintro e W' ⟨he, hb⟩
    exact ⟨he, btrans hW hb⟩
  · obtain ⟨b, cap, e, _, hb2, c1, c2⟩ := wait_cell hm.own j hj
    injection e with e _ _
    exact ⟨b, e, (hW.cell (p := ⟨b, j * 2, none⟩) hb2).trans c1, (hW.cell (p := ⟨b, j * 2 + 1, none⟩) hb2).trans c2⟩

set_option maxHeartbeats 8000000 in
set_option maxRecDepth 100000 in
theorem retire_bad {B : Nat} {w : World} {g : Nat} {A : Option Addr} {wv : Value} {m : HM} (hm : Man B w g A wv m) (t a : Int) (h1 : bad m t || decide (a < 1)) :
    Calls Try.prog 26 #[.pointer (some ⟨g, 0, none⟩), .int .i64 t, .int .i64 a] w fun e w' => e = .returned (.tuple #[.slice none 0 0, .int .i64 1]) ∧ Below w.heap.size w w' := by
  have hbe := (Below.refl w.heap.size w).alloc (Nat.le_refl _) (.cells #[.int .i64 a] 3 (0, 0))
  have hc := no_calls (hm.grow hbe) t
  generalize bad m t = b at hc h1
  clear hm
  cases b
  · have h2 : a < 1 := by simpa using h1
    go_enter Try.func26, Try.ntmps26
    go_wp2_with (go_at_call 41; refine hc.mono ?_; rintro e w' ⟨rfl, rfl⟩)
    go_ret2
    exact ⟨rfl, hbe⟩
  · go_enter Try.func26, Try.ntmps26
    go_wp2_with (go_at_call 41; refine hc.mono ?_; rintro e w' ⟨rfl, rfl⟩)
    go_ret2
    exact ⟨rfl, hbe⟩
theorem retire_dup {B : Nat} {w : World} {g : Nat} {A : Option Addr} {wv : Value} {m : HM} (hm : Man B w g A wv m) (hl : m.ws.length ≤ 1000000) (t a : Int) (h1 : bad m t = false) (h2 : ¬ a < 1) (h3 : (m.ws.any fun x => x.2 == a) = true) :
    Calls Try.prog 26 #[.pointer (some ⟨g, 0, none⟩), .int .i64 t, .int .i64 a] w fun e w' => e = .returned (.tuple #[.slice none 0 0, .int .i64 6]) ∧ Below w.heap.size w w' := by
  have hbe := (Below.refl w.heap.size w).alloc (Nat.le_refl _) (.cells #[.int .i64 a] 3 (0, 0))
  have hm2 := hm.grow hbe
  have hc := no_calls hm2 t
  rw [h1] at hc
  obtain ⟨A0, c0, rfl⟩ := wv_form hm
  have hd := dups hm2 hl a w.heap.size (Go.Lib.cell_of_heap (heap_alloc_new w (.cells #[.int .i64 a] 3 (0, 0))) 0)
  rw [h3] at hd
  have c1 := hm2.c1
  have hd1 : decide (a < 1) = false := by simpa using h2
  clear hm hm2 h1 h3
  go_enter Try.func26, Try.ntmps26
  go_wp2_with (first | (go_at_call 41; refine hc.mono ?_; rintro e w' ⟨rfl, rfl⟩) | (go_at_call 42; refine hd.mono ?_; rintro e w' ⟨rfl, hb2⟩))
  go_ret2
  exact ⟨rfl, btrans hbe hb2⟩
end Go.Proofs.Ytgdadefobhfkcaa.Hy
