/- The holds looked through: Contains, IndexFunc over rows of three, and the function values of scan: plain lemmas; no condition. -/
import Derived.Test.YtgdadefobhfkcaaHy2
import Derived.Deep.QuietTactic
namespace Go.Proofs.Ytgdadefobhfkcaa.Hy
open Go.RowKit Go.Proofs.YtgdadefobhfkcaaW.PrintWords Go.Proofs.YtgdadefobhfkcaaW.PrintLast Go.Proofs.YtgdadefobhfkcaaW.PrintMore
set_option linter.unusedVariables false
set_option linter.unusedSimpArgs false

def ReadsI (w : World) (A : Option Addr) (l : List Int) : Prop := ∀ j, j < l.length → ∃ ad, A = some ad ∧ w.cell? (ad.add j) = some (.int .i64 (l.getD j 0))
set_option maxHeartbeats 8000000 in
set_option maxRecDepth 100000 in
theorem index_calls (A : Option Addr) (c : Nat) (l : List Int) (x : Int) (w : World) (hr : ReadsI w A l) (hl : l.length ≤ 1000000) :
    Calls Try.prog 56 #[.slice A l.length c, .int .i64 x] w fun e w' => ∃ r : Int, (e = .returned (.int .i64 r) ∧ w' = w) ∧ decide (0 ≤ r) = l.contains x := by
  have HR := Aside0.mk hr
  clear hr
  go_enter Try.func56, Try.ntmps56
  go_wp2
  go_loopg [5, 8] l.length (fun gg _ s8 wr => ∃ kk : Nat, kk ≤ l.length ∧ l.length - kk ≤ gg ∧ s8 = .int .i64 kk ∧ w = wr ∧ Aside0 (∀ j : Nat, j < kk → (x == l.getD j 0) = false))
  case atStart => exact ⟨0, Nat.zero_le _, by omega, rfl, rfl, ⟨fun j hj => absurd hj (Nat.not_lt_zero _)⟩⟩
  case round =>
    obtain ⟨kk, hkk, hg, rfl, rfl, B⟩ := hrel
    by_cases hlt : kk < l.length
    · obtain ⟨ad, rfl, hc⟩ := HR.out kk hlt
      obtain ⟨y, hy⟩ : ∃ y, y = l.getD kk 0 := ⟨_, rfl⟩
      have HY := Aside0.mk hy
      rw [← hy] at hc
      clear hy
      cases hq : (x == y) with
      | true =>
        go_wp2
        go_ret
        refine ⟨_, ⟨rfl, rfl⟩, ?_⟩
        have : l.contains x = true := by
          rw [List.contains_iff_exists_mem_beq]
          refine ⟨y, ?_, hq⟩
          rw [HY.out]
          simp [hlt]
        rw [this]
        simp
      | false =>
        go_wp2
        go_roundg (l.length - (kk + 1))
        case measure => omega
        case rel =>
          refine ⟨kk + 1, by omega, by omega, by go_num, rfl, ⟨fun j hj => ?_⟩⟩
          by_cases e : j = kk
          · subst e
            rw [← HY.out]; exact hq
          · exact B.out j (by omega)
    · have : kk = l.length := by omega
      subst this
      go_wp2
      go_ret
      refine ⟨-1, ⟨rfl, rfl⟩, ?_⟩
      have : l.contains x = false := by
        rw [Bool.eq_false_iff]
        intro h
        obtain ⟨y, hy, hxy⟩ := List.contains_iff_exists_mem_beq.1 h
        obtain ⟨j, hj, rfl⟩ := List.mem_iff_getElem.1 hy
        have := B.out j hj
        simp [hj] at this hxy
        exact this hxy
      rw [this]
      rfl
theorem contains_calls (A : Option Addr) (c : Nat) (l : List Int) (x : Int) (w : World) (hr : ReadsI w A l) (hl : l.length ≤ 1000000) :
    Calls Try.prog 50 #[.slice A l.length c, .int .i64 x] w fun e w' => e = .returned (.bool (l.contains x)) ∧ w' = w := by
  have hcon := index_calls A c l x w hr hl
  clear hr
  generalize l.contains x = b at hcon ⊢
  go_enter Try.func50, Try.ntmps50
  go_wp2_with (go_at_call 56; refine hcon.mono ?_; rintro e w' ⟨r, ⟨rfl, rfl⟩, hr⟩)
  go_ret
  exact ⟨by rw [← hr]; rfl, rfl⟩
/-- scan's innermost: does a row of holds have the address? -/
theorem row_calls (a b c x : Int) (B : Nat) (w : World) (hx : w.cell? ⟨B, 0, none⟩ = some (.int .i64 x)) :
    Calls Try.prog 49 #[.agg #[.int .i64 a, .int .i64 b, .int .i64 c], .pointer (some ⟨B, 0, none⟩)] w fun e w' => e = .returned (.bool ([a, b, c].contains x)) ∧ Below w.heap.size w w' := by
  have hlt := World.block_lt_of_cell? w _ hx
  have hB := Below.refl w.heap.size w
  have hx2 : (w.alloc (.cells #[.int .i64 a, .int .i64 b, .int .i64 c] 66 (0, 0))).cell? ⟨B, 0, none⟩ = some (.int .i64 x) := ((hB.alloc (Nat.le_refl _) _).cell (p := ⟨B, 0, none⟩) hlt).trans hx
  have hc : ∀ q, Calls Try.prog 50 #[.slice (some ⟨w.heap.size, 0, none⟩) 3 3, .int .i64 x] ((w.alloc (.cells #[.int .i64 a, .int .i64 b, .int .i64 c] 66 (0, 0))).drewN q) fun e w' => e = .returned (.bool ([a, b, c].contains x)) ∧ w' = (w.alloc (.cells #[.int .i64 a, .int .i64 b, .int .i64 c] 66 (0, 0))).drewN q := fun q => by
    refine contains_calls (some ⟨w.heap.size, 0, none⟩) 3 [a, b, c] x _ ?_ (by simp)
    intro j hj
    refine ⟨_, rfl, ?_⟩
    have hn := heap_alloc_new w (.cells #[.int .i64 a, .int .i64 b, .int .i64 c] 66 (0, 0))
    have h3 : j = 0 ∨ j = 1 ∨ j = 2 := by simp at hj; omega
    show (w.alloc (.cells #[.int .i64 a, .int .i64 b, .int .i64 c] 66 (0, 0))).cell? _ = _
    rcases h3 with rfl | rfl | rfl
    · exact (Go.Lib.cell_of_heap hn 0)
    · exact (Go.Lib.cell_of_heap hn 1)
    · exact (Go.Lib.cell_of_heap hn 2)
  generalize [a, b, c].contains x = r at hc ⊢
  have HC := Aside0.mk hc
  clear hc
  go_enter Try.func49, Try.ntmps49
  go_wp2
  go_quiet ((go_at_call 50; exact Calls.quiet_of_same (HC.out _)))
  go_wp2
  go_ret
  exact ⟨rfl, by repeat (first | apply pw_below_drewN | apply below_drew1 | exact hB.alloc (Nat.le_refl _) _)⟩

/-- A part of the holds, read as the row of a thread. -/
theorem row_cells {w : World} {h : Nat} {hs : List Int} {tl : List Value} {n : Nat} (hh : w.heap[h]? = some (.cells (ints hs ++ tl).toArray 66 (0, 0))) (hlen : hs.length = n * 3) (t : Nat) (ht : t < n) :
    w.cell? ⟨h, t * 3, none⟩ = some (.int .i64 (hs.getD (t * 3) 0)) ∧ w.cell? ⟨h, t * 3 + 1, none⟩ = some (.int .i64 (hs.getD (t * 3 + 1) 0)) ∧ w.cell? ⟨h, t * 3 + 2, none⟩ = some (.int .i64 (hs.getD (t * 3 + 2) 0)) :=
  ⟨hold_cell hh _ (by omega), hold_cell hh _ (by omega), hold_cell hh _ (by omega)⟩
theorem take_three (hs : List Int) (n t : Nat) (hlen : hs.length = n * 3) (ht : t < n) : hs.take ((t + 1) * 3) = hs.take (t * 3) ++ [hs.getD (t * 3) 0, hs.getD (t * 3 + 1) 0, hs.getD (t * 3 + 2) 0] := by
  rw [show (t + 1) * 3 = t * 3 + 1 + 1 + 1 by omega, List.take_succ_eq_append_getElem (by omega), List.take_succ_eq_append_getElem (by omega), List.take_succ_eq_append_getElem (by omega)]
  have e0 : hs.getD (t * 3) 0 = hs[t * 3]'(by omega) := by simp [show t * 3 < hs.length by omega]
  have e1 : hs.getD (t * 3 + 1) 0 = hs[t * 3 + 1]'(by omega) := by simp [show t * 3 + 1 < hs.length by omega]
  have e2 : hs.getD (t * 3 + 2) 0 = hs[t * 3 + 2]'(by omega) := by simp [show t * 3 + 2 < hs.length by omega]
  rw [e0, e1, e2, List.append_assoc, List.append_assoc]
  rfl
theorem btrans {w W W' : World} (h : Below w.heap.size w W) (k : Below W.heap.size W W') : Below w.heap.size w W' := h.trans (k.mono h.size)
def HoldsAt (w : World) (A : Option Addr) (hs : List Int) (n : Nat) : Prop := hs.length = n * 3 ∧ n ≤ 4 ∧ (A = none → n = 0) ∧ ∀ a, A = some a → ∃ h, a = ⟨h, 0, none⟩ ∧ ∃ tl, w.heap[h]? = some (.cells (ints hs ++ tl).toArray 66 (0, 0))
set_option maxHeartbeats 8000000 in
set_option maxRecDepth 100000 in
theorem indexH (A : Option Addr) (hs : List Int) (n cp : Nat) (x : Int) (Bx : Nat) (w : World) (hH : HoldsAt w A hs n) (hx : w.cell? ⟨Bx, 0, none⟩ = some (.int .i64 x)) :
    Calls Try.prog 55 #[.slice A n cp, .func (.func 49) #[] #[.pointer (some ⟨Bx, 0, none⟩)]] w fun e w' => ∃ r : Int, e = .returned (.int .i64 r) ∧ decide (0 ≤ r) = hs.contains x ∧ Below w.heap.size w w' := by
  have eg : ∀ args w, (callFunc 49 args).run Try.prog w = .ok (.enter 49 args) w := enters_of Try.func49 (by kernel_rfl) rfl
  obtain ⟨hlen, hn, hnone, hrow⟩ := hH
  have HX := Aside0.mk hx
  have HB0 := Aside0.mk (Below.refl w.heap.size w)
  clear hx
  go_enter Try.func55, Try.ntmps55
  go_wp2
  go_loopg [5, 8] n (fun gg _ s8 wr => ∃ kk : Nat, kk ≤ n ∧ n - kk ≤ gg ∧ s8 = .int .i64 kk ∧ Aside0 (Below w.heap.size w wr) ∧ Aside0 ((hs.take (kk * 3)).contains x = false))
  case atStart => exact ⟨0, Nat.zero_le _, by omega, rfl, HB0, ⟨by simp⟩⟩
  case round =>
    clear HB0
    obtain ⟨kk, hkk, hg, rfl, HB, HN⟩ := hrel
    by_cases hlt : kk < n
    · have hA : A ≠ none := fun hA => by have := hnone hA; omega
      obtain ⟨ad, rfl⟩ := Option.ne_none_iff_exists'.1 hA
      obtain ⟨h, rfl, tl, hh⟩ := hrow _ rfl
      have hh2 := (HB.out.block h (blk_lt hh)).trans hh
      obtain ⟨c0, c1, c2⟩ := row_cells hh2 hlen kk hlt
      have ht3 := take_three hs n kk hlen hlt
      have hcx : wr.cell? ⟨Bx, 0, none⟩ = some (.int .i64 x) := (HB.out.cell (p := ⟨Bx, 0, none⟩) (World.block_lt_of_cell? w _ HX.out)).trans HX.out
      generalize hs.getD (kk * 3) 0 = a at c0 ht3
      generalize hs.getD (kk * 3 + 1) 0 = b at c1 ht3
      generalize hs.getD (kk * 3 + 2) 0 = c at c2 ht3
      have hcall := row_calls a b c x Bx wr hcx
      have HT := Aside0.mk ht3
      have HHr := Aside0.mk hrow
      clear ht3 hh hh2 hcx hrow hA hnone
      cases hq : [a, b, c].contains x with
      | true =>
        rw [hq] at hcall
        have HQ := Aside0.mk hq
        clear hq
        go_wp2_with (go_at_fn 49; refine hcall.mono ?_; rintro e w' ⟨rfl, hb⟩)
        go_ret
        refine ⟨_, rfl, ?_, btrans HB.out hb⟩
        have : hs.contains x = true := by
          have h1 : (hs.take ((kk + 1) * 3)).contains x = true := by
            rw [HT.out, List.contains_iff_exists_mem_beq]
            obtain ⟨y, hy, hxy⟩ := List.contains_iff_exists_mem_beq.1 HQ.out
            exact ⟨y, List.mem_append_right _ hy, hxy⟩
          obtain ⟨y, hy, hxy⟩ := List.contains_iff_exists_mem_beq.1 h1
          exact List.contains_iff_exists_mem_beq.2 ⟨y, List.mem_of_mem_take hy, hxy⟩
        rw [this]
        simp
      | false =>
        rw [hq] at hcall
        have HQ := Aside0.mk hq
        clear hq
        go_wp2_with (go_at_fn 49; refine hcall.mono ?_; rintro e w' ⟨rfl, hb⟩; have HB2 := Aside0.mk (btrans HB.out hb); clear hb)
        go_roundg (n - (kk + 1))
        case measure => omega
        case rel =>
          refine ⟨kk + 1, by omega, by omega, by go_num, HB2, ⟨?_⟩⟩
          rw [HT.out, Bool.eq_false_iff]
          intro h1
          obtain ⟨y, hy, hxy⟩ := List.contains_iff_exists_mem_beq.1 h1
          rcases List.mem_append.1 hy with hy | hy
          · have := List.contains_iff_exists_mem_beq.2 ⟨y, hy, hxy⟩
            rw [HN.out] at this
            exact absurd this (by decide)
          · have := List.contains_iff_exists_mem_beq.2 ⟨y, hy, hxy⟩
            rw [HQ.out] at this
            exact absurd this (by decide)
    · have : kk = n := by omega
      subst this
      go_wp2
      go_ret
      refine ⟨-1, rfl, ?_, HB.out⟩
      have h1 := HN.out
      rw [List.take_of_length_le (by omega)] at h1
      rw [h1]
      rfl
theorem containsH (A : Option Addr) (hs : List Int) (n cp : Nat) (x : Int) (Bx : Nat) (w : World) (hH : HoldsAt w A hs n) (hx : w.cell? ⟨Bx, 0, none⟩ = some (.int .i64 x)) :
    Calls Try.prog 48 #[.slice A n cp, .func (.func 49) #[] #[.pointer (some ⟨Bx, 0, none⟩)]] w fun e w' => e = .returned (.bool (hs.contains x)) ∧ Below w.heap.size w w' := by
  have hcon := indexH A hs n cp x Bx w hH hx
  clear hH hx
  generalize hs.contains x = b at hcon ⊢
  go_enter Try.func48, Try.ntmps48
  go_wp2_with (go_at_call 55; refine hcon.mono ?_; rintro e w' ⟨r, rfl, hr, hb⟩)
  go_ret
  exact ⟨by rw [← hr]; rfl, hb⟩
/-- held: does any hold have the address? m is read out of the box at block Bm. -/
theorem held_calls {B : Nat} {w : World} {g : Nat} {A : Option Addr} {wv : Value} {m : HM} (hm : Man B w g A wv m) (Bm : Nat) (hb : w.cell? ⟨Bm, 0, none⟩ = some (.pointer (some ⟨g, 0, none⟩))) (x : Int) :
    Calls Try.prog 47 #[.int .i64 x, .pointer (some ⟨Bm, 0, none⟩)] w fun e w' => e = .returned (.bool (m.hs.contains x)) ∧ Below w.heap.size w w' := by
  have hbe := (Below.refl w.heap.size w).alloc (Nat.le_refl _) (.cells #[.int .i64 x] 3 (0, 0))
  obtain ⟨cp, h0⟩ := hm.c0
  have h0' := (hbe.cell (p := ⟨g, 0, none⟩) (World.block_lt_of_cell? w _ h0)).trans h0
  have hb' := (hbe.cell (p := ⟨Bm, 0, none⟩) (World.block_lt_of_cell? w _ hb)).trans hb
  have hH : HoldsAt (w.alloc (.cells #[.int .i64 x] 3 (0, 0))) A m.hs m.n := ⟨hm.len, hm.small, hm.none_, fun a ha => by
    obtain ⟨h, e, _, tl, hh⟩ := hm.row a ha
    exact ⟨h, e, tl, (hbe.block h (blk_lt hh)).trans hh⟩⟩
  have hcon := containsH A m.hs m.n cp x w.heap.size _ hH (Go.Lib.cell_of_heap (heap_alloc_new w (.cells #[.int .i64 x] 3 (0, 0))) 0)
  have HBE := Aside0.mk hbe
  clear hH hbe hm
  generalize m.hs.contains x = b at hcon ⊢
  generalize m.n = n at *
  go_enter Try.func47, Try.ntmps47
  go_wp2_with (go_at_call 48; refine hcon.mono ?_; rintro e w' ⟨rfl, hb2⟩)
  go_ret
  exact ⟨rfl, btrans HBE.out hb2⟩
end Go.Proofs.Ytgdadefobhfkcaa.Hy
