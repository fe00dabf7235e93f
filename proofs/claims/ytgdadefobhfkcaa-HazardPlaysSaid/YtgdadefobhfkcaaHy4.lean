/- scan: its function value, slices.DeleteFunc with it: plain lemmas; no condition. -/
import Derived.Test.YtgdadefobhfkcaaHy3
namespace Go.Proofs.Ytgdadefobhfkcaa.Hy
open Go.RowKit Go.Proofs.YtgdadefobhfkcaaW.PrintWords Go.Proofs.YtgdadefobhfkcaaW.PrintLast Go.Proofs.YtgdadefobhfkcaaW.PrintMore
set_option linter.unusedVariables false
set_option linter.unusedSimpArgs false

theorem held2_calls {w : World} {g : Nat} {A : Option Addr} {n cp : Nat} {hs : List Int} (h0 : w.cell? ⟨g, 0, none⟩ = some (.slice A n cp)) (hH : HoldsAt w A hs n) (Bm : Nat) (hb : w.cell? ⟨Bm, 0, none⟩ = some (.pointer (some ⟨g, 0, none⟩))) (x : Int) :
    Calls Try.prog 47 #[.int .i64 x, .pointer (some ⟨Bm, 0, none⟩)] w fun e w' => e = .returned (.bool (hs.contains x)) ∧ Below w.heap.size w w' := by
  have hbe := (Below.refl w.heap.size w).alloc (Nat.le_refl _) (.cells #[.int .i64 x] 3 (0, 0))
  have h0' := (hbe.cell (p := ⟨g, 0, none⟩) (World.block_lt_of_cell? w _ h0)).trans h0
  have hb' := (hbe.cell (p := ⟨Bm, 0, none⟩) (World.block_lt_of_cell? w _ hb)).trans hb
  have hH2 : HoldsAt (w.alloc (.cells #[.int .i64 x] 3 (0, 0))) A hs n := ⟨hH.1, hH.2.1, hH.2.2.1, fun a ha => by
    obtain ⟨h, e, tl, hh⟩ := hH.2.2.2 a ha
    exact ⟨h, e, tl, (hbe.block h (blk_lt hh)).trans hh⟩⟩
  have hcon := containsH A hs n cp x w.heap.size _ hH2 (Go.Lib.cell_of_heap (heap_alloc_new w (.cells #[.int .i64 x] 3 (0, 0))) 0)
  have HBE := Aside0.mk hbe
  clear hH hH2 hbe
  generalize hs.contains x = b at hcon ⊢
  go_enter Try.func47, Try.ntmps47
  go_wp2_with (go_at_call 48; refine hcon.mono ?_; rintro e w' ⟨rfl, hb2⟩)
  go_ret
  exact ⟨rfl, btrans HBE.out hb2⟩

/-- What scan's function value finds and leaves: its captured variables; w: the world at scan's start; bw: the block of what waits. -/
structure SInv (B : Nat) (w : World) (g : Nat) (t : Int) (bw : Nat) (bs : List Int) (W : World) : Prop where
  low : Below B w W
  size : w.heap.size + 4 ≤ W.heap.size
  old : ∀ k, k < w.heap.size → k ≠ bw → W.heap[k]? = w.heap[k]?
  m_ : W.heap[w.heap.size]? = some (.cells #[.pointer (some ⟨g, 0, none⟩)] 24 (0, 0))
  t_ : W.heap[w.heap.size + 1]? = some (.cells #[.int .i64 t] 3 (0, 0))
  f_ : W.heap[w.heap.size + 3]? = some (.cells #[.func (.func 47) #[] #[.pointer (some ⟨w.heap.size, 0, none⟩)]] 69 (0, 0))
  r_ : ∃ v, W.heap[w.heap.size + 2]? = some (.cells #[v] 29 (0, 0)) ∧ Kd.R (Kd.int .i64) 3 W (w.heap.size + 4) (fun _ => True) v bs
theorem R_same {W W' : World} {base : Nat} {v : Value} {xs : List Int} (h : Kd.R (Kd.int .i64) 3 W base (fun _ => True) v xs) (hs : ∀ k, base ≤ k → k < W.heap.size → W'.heap[k]? = W.heap[k]?) : Kd.R (Kd.int .i64) 3 W' base (fun _ => True) v xs :=
  Kd.R_mono (Kd.R_step (Kd.R_bound h) (fun k hk hlt => hs k hk.2.1 hlt)) (fun _ _ => trivial)
theorem SInv.write {B : Nat} {w : World} {g : Nat} {t : Int} {bw : Nat} {bs : List Int} {W W' : World} (h : SInv B w g t bw bs W) (hB : B ≤ bw) (hbw : bw < w.heap.size) (hk : ∀ k, k ≠ bw → W'.heap[k]? = W.heap[k]?) (h1 : W'.os = W.os) (h2 : W'.tape = W.tape) (h3 : W'.output = W.output) (h4 : W'.heap.size = W.heap.size) : SInv B w g t bw bs W' := by
  refine ⟨h.low.trans ⟨h1, h2, h3, by omega, fun k hk2 => hk k (by omega)⟩, by have := h.size; omega, fun k hk1 hk2 => (hk k hk2).trans (h.old k hk1 hk2), (hk _ (by omega)).trans h.m_, (hk _ (by omega)).trans h.t_, (hk _ (by omega)).trans h.f_, ?_⟩
  obtain ⟨v, hv, hr⟩ := h.r_
  exact ⟨v, (hk _ (by omega)).trans hv, R_same hr (fun k hk1 _ => hk k (by omega))⟩
theorem SInv.grow {B : Nat} {w : World} {g : Nat} {t : Int} {bw : Nat} {bs : List Int} {W W' : World} (h : SInv B w g t bw bs W) (hB : B ≤ w.heap.size) (hg : Below W.heap.size W W') : SInv B w g t bw bs W' := by
  have hs := h.size
  refine ⟨h.low.trans (hg.mono (by omega)), by have := hg.size; omega, fun k hk1 hk2 => (hg.block k (by omega)).trans (h.old k hk1 hk2), (hg.block _ (by omega)).trans h.m_, (hg.block _ (by omega)).trans h.t_, (hg.block _ (by omega)).trans h.f_, ?_⟩
  obtain ⟨v, hv, hr⟩ := h.r_
  exact ⟨v, (hg.block _ (by omega)).trans hv, R_same hr (fun k _ hk2 => hg.block k hk2)⟩
theorem R_form {W : World} {base : Nat} {ok : Nat → Prop} {v : Value} {xs : List Int} (h : Kd.R (Kd.int .i64) 3 W base ok v xs) : ∃ A n c, v = .slice A n c := by
  obtain ⟨_, inner, ho, _⟩ := h
  obtain ⟨_, ⟨e, _⟩ | ⟨b, cap, cur, e, _⟩⟩ := ho
  · exact ⟨_, _, _, e⟩
  · exact ⟨_, _, _, e⟩
theorem SInv.append {B : Nat} {w : World} {g : Nat} {t : Int} {bw : Nat} {bs : List Int} {W W1 : World} {v v1 : Value} {x : Int} (h : SInv B w g t bw bs W) (hB : B ≤ w.heap.size) (hv : W.heap[w.heap.size + 2]? = some (.cells #[v] 29 (0, 0))) (hr0 : Kd.R (Kd.int .i64) 3 W (w.heap.size + 4) (fun _ => True) v bs)
    (hg : W.grownBy W1 v.ownBlock) (hr : Kd.R (Kd.int .i64) 3 W1 (w.heap.size + 4) (fun _ => True) v1 (bs ++ [x])) (hb : Below (w.heap.size + 4) W W1) :
    SInv B w g t bw (bs ++ [x]) (W1.setCell ⟨w.heap.size + 2, 0, none⟩ v1) ∧ ∀ (k : Nat) (c : Array Value), W.heap[k]? = some (Obj.cells c 61 (0, 0)) → (W1.setCell ⟨w.heap.size + 2, 0, none⟩ v1).heap[k]? = some (Obj.cells c 61 (0, 0)) := by
  have hs := h.size
  have hbase := Kd.R_base hr0
  have far : ∀ k, k ≠ w.heap.size + 2 → (W1.setCell ⟨w.heap.size + 2, 0, none⟩ v1).heap[k]? = W1.heap[k]? := fun k hk => Below.heap_setCell W1 ⟨w.heap.size + 2, 0, none⟩ v1 k hk
  have hW : ∀ k, k < w.heap.size + 4 → W1.heap[k]? = W.heap[k]? := hb.block
  have hl := Below.setCell (hb.mono (show B ≤ w.heap.size + 4 by omega)) (p := ⟨w.heap.size + 2, 0, none⟩) (show B ≤ w.heap.size + 2 by omega) v1
  refine ⟨⟨h.low.trans hl, by have := hl.size; omega, fun k hk1 hk2 => (far k (by omega)).trans ((hW k (by omega)).trans (h.old k hk1 hk2)), (far _ (by omega)).trans ((hW _ (by omega)).trans h.m_), (far _ (by omega)).trans ((hW _ (by omega)).trans h.t_), (far _ (by omega)).trans ((hW _ (by omega)).trans h.f_), v1, ?_, ?_⟩, fun k c hk => ?_⟩
  · have := blk_set ((hW (w.heap.size + 2) (by omega)).trans hv) 0 v1
    simpa using this
  · exact R_same hr (fun k hk1 _ => far k (by omega))
  · have h1 : k ≠ w.heap.size + 2 := ne_of_tag hk hv (by decide)
    rw [far k h1, hg.block k (blk_lt hk) ?_, hk]
    intro he
    obtain ⟨h0, inner, ho, _⟩ := hr0
    obtain ⟨c2, hc2⟩ := own_tag ho k he.symm
    exact ne_of_tag hk hc2 (by decide) rfl
def goes (hs : List Int) (t : Int) (x : P2) : Bool := (x.1 == t) && !(hs.contains x.2)
def gives (hs : List Int) (t : Int) (bs : List Int) (x : P2) : List Int := if goes hs t x then bs ++ [x.2] else bs
set_option maxHeartbeats 8000000 in
set_option maxRecDepth 100000 in
theorem del_calls {B : Nat} {w : World} {g : Nat} {t : Int} {bw : Nat} {bs : List Int} {W : World} {A : Option Addr} {n cp : Nat} {hs : List Int} (h : SInv B w g t bw bs W) (hB : B ≤ w.heap.size) (hbs : bs.length ≤ 1000000)
    (h0 : W.cell? ⟨g, 0, none⟩ = some (.slice A n cp)) (hH : HoldsAt W A hs n) (x : P2) :
    Calls Try.prog 52 #[.agg #[.int .i64 x.1, .int .i64 x.2], .pointer (some ⟨w.heap.size + 1, 0, none⟩), .pointer (some ⟨w.heap.size + 3, 0, none⟩), .pointer (some ⟨w.heap.size + 2, 0, none⟩)] W fun e W' =>
      e = .returned (.bool (goes hs t x)) ∧ SInv B w g t bw (gives hs t bs x) W' ∧ ∀ (k : Nat) (c : Array Value), W.heap[k]? = some (Obj.cells c 61 (0, 0)) → W'.heap[k]? = some (Obj.cells c 61 (0, 0)) := by
  obtain ⟨x1, x2⟩ := x
  simp only
  have hbe := (Below.refl W.heap.size W).alloc (Nat.le_refl _) (.cells #[.int .i64 x1, .int .i64 x2] 61 (0, 0))
  have h2 := h.grow hB hbe
  have ct := Go.Lib.cell_of_heap h2.t_ 0
  have cf := Go.Lib.cell_of_heap h2.f_ 0
  have cm := Go.Lib.cell_of_heap h2.m_ 0
  obtain ⟨v, hv, hr⟩ := h2.r_
  have cv := Go.Lib.cell_of_heap hv 0
  have h0' := (hbe.cell (p := ⟨g, 0, none⟩) (World.block_lt_of_cell? W _ h0)).trans h0
  have hH2 : HoldsAt (W.alloc (.cells #[.int .i64 x1, .int .i64 x2] 61 (0, 0))) A hs n := ⟨hH.1, hH.2.1, hH.2.2.1, fun a ha => by
    obtain ⟨h, e, tl, hh⟩ := hH.2.2.2 a ha
    exact ⟨h, e, tl, (hbe.block h (blk_lt hh)).trans hh⟩⟩
  have hcall := held2_calls h0' hH2 w.heap.size cm x2
  have eg : ∀ args w, (callFunc 47 args).run Try.prog w = .ok (.enter 47 args) w := enters_of Try.func47 (by kernel_rfl) rfl
  have H2 := Aside0.mk h2
  have HBE := Aside0.mk hbe
  clear h0 h0' hH hH2 h h2 hr hv hbe
  simp only [List.getElem?_toArray, List.getElem?_cons_zero] at ct cf cm cv
  by_cases ht : x1 = t
  · subst ht
    cases hq : hs.contains x2 with
    | true =>
      have e1 : goes hs x1 (x1, x2) = false := by unfold goes; simp only [hq]; simp
      have e2 : gives hs x1 bs (x1, x2) = bs := by unfold gives; rw [e1]; rfl
      rw [e1, e2]
      rw [hq] at hcall
      clear hq e1 e2
      go_enter Try.func52, Try.ntmps52
      go_wp2_with (go_at_fn 47; refine hcall.mono ?_; rintro e w' ⟨rfl, hb⟩)
      go_ret
      refine ⟨rfl, H2.out.grow hB hb, fun k c hk => ?_⟩
      exact (hb.block k (by have := HBE.out.size; have := blk_lt hk; omega)).trans ((HBE.out.block k (blk_lt hk)).trans hk)
    | false =>
      have e1 : goes hs x1 (x1, x2) = true := by unfold goes; simp only [hq]; simp
      have e2 : gives hs x1 bs (x1, x2) = bs ++ [x2] := by unfold gives; rw [e1]; rfl
      rw [e1, e2]
      rw [hq] at hcall
      have hlim : (bs.length + 1) * 8 ≤ 140737488355328 := by omega
      clear hq e1 e2 cv v
      have hnew := Aside0.mk (heap_alloc_new W (.cells #[.int .i64 x1, .int .i64 x2] 61 (0, 0)))
      go_enter Try.func52, Try.ntmps52
      go_wp2_with (first
        | (go_at_fn 47; refine hcall.mono ?_; rintro e w' ⟨rfl, hb⟩; have H3 := Aside0.mk (H2.out.grow hB hb); have hbx := (Go.Lib.cell_of_heap ((hb.block W.heap.size (blk_lt hnew.out)).trans hnew.out) 1); simp only [List.getElem?_toArray, List.getElem?_cons_succ, List.getElem?_cons_zero] at hbx; obtain ⟨v, hv, hr⟩ := H3.out.r_; have cv := Go.Lib.cell_of_heap hv 0; simp only [List.getElem?_toArray, List.getElem?_cons_zero] at cv; have HV := Aside0.mk hv; have HO := Aside0.mk hr; have HB := Aside0.mk (Below.refl (w.heap.size + 4) w'); have HSZ := Aside0.mk H3.out.size; have HB0 := Aside0.mk hb; clear hv hr hb hcall)
        | ((with_reducible refine gate_builtin (b := .append) (xs := #[.tmp 19, .tmp 22]) rfl ?_); at_builtin; refine Kd.R_append (Kd.int .i64) (w0 := w') (w.heap.size + 4) rfl (.tmp 19) (.tmp 22) 29 3 (.int .i64 0) 8 rfl Try.underlying29 info3 rfl (by decide) (by omega) v bs x2 [.int .i64 x2] (fun _ => True) (fun _ => False) rfl rfl ?aP (fun _ hk => hk.elim) (fun _ _ => trivial) HO.out HB.out HSZ.out hlim ?_; (case aP => exact rfl); intro v1 wn ho hb hg hat; obtain ⟨A1, n1, c1, rfl⟩ := R_form ho; have HAP := Aside0.mk (H3.out.append hB HV.out HO.out hg ho hb); have cw : wn.cell? ⟨w.heap.size + 2, 0, none⟩ = some v := (by rw [Go.Lib.cell_of_heap ((hb.block (w.heap.size + 2) (by omega)).trans HV.out)]; rfl); have fw : wn.frozen? ⟨w.heap.size + 2, 0, none⟩ = false := blk_frozen ((hb.block (w.heap.size + 2) (by omega)).trans HV.out) 0; clear ho hb hg hat))
      go_ret
      refine ⟨rfl, HAP.out.1, fun k c hk => HAP.out.2 k c ?_⟩
      exact (HB0.out.block k (by have := HBE.out.size; have := blk_lt hk; omega)).trans ((HBE.out.block k (blk_lt hk)).trans hk)
  · have e0 : (x1 == t) = false := by simpa using ht
    have e1 : goes hs t (x1, x2) = false := by unfold goes; simp only [e0]; rfl
    have e2 : gives hs t bs (x1, x2) = bs := by unfold gives; rw [e1]; rfl
    rw [e1, e2]
    clear hcall e1 e2 ht
    go_enter Try.func52, Try.ntmps52
    go_wp2
    go_ret
    refine ⟨rfl, H2.out, fun k c hk => (HBE.out.block k (blk_lt hk)).trans hk⟩
end Go.Proofs.Ytgdadefobhfkcaa.Hy
