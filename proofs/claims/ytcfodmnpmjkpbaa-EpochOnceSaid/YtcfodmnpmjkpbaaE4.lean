/- try: its function value that says what goes: plain lemmas; no condition. -/
import Derived.Test.YtcfodmnpmjkpbaaE3
namespace Go.Proofs.Ytcfodmnpmjkpbaa.Ep
open Go.RowKit Go.Proofs.YtcfodmnpmjkpbaaW.PrintWords Go.Proofs.YtcfodmnpmjkpbaaW.PrintLast Go.Proofs.YtcfodmnpmjkpbaaW.PrintMore
set_option linter.unusedVariables false
set_option linter.unusedSimpArgs false
set_option maxHeartbeats 8000000
set_option maxRecDepth 100000

/-- What try's second function value finds and leaves; w: the world at try's start; top: the manager's cells; bw: the block of what waits. -/
structure SInv (B : Nat) (w : World) (g : Nat) (top : Array Value) (bw : Nat) (bs : List Int) (W : World) : Prop where
  low : Below B w W
  size : w.heap.size + 2 ≤ W.heap.size
  old : ∀ k, k < w.heap.size → k ≠ bw → k ≠ g → W.heap[k]? = w.heap[k]?
  g_ : W.heap[g]? = some (.cells top 69 (0, 0))
  m_ : W.heap[w.heap.size]? = some (.cells #[.pointer (some ⟨g, 0, none⟩)] 28 (0, 0))
  r_ : ∃ v, W.heap[w.heap.size + 1]? = some (.cells #[v] 41 (0, 0)) ∧ Kd.R (Kd.int .i64) 3 W (w.heap.size + 2) (fun _ => True) v bs
theorem R_same {W W' : World} {base : Nat} {v : Value} {xs : List Int} (h : Kd.R (Kd.int .i64) 3 W base (fun _ => True) v xs) (hs : ∀ k, base ≤ k → k < W.heap.size → W'.heap[k]? = W.heap[k]?) : Kd.R (Kd.int .i64) 3 W' base (fun _ => True) v xs :=
  Kd.R_mono (Kd.R_step (Kd.R_bound h) (fun k hk hlt => hs k hk.2.1 hlt)) (fun _ _ => trivial)
theorem SInv.write {B : Nat} {w : World} {g : Nat} {top : Array Value} {bw : Nat} {bs : List Int} {W W' : World} (h : SInv B w g top bw bs W) (hg : g ≠ bw) (hB : B ≤ bw) (hbw : bw < w.heap.size) (hk : ∀ k, k ≠ bw → W'.heap[k]? = W.heap[k]?) (h1 : W'.os = W.os) (h2 : W'.tape = W.tape) (h3 : W'.output = W.output) (h4 : W'.heap.size = W.heap.size) : SInv B w g top bw bs W' := by
  refine ⟨h.low.trans ⟨h1, h2, h3, by omega, fun k hk2 => hk k (by omega)⟩, by have := h.size; omega, fun k hk1 hk2 hk3 => (hk k hk2).trans (h.old k hk1 hk2 hk3), (hk _ hg).trans h.g_, (hk _ (by omega)).trans h.m_, ?_⟩
  obtain ⟨v, hv, hr⟩ := h.r_
  exact ⟨v, (hk _ (by omega)).trans hv, R_same hr (fun k hk1 _ => hk k (by omega))⟩
theorem SInv.grow {B : Nat} {w : World} {g : Nat} {top : Array Value} {bw : Nat} {bs : List Int} {W W' : World} (h : SInv B w g top bw bs W) (hB : B ≤ w.heap.size) (hb : Below W.heap.size W W') : SInv B w g top bw bs W' := by
  have hs := h.size
  refine ⟨h.low.trans (hb.mono (by omega)), by have := hb.size; omega, fun k hk1 hk2 hk3 => (hb.block k (by omega)).trans (h.old k hk1 hk2 hk3), (hb.block _ (blk_lt h.g_)).trans h.g_, (hb.block _ (by omega)).trans h.m_, ?_⟩
  obtain ⟨v, hv, hr⟩ := h.r_
  exact ⟨v, (hb.block _ (by omega)).trans hv, R_same hr (fun k _ hk2 => hb.block k hk2)⟩
theorem R_form {W : World} {base : Nat} {ok : Nat → Prop} {v : Value} {xs : List Int} (h : Kd.R (Kd.int .i64) 3 W base ok v xs) : ∃ A n c, v = .slice A n c := by
  obtain ⟨A, c, e⟩ := Kd.R_slice h
  exact ⟨A, _, c, e⟩
theorem SInv.append {B : Nat} {w : World} {g : Nat} {top : Array Value} {bw : Nat} {bs : List Int} {W W1 : World} {v v1 : Value} {x : Int} (h : SInv B w g top bw bs W) (hB : B ≤ w.heap.size) (hgl : g < w.heap.size) (hv : W.heap[w.heap.size + 1]? = some (.cells #[v] 41 (0, 0))) (hr0 : Kd.R (Kd.int .i64) 3 W (w.heap.size + 2) (fun _ => True) v bs)
    (hg : W.grownBy W1 v.ownBlock) (hr : Kd.R (Kd.int .i64) 3 W1 (w.heap.size + 2) (fun _ => True) v1 (bs ++ [x])) (hb : Below (w.heap.size + 2) W W1) :
    SInv B w g top bw (bs ++ [x]) (W1.setCell ⟨w.heap.size + 1, 0, none⟩ v1) ∧ ∀ (k : Nat) (c : Array Value), W.heap[k]? = some (Obj.cells c 78 (0, 0)) → (W1.setCell ⟨w.heap.size + 1, 0, none⟩ v1).heap[k]? = some (Obj.cells c 78 (0, 0)) := by
  have hs := h.size
  have far : ∀ k, k ≠ w.heap.size + 1 → (W1.setCell ⟨w.heap.size + 1, 0, none⟩ v1).heap[k]? = W1.heap[k]? := fun k hk => Below.heap_setCell W1 ⟨w.heap.size + 1, 0, none⟩ v1 k hk
  have hW : ∀ k, k < w.heap.size + 2 → W1.heap[k]? = W.heap[k]? := hb.block
  have hl := Below.setCell (hb.mono (show B ≤ w.heap.size + 2 by omega)) (p := ⟨w.heap.size + 1, 0, none⟩) (show B ≤ w.heap.size + 1 by omega) v1
  refine ⟨⟨h.low.trans hl, by have := hl.size; omega, fun k hk1 hk2 hk3 => (far k (by omega)).trans ((hW k (by omega)).trans (h.old k hk1 hk2 hk3)), (far _ (by omega)).trans ((hW _ (by omega)).trans h.g_), (far _ (by omega)).trans ((hW _ (by omega)).trans h.m_), v1, ?_, ?_⟩, fun k c hk => ?_⟩
  · have := blk_set ((hW (w.heap.size + 1) (by omega)).trans hv) 0 v1
    simpa using this
  · exact R_same hr (fun k hk1 _ => far k (by omega))
  · have h1 : k ≠ w.heap.size + 1 := ne_of_tag hk hv (by decide)
    rw [far k h1, hg.block k (blk_lt hk) ?_, hk]
    intro he
    obtain ⟨inner, ho⟩ := Kd.R_own hr0
    obtain ⟨c2, hc2⟩ := own_tag ho k he.symm
    exact ne_of_tag hk hc2 (by decide) rfl
/-- What goes at epoch E. -/
def goes (E : Int) (x : P2) : Bool := decide (x.2 ≤ E - 2)
def gives (E : Int) (bs : List Int) (x : P2) : List Int := if goes E x then bs ++ [x.1] else bs
theorem del_calls {B : Nat} {w : World} {g : Nat} {E : Int} {tv wv : Value} {bw : Nat} {bs : List Int} {W : World} (h : SInv B w g #[.int .i64 E, tv, wv] bw bs W) (hB : B ≤ w.heap.size) (hgl : g < w.heap.size) (hbs : bs.length ≤ 1000000) (hE0 : 0 ≤ E) (hE : E ≤ 1000000) (x : P2) :
    Calls Try.prog 55 #[.agg #[.int .i64 x.1, .int .i64 x.2], .pointer (some ⟨w.heap.size, 0, none⟩), .pointer (some ⟨w.heap.size + 1, 0, none⟩)] W fun e W' =>
      e = .returned (.bool (goes E x)) ∧ SInv B w g #[.int .i64 E, tv, wv] bw (gives E bs x) W' ∧ ∀ (k : Nat) (c : Array Value), W.heap[k]? = some (Obj.cells c 78 (0, 0)) → W'.heap[k]? = some (Obj.cells c 78 (0, 0)) := by
  obtain ⟨x1, x2⟩ := x
  simp only
  have hbe := (Below.refl W.heap.size W).alloc (Nat.le_refl _) (.cells #[.int .i64 x1, .int .i64 x2] 78 (0, 0))
  have h2 := h.grow hB hbe
  have cm := Go.Lib.cell_of_heap h2.m_ 0
  have cg := Go.Lib.cell_of_heap h2.g_ 0
  obtain ⟨v, hv, hr⟩ := h2.r_
  have cv := Go.Lib.cell_of_heap hv 0
  have fv := blk_frozen hv 0
  have H2 := Aside0.mk h2
  have HBE := Aside0.mk hbe
  have HV := Aside0.mk hv
  have HO := Aside0.mk hr
  have hsz := h.size
  have HB := Aside0.mk (Below.refl (w.heap.size + 2) (W.alloc (.cells #[.int .i64 x1, .int .i64 x2] 78 (0, 0))).drew)
  simp only [List.getElem?_toArray, List.getElem?_cons_zero] at cm cg cv
  have hw2 : IntKind.i64.wrap (E - 2) = E - 2 := IntWalk.i64_in _ (by omega)
  have hne : w.heap.size + 1 ≠ W.heap.size := by omega
  clear h h2 hr hv hbe
  by_cases ht : x2 ≤ E - 2
  · have e1 : goes E (x1, x2) = true := decide_eq_true ht
    have e2 : gives E bs (x1, x2) = bs ++ [x1] := by unfold gives; rw [e1]; rfl
    rw [e1, e2]
    have hlim : (bs.length + 1) * 8 ≤ 140737488355328 := by omega
    have hd := decide_eq_true ht
    clear e1 e2
    go_enter Try.func55, Try.ntmps55
    go_wp2
    go_quiet (fail)
    obtain ⟨A0, n0, c0, rfl⟩ := R_form HO.out
    have HOn := Aside0.mk (R_same (W' := (W.alloc (.cells #[.int .i64 x1, .int .i64 x2] 78 (0, 0))).drewN nq) HO.out (fun _ _ _ => rfl))
    have HVn := Aside0.mk (show ((W.alloc (.cells #[.int .i64 x1, .int .i64 x2] 78 (0, 0))).drewN nq).heap[w.heap.size + 1]? = _ from HV.out)
    have H2n := Aside0.mk (H2.out.grow hB (pw_below_drewN (Below.refl _ _) nq))
    have HSZ := Aside0.mk H2n.out.size
    have HBn := Aside0.mk (Below.refl (w.heap.size + 2) ((W.alloc (.cells #[.int .i64 x1, .int .i64 x2] 78 (0, 0))).drewN nq))
    clear HO HV HB H2
    go_wp2_with ((with_reducible refine gate_builtin (b := .append) (xs := #[.tmp 15, .tmp 18]) rfl ?_); at_builtin; refine Kd.R_append (Kd.int .i64) (w0 := (W.alloc (.cells #[.int .i64 x1, .int .i64 x2] 78 (0, 0))).drewN nq) (w.heap.size + 2) rfl (.tmp 15) (.tmp 18) 41 3 (.int .i64 0) 8 rfl Try.underlying41 info3 rfl (by decide) (by omega) (.slice A0 n0 c0) bs x1 [.int .i64 x1] (fun _ => True) (fun _ => False) rfl ?aX ?aP (fun _ hk => hk.elim) (fun _ _ => trivial) HOn.out HBn.out HSZ.out hlim ?_; (case aX => (show _ = Value.slice (some ⟨(W.alloc (.cells #[.int .i64 x1, .int .i64 x2] 78 (0, 0))).heap.size, 0, none⟩) 1 1; rw [alloc_size]; rfl)); (case aP => exact rfl); intro v1 wn ho hb hg hat; obtain ⟨A1, n1, c1, rfl⟩ := R_form ho; have HAP := Aside0.mk (H2n.out.append hB hgl HVn.out HOn.out hg ho hb); have cw : wn.cell? ⟨w.heap.size + 1, 0, none⟩ = some (.slice A0 n0 c0) := (by rw [Go.Lib.cell_of_heap ((hb.block (w.heap.size + 1) (by omega)).trans HVn.out)]; rfl); have fw : wn.frozen? ⟨w.heap.size + 1, 0, none⟩ = false := blk_frozen ((hb.block (w.heap.size + 1) (by omega)).trans HVn.out) 0; clear ho hb hg hat)
    go_ret
    refine ⟨rfl, HAP.out.1, fun k c hk => HAP.out.2 k c ((HBE.out.block k (blk_lt hk)).trans hk)⟩
  · have e1 : goes E (x1, x2) = false := decide_eq_false ht
    have e2 : gives E bs (x1, x2) = bs := by unfold gives; rw [e1]; rfl
    rw [e1, e2]
    have hd := decide_eq_false ht
    clear e1 e2 ht
    go_enter Try.func55, Try.ntmps55
    go_wp2
    go_quiet (fail)
    go_wp2
    go_ret
    exact ⟨rfl, H2.out.grow hB (pw_below_drewN (Below.refl _ _) nq), fun k c hk => (HBE.out.block k (blk_lt hk)).trans hk⟩
end Go.Proofs.Ytcfodmnpmjkpbaa.Ep
