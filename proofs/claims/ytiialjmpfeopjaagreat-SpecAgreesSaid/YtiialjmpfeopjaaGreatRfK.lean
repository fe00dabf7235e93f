/- The document's May and Reads, walked: plain lemmas; no condition. -/
import Derived.Test.YtiialjmpfeopjaaGreatRfE
import Derived.BigQuiet
import Derived.Deep.QuietTactic
namespace Go.Proofs.YtiialjmpfeopjaaGreat.Sp
open Go.RowKit Go.Sort Go.Proofs.YtiialjmpfeopjaaGreatW.PrintWords Go.Proofs.YtiialjmpfeopjaaGreatW.PrintLast Go.Proofs.YtiialjmpfeopjaaGreatW.PrintMore
set_option linter.unusedVariables false
set_option linter.unusedSimpArgs false
set_option maxHeartbeats 8000000
set_option maxRecDepth 100000
/-- Whether a call may be made, by its form. -/
def mayF (f : FormT) (x y t : Int) : Bool :=
  !(decide (f.1 < 0) || decide (t < 0) || decide (f.2.2.2 ≤ t)) && !((decide (f.1 < 1) && (x != 0)) || (decide (f.1 < 2) && (y != 0))) &&
  ((decide (f.1 < 1) || inR x f.2.1 f.2.2.1) && (decide (f.1 < 2) || inR y f.2.1 f.2.2.1))
def mayR (r : Int) (op : ByteArray) (x y t : Int) : Bool := mayF (formOf (formsR r) op) x y t
theorem ref_may (r : Int) (op : ByteArray) (x y t : Int) (w : World) : Calls Tryz.prog 20 #[.int .i64 r, .agg #[.string op, .int .i64 x, .int .i64 y], .int .i64 t] w fun e w' => e = .returned (.bool (mayR r op x y t)) ∧ Below w.heap.size w w' := by
  have b1 := (Below.refl w.heap.size w).alloc (Nat.le_refl _) (.cells #[.string op, .int .i64 x, .int .i64 y] 24 (0, 0))
  have B1 := Aside0.mk b1
  have n1 := heap_alloc_new w (.cells #[.string op, .int .i64 x, .int .i64 y] 24 (0, 0))
  have N1 := Aside0.mk n1
  have HS := Aside0.mk (shape_calls r op (w.alloc (.cells #[.string op, .int .i64 x, .int .i64 y] 24 (0, 0))))
  unfold ShapeAt formV at HS
  unfold mayR
  obtain ⟨f, hf⟩ : ∃ f, f = formOf (formsR r) op := ⟨_, rfl⟩
  rw [← hf] at HS ⊢
  clear hf
  obtain ⟨fa, fl, fh, ft⟩ := f
  dsimp only at HS
  have HI1 := Aside0.mk (fun W => ref_in x fl fh W)
  have HI2 := Aside0.mk (fun W => ref_in y fl fh W)
  obtain ⟨R, hR⟩ : ∃ R, R = mayF (fa, fl, fh, ft) x y t := ⟨_, rfl⟩
  rw [← hR]
  have HRR := Aside0.mk hR
  unfold mayF at HRR
  dsimp only at HRR
  clear hR b1 n1
  obtain ⟨ix, hix⟩ : ∃ b, b = inR x fl fh := ⟨_, rfl⟩
  obtain ⟨iy, hiy⟩ : ∃ b, b = inR y fl fh := ⟨_, rfl⟩
  rw [← hix] at HI1 HRR
  rw [← hiy] at HI2 HRR
  clear hix hiy
  by_cases c1 : fa < 0
  · have d1 : decide (fa < 0) = true := decide_eq_true c1
    have hR2 : R = false := by rw [HRR.out]; simp [*]
    have HR2 := Aside0.mk hR2
    clear HRR hR2
    have tok1 : True := trivial
    go_enter Tryz.func20, Tryz.ntmps20
    go_wp2_with (first | (go_at_call 35; refine (HS.out).mono ?_; rintro e w2 ⟨rfl, hb⟩; have B2 := Aside0.mk (B1.out.trans (hb.mono B1.out.size)); have n2 := (hb.block _ (blk_lt N1.out)).trans N1.out; have k1 := Go.Lib.cell_of_heap n2 0; have k2 := Go.Lib.cell_of_heap n2 1; have k3 := Go.Lib.cell_of_heap n2 2; simp only [List.getElem?_toArray, List.getElem?_cons_succ, List.getElem?_cons_zero] at k1 k2 k3; have hlt := blk_lt n2; clear n2 hb))
    go_ret
    exact ⟨by rw [HR2.out]; rfl, B2.out.alloc B2.out.size _⟩
  have d1 : decide (fa < 0) = false := decide_eq_false c1
  by_cases c2 : t < 0
  · have d2 : decide (t < 0) = true := decide_eq_true c2
    have hR2 : R = false := by rw [HRR.out]; simp [*]
    have HR2 := Aside0.mk hR2
    clear HRR hR2
    have tok1 : True := trivial
    go_enter Tryz.func20, Tryz.ntmps20
    go_wp2_with (first | (go_at_call 35; refine (HS.out).mono ?_; rintro e w2 ⟨rfl, hb⟩; have B2 := Aside0.mk (B1.out.trans (hb.mono B1.out.size)); have n2 := (hb.block _ (blk_lt N1.out)).trans N1.out; have k1 := Go.Lib.cell_of_heap n2 0; have k2 := Go.Lib.cell_of_heap n2 1; have k3 := Go.Lib.cell_of_heap n2 2; simp only [List.getElem?_toArray, List.getElem?_cons_succ, List.getElem?_cons_zero] at k1 k2 k3; have hlt := blk_lt n2; clear n2 hb))
    go_ret
    exact ⟨by rw [HR2.out]; rfl, B2.out.alloc B2.out.size _⟩
  have d2 : decide (t < 0) = false := decide_eq_false c2
  by_cases c3 : ft ≤ t
  · have d3 : decide (ft ≤ t) = true := decide_eq_true c3
    have hR2 : R = false := by rw [HRR.out]; simp [*]
    have HR2 := Aside0.mk hR2
    clear HRR hR2
    have tok1 : True := trivial
    go_enter Tryz.func20, Tryz.ntmps20
    go_wp2_with (first | (go_at_call 35; refine (HS.out).mono ?_; rintro e w2 ⟨rfl, hb⟩; have B2 := Aside0.mk (B1.out.trans (hb.mono B1.out.size)); have n2 := (hb.block _ (blk_lt N1.out)).trans N1.out; have k1 := Go.Lib.cell_of_heap n2 0; have k2 := Go.Lib.cell_of_heap n2 1; have k3 := Go.Lib.cell_of_heap n2 2; simp only [List.getElem?_toArray, List.getElem?_cons_succ, List.getElem?_cons_zero] at k1 k2 k3; have hlt := blk_lt n2; clear n2 hb))
    go_ret
    exact ⟨by rw [HR2.out]; rfl, B2.out.alloc B2.out.size _⟩
  have d3 : decide (ft ≤ t) = false := decide_eq_false c3
  by_cases c4 : fa < 1
  · have d4 : decide (fa < 1) = true := decide_eq_true c4
    have c5 : fa < 2 := by omega
    have d5 : decide (fa < 2) = true := decide_eq_true c5
    cases hx : (x != 0) with
    | true =>
      have hR2 : R = false := by rw [HRR.out]; simp [*]
      have HR2 := Aside0.mk hR2
      clear HRR hR2
      have tok1 : True := trivial
      go_enter Tryz.func20, Tryz.ntmps20
      go_wp2_with (first | (go_at_call 35; refine (HS.out).mono ?_; rintro e w2 ⟨rfl, hb⟩; have B2 := Aside0.mk (B1.out.trans (hb.mono B1.out.size)); have n2 := (hb.block _ (blk_lt N1.out)).trans N1.out; have k1 := Go.Lib.cell_of_heap n2 0; have k2 := Go.Lib.cell_of_heap n2 1; have k3 := Go.Lib.cell_of_heap n2 2; simp only [List.getElem?_toArray, List.getElem?_cons_succ, List.getElem?_cons_zero] at k1 k2 k3; have hlt := blk_lt n2; clear n2 hb))
      go_ret
      exact ⟨by rw [HR2.out]; rfl, B2.out.alloc B2.out.size _⟩
    | false =>
      cases hy : (y != 0) with
      | true =>
        have hR2 : R = false := by rw [HRR.out]; simp [*]
        have HR2 := Aside0.mk hR2
        clear HRR hR2
        have tok1 : True := trivial
        go_enter Tryz.func20, Tryz.ntmps20
        go_wp2_with (first | (go_at_call 35; refine (HS.out).mono ?_; rintro e w2 ⟨rfl, hb⟩; have B2 := Aside0.mk (B1.out.trans (hb.mono B1.out.size)); have n2 := (hb.block _ (blk_lt N1.out)).trans N1.out; have k1 := Go.Lib.cell_of_heap n2 0; have k2 := Go.Lib.cell_of_heap n2 1; have k3 := Go.Lib.cell_of_heap n2 2; simp only [List.getElem?_toArray, List.getElem?_cons_succ, List.getElem?_cons_zero] at k1 k2 k3; have hlt := blk_lt n2; clear n2 hb))
        go_ret
        exact ⟨by rw [HR2.out]; rfl, B2.out.alloc B2.out.size _⟩
      | false =>
        have hR2 : R = true := by rw [HRR.out]; simp [*]
        have HR2 := Aside0.mk hR2
        clear HRR hR2
        have tok1 : True := trivial
        go_enter Tryz.func20, Tryz.ntmps20
        go_wp2_with (first | (go_at_call 35; refine (HS.out).mono ?_; rintro e w2 ⟨rfl, hb⟩; have B2 := Aside0.mk (B1.out.trans (hb.mono B1.out.size)); have n2 := (hb.block _ (blk_lt N1.out)).trans N1.out; have k1 := Go.Lib.cell_of_heap n2 0; have k2 := Go.Lib.cell_of_heap n2 1; have k3 := Go.Lib.cell_of_heap n2 2; simp only [List.getElem?_toArray, List.getElem?_cons_succ, List.getElem?_cons_zero] at k1 k2 k3; have hlt := blk_lt n2; clear n2 hb))
        go_ret
        exact ⟨by rw [HR2.out]; rfl, B2.out.alloc B2.out.size _⟩
  have d4 : decide (fa < 1) = false := decide_eq_false c4
  by_cases c5 : fa < 2
  · have d5 : decide (fa < 2) = true := decide_eq_true c5
    cases hy : (y != 0) with
    | true =>
      have hR2 : R = false := by rw [HRR.out]; simp [*]
      have HR2 := Aside0.mk hR2
      clear HRR hR2
      have tok1 : True := trivial
      go_enter Tryz.func20, Tryz.ntmps20
      go_wp2_with (first | (go_at_call 35; refine (HS.out).mono ?_; rintro e w2 ⟨rfl, hb⟩; have B2 := Aside0.mk (B1.out.trans (hb.mono B1.out.size)); have n2 := (hb.block _ (blk_lt N1.out)).trans N1.out; have k1 := Go.Lib.cell_of_heap n2 0; have k2 := Go.Lib.cell_of_heap n2 1; have k3 := Go.Lib.cell_of_heap n2 2; simp only [List.getElem?_toArray, List.getElem?_cons_succ, List.getElem?_cons_zero] at k1 k2 k3; have hlt := blk_lt n2; clear n2 hb))
      go_ret
      exact ⟨by rw [HR2.out]; rfl, B2.out.alloc B2.out.size _⟩
    | false =>
      cases ix with
      | true =>
        have hR2 : R = true := by rw [HRR.out]; simp [*]
        have HR2 := Aside0.mk hR2
        clear HRR hR2
        have tok1 : True := trivial
        go_enter Tryz.func20, Tryz.ntmps20
        go_wp2_with (first | (go_at_call 35; refine (HS.out).mono ?_; rintro e w2 ⟨rfl, hb⟩; have B2 := Aside0.mk (B1.out.trans (hb.mono B1.out.size)); have n2 := (hb.block _ (blk_lt N1.out)).trans N1.out; have k1 := Go.Lib.cell_of_heap n2 0; have k2 := Go.Lib.cell_of_heap n2 1; have k3 := Go.Lib.cell_of_heap n2 2; simp only [List.getElem?_toArray, List.getElem?_cons_succ, List.getElem?_cons_zero] at k1 k2 k3; have hlt := blk_lt n2; clear n2 hb) | (go_at_call 33; have _t := tok1; refine (HI1.out _).mono ?_; rintro e w3 ⟨rfl, hw⟩; rw [hw]; clear hw tok1 _t))
        go_ret
        exact ⟨by rw [HR2.out]; rfl, B2.out.alloc B2.out.size _⟩
      | false =>
        have hR2 : R = false := by rw [HRR.out]; simp [*]
        have HR2 := Aside0.mk hR2
        clear HRR hR2
        have tok1 : True := trivial
        go_enter Tryz.func20, Tryz.ntmps20
        go_wp2_with (first | (go_at_call 35; refine (HS.out).mono ?_; rintro e w2 ⟨rfl, hb⟩; have B2 := Aside0.mk (B1.out.trans (hb.mono B1.out.size)); have n2 := (hb.block _ (blk_lt N1.out)).trans N1.out; have k1 := Go.Lib.cell_of_heap n2 0; have k2 := Go.Lib.cell_of_heap n2 1; have k3 := Go.Lib.cell_of_heap n2 2; simp only [List.getElem?_toArray, List.getElem?_cons_succ, List.getElem?_cons_zero] at k1 k2 k3; have hlt := blk_lt n2; clear n2 hb) | (go_at_call 33; have _t := tok1; refine (HI1.out _).mono ?_; rintro e w3 ⟨rfl, hw⟩; rw [hw]; clear hw tok1 _t))
        go_ret
        exact ⟨by rw [HR2.out]; rfl, B2.out.alloc B2.out.size _⟩
  have d5 : decide (fa < 2) = false := decide_eq_false c5
  cases ix with
  | true =>
    cases iy with
    | true =>
      have hR2 : R = true := by rw [HRR.out]; simp [*]
      have HR2 := Aside0.mk hR2
      clear HRR hR2
      have tok1 : True := trivial
      go_enter Tryz.func20, Tryz.ntmps20
      go_wp2_with (first | (go_at_call 35; refine (HS.out).mono ?_; rintro e w2 ⟨rfl, hb⟩; have B2 := Aside0.mk (B1.out.trans (hb.mono B1.out.size)); have n2 := (hb.block _ (blk_lt N1.out)).trans N1.out; have k1 := Go.Lib.cell_of_heap n2 0; have k2 := Go.Lib.cell_of_heap n2 1; have k3 := Go.Lib.cell_of_heap n2 2; simp only [List.getElem?_toArray, List.getElem?_cons_succ, List.getElem?_cons_zero] at k1 k2 k3; have hlt := blk_lt n2; clear n2 hb) | (go_at_call 33; have _t := tok1; refine (HI1.out _).mono ?_; rintro e w3 ⟨rfl, hw⟩; rw [hw]; clear hw tok1 _t) | (go_at_call 33; refine (HI2.out _).mono ?_; rintro e w4 ⟨rfl, hw⟩; rw [hw]; clear hw))
      go_ret
      exact ⟨by rw [HR2.out]; rfl, B2.out.alloc B2.out.size _⟩
    | false =>
      have hR2 : R = false := by rw [HRR.out]; simp [*]
      have HR2 := Aside0.mk hR2
      clear HRR hR2
      have tok1 : True := trivial
      go_enter Tryz.func20, Tryz.ntmps20
      go_wp2_with (first | (go_at_call 35; refine (HS.out).mono ?_; rintro e w2 ⟨rfl, hb⟩; have B2 := Aside0.mk (B1.out.trans (hb.mono B1.out.size)); have n2 := (hb.block _ (blk_lt N1.out)).trans N1.out; have k1 := Go.Lib.cell_of_heap n2 0; have k2 := Go.Lib.cell_of_heap n2 1; have k3 := Go.Lib.cell_of_heap n2 2; simp only [List.getElem?_toArray, List.getElem?_cons_succ, List.getElem?_cons_zero] at k1 k2 k3; have hlt := blk_lt n2; clear n2 hb) | (go_at_call 33; have _t := tok1; refine (HI1.out _).mono ?_; rintro e w3 ⟨rfl, hw⟩; rw [hw]; clear hw tok1 _t) | (go_at_call 33; refine (HI2.out _).mono ?_; rintro e w4 ⟨rfl, hw⟩; rw [hw]; clear hw))
      go_ret
      exact ⟨by rw [HR2.out]; rfl, B2.out.alloc B2.out.size _⟩
  | false =>
    have hR2 : R = false := by rw [HRR.out]; simp [*]
    have HR2 := Aside0.mk hR2
    clear HRR hR2
    have tok1 : True := trivial
    go_enter Tryz.func20, Tryz.ntmps20
    go_wp2_with (first | (go_at_call 35; refine (HS.out).mono ?_; rintro e w2 ⟨rfl, hb⟩; have B2 := Aside0.mk (B1.out.trans (hb.mono B1.out.size)); have n2 := (hb.block _ (blk_lt N1.out)).trans N1.out; have k1 := Go.Lib.cell_of_heap n2 0; have k2 := Go.Lib.cell_of_heap n2 1; have k3 := Go.Lib.cell_of_heap n2 2; simp only [List.getElem?_toArray, List.getElem?_cons_succ, List.getElem?_cons_zero] at k1 k2 k3; have hlt := blk_lt n2; clear n2 hb) | (go_at_call 33; have _t := tok1; refine (HI1.out _).mono ?_; rintro e w3 ⟨rfl, hw⟩; rw [hw]; clear hw tok1 _t) | (go_at_call 33; refine (HI2.out _).mono ?_; rintro e w4 ⟨rfl, hw⟩; rw [hw]; clear hw))
    go_ret
    exact ⟨by rw [HR2.out]; rfl, B2.out.alloc B2.out.size _⟩
end Go.Proofs.YtiialjmpfeopjaaGreat.Sp
