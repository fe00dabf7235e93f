/- One step of an interleaving (memory.goes), walked: plain lemmas; no condition. -/
import Derived.Test.YtgfbgbclpeihdaaLiI
namespace Go.Proofs.Ytgfbgbclpeihdaa.Li
open Go.RowKit Go.Proofs.YtgfbgbclpeihdaaW.PrintWords Go.Proofs.YtgfbgbclpeihdaaW.PrintLast Go.Proofs.YtgfbgbclpeihdaaW.PrintMore
set_option linter.unusedVariables false
set_option linter.unusedSimpArgs false
set_option maxHeartbeats 8000000
set_option maxRecDepth 100000
def wAt (ws : List Int) (i : Nat) : Int := ws.getD i 0
def nAt (nx : List Nat) (i : Nat) : Nat := nx.getD i 0
/-- The cells of a point of an interleaving. -/
abbrev memA (ws : List Int) (nx : List Nat) (A : Nat → Option Addr) (C : Nat → Nat) (X : Nat → List Int) : Array Value :=
  #[.int .i64 (wAt ws 0), .int .i64 (wAt ws 1), .int .i64 (wAt ws 2), .int .i64 ((nAt nx 0 : Nat) : Int), .int .i64 ((nAt nx 1 : Nat) : Int), .int .i64 ((nAt nx 2 : Nat) : Int), .slice (A 0) (X 0).length (C 0), .slice (A 1) (X 1).length (C 1), .slice (A 2) (X 2).length (C 2)]
def MAt (w : World) (g : Nat) (ws : List Int) (nx : List Nat) (A : Nat → Option Addr) (C : Nat → Nat) (X : Nat → List Int) : Prop := w.heap[g]? = some (.cells (memA ws nx A C X) 53 (0, 0))
def upd {α : Type} (f : Nat → α) (t : Nat) (x : α) : Nat → α := fun k => if k = t then x else f k
theorem MAt.below {w w1 : World} {g : Nat} {ws : List Int} {nx : List Nat} {A : Nat → Option Addr} {C : Nat → Nat} {X : Nat → List Int} (h : MAt w g ws nx A C X) (hb : Below w.heap.size w w1) : MAt w1 g ws nx A C X := (hb.block _ (blk_lt h)).trans h
theorem MAt.cells {w : World} {g : Nat} {ws : List Int} {nx : List Nat} {A : Nat → Option Addr} {C : Nat → Nat} {X : Nat → List Int} (h : MAt w g ws nx A C X) :
    w.cell? ⟨g, 0, none⟩ = some (.int .i64 (wAt ws 0)) ∧ w.cell? ⟨g, 1, none⟩ = some (.int .i64 (wAt ws 1)) ∧ w.cell? ⟨g, 2, none⟩ = some (.int .i64 (wAt ws 2)) ∧ w.cell? ⟨g, 3, none⟩ = some (.int .i64 ((nAt nx 0 : Nat) : Int)) ∧ w.cell? ⟨g, 4, none⟩ = some (.int .i64 ((nAt nx 1 : Nat) : Int)) ∧ w.cell? ⟨g, 5, none⟩ = some (.int .i64 ((nAt nx 2 : Nat) : Int)) ∧ w.cell? ⟨g, 6, none⟩ = some (.slice (A 0) (X 0).length (C 0)) ∧ w.cell? ⟨g, 7, none⟩ = some (.slice (A 1) (X 1).length (C 1)) ∧ w.cell? ⟨g, 8, none⟩ = some (.slice (A 2) (X 2).length (C 2)) := by
  have c := fun i => Go.Lib.cell_of_heap h i
  exact ⟨(c 0).trans rfl, (c 1).trans rfl, (c 2).trans rfl, (c 3).trans rfl, (c 4).trans rfl, (c 5).trans rfl, (c 6).trans rfl, (c 7).trans rfl, (c 8).trans rfl⟩
theorem lt3 {t : Nat} (h : t < 3) : t = 0 ∨ t = 1 ∨ t = 2 := by omega
theorem MAt.word {w : World} {g : Nat} {ws : List Int} {nx : List Nat} {A : Nat → Option Addr} {C : Nat → Nat} {X : Nat → List Int} (h : MAt w g ws nx A C X) {l : Nat} (hl : l < 3) : w.cell? ⟨g, l, none⟩ = some (.int .i64 (wAt ws l)) ∧ w.frozen? ⟨g, l, none⟩ = false := by
  obtain ⟨c0, c1, c2, _⟩ := h.cells
  refine ⟨?_, blk_frozen h l⟩
  rcases lt3 hl with rfl | rfl | rfl <;> assumption
theorem MAt.next {w : World} {g : Nat} {ws : List Int} {nx : List Nat} {A : Nat → Option Addr} {C : Nat → Nat} {X : Nat → List Int} (h : MAt w g ws nx A C X) {t : Nat} (ht : t < 3) : w.cell? ⟨g, 3 + t, none⟩ = some (.int .i64 ((nAt nx t : Nat) : Int)) ∧ w.frozen? ⟨g, 3 + t, none⟩ = false := by
  obtain ⟨_, _, _, c0, c1, c2, _⟩ := h.cells
  refine ⟨?_, blk_frozen h _⟩
  rcases lt3 ht with rfl | rfl | rfl <;> assumption
theorem MAt.row {w : World} {g : Nat} {ws : List Int} {nx : List Nat} {A : Nat → Option Addr} {C : Nat → Nat} {X : Nat → List Int} (h : MAt w g ws nx A C X) {t : Nat} (ht : t < 3) : w.cell? ⟨g, 6 + t, none⟩ = some (.slice (A t) (X t).length (C t)) ∧ w.frozen? ⟨g, 6 + t, none⟩ = false := by
  obtain ⟨_, _, _, _, _, _, c0, c1, c2⟩ := h.cells
  refine ⟨?_, blk_frozen h _⟩
  rcases lt3 ht with rfl | rfl | rfl <;> assumption
theorem MAt.setW {w : World} {g : Nat} {ws : List Int} {nx : List Nat} {A : Nat → Option Addr} {C : Nat → Nat} {X : Nat → List Int} (h : MAt w g ws nx A C X) (hw : ws.length = 3) {l : Nat} (hl : l < 3) (v : Int) : MAt (w.setCell ⟨g, l, none⟩ (.int .i64 v)) g (ws.set l v) nx A C X := by
  refine (blk_set h l (.int .i64 v)).trans ?_
  match ws, hw with
  | [a, b, c], _ => rcases lt3 hl with rfl | rfl | rfl <;> rfl
theorem MAt.setN {w : World} {g : Nat} {ws : List Int} {nx : List Nat} {A : Nat → Option Addr} {C : Nat → Nat} {X : Nat → List Int} (h : MAt w g ws nx A C X) (hw : nx.length = 3) {t : Nat} (ht : t < 3) (v : Nat) : MAt (w.setCell ⟨g, 3 + t, none⟩ (.int .i64 (v : Int))) g ws (nx.set t v) A C X := by
  refine (blk_set h (3 + t) (.int .i64 (v : Int))).trans ?_
  match nx, hw with
  | [a, b, c], _ => rcases lt3 ht with rfl | rfl | rfl <;> rfl
theorem MAt.setN1 {w : World} {g : Nat} {ws : List Int} {nx : List Nat} {A : Nat → Option Addr} {C : Nat → Nat} {X : Nat → List Int} (h : MAt w g ws nx A C X) (hw : nx.length = 3) {t : Nat} (ht : t < 3) (v : Nat) : MAt (w.setCell ⟨g, 3 + t, none⟩ (.int .i64 ((v : Int) + 1))) g ws (nx.set t (v + 1)) A C X := by
  rw [show (v : Int) + 1 = ((v + 1 : Nat) : Int) by omega]
  exact h.setN hw ht (v + 1)
theorem MAt.setS {w : World} {g : Nat} {ws : List Int} {nx : List Nat} {A : Nat → Option Addr} {C : Nat → Nat} {X : Nat → List Int} (h : MAt w g ws nx A C X) {t : Nat} (ht : t < 3) (a : Option Addr) (x : List Int) (c : Nat) : MAt (w.setCell ⟨g, 6 + t, none⟩ (.slice a x.length c)) g ws nx (upd A t a) (upd C t c) (upd X t x) := by
  refine (blk_set h (6 + t) (.slice a x.length c)).trans ?_
  rcases lt3 ht with rfl | rfl | rfl <;> rfl
/-- The rows that were read. -/
def RMs (w : World) (base : Nat) (A : Nat → Option Addr) (C : Nat → Nat) (X : Nat → List Int) : Prop := ∀ k, k < 3 → Kd.R (Kd.int .i64) 3 w base (fun _ => True) (.slice (A k) (X k).length (C k)) (X k)
theorem RMs.below {w w1 : World} {base : Nat} {A : Nat → Option Addr} {C : Nat → Nat} {X : Nat → List Int} (h : RMs w base A C X) (hb : Below w.heap.size w w1) : RMs w1 base A C X := fun k hk => Kd.R_below (h k hk) hb
theorem RMs.set {w : World} {base g j : Nat} {ws : List Int} {nx : List Nat} {A A' : Nat → Option Addr} {C C' : Nat → Nat} {X X' : Nat → List Int} (h : RMs w base A C X) (hm : MAt w g ws nx A' C' X') (u : Value) : RMs (w.setCell ⟨g, j, none⟩ u) base A C X := fun k hk => Kd.R_set (h k hk) hm (by intro q hq; have e : q = 3 := (by simpa [Kd.int, Kd.scalar] using hq); subst e; decide) j u
theorem RMs.upd {w : World} {base : Nat} {A : Nat → Option Addr} {C : Nat → Nat} {X : Nat → List Int} (h : RMs w base A C X) {t : Nat} {a : Option Addr} {c : Nat} {x : List Int} (hx : Kd.R (Kd.int .i64) 3 w base (fun _ => True) (.slice a x.length c) x) : RMs w base (upd A t a) (upd C t c) (upd X t x) := by
  intro k hk
  unfold Li.upd
  by_cases e : k = t
  · rw [if_pos e, if_pos e, if_pos e]; exact hx
  · rw [if_neg e, if_neg e, if_neg e]; exact h k hk
/-- The points that a step can lead to: they differ in the words alone. -/
def Nexts (w : World) (v : Value) (b : Nat) (R : List (List Int)) (nx : List Nat) (A : Nat → Option Addr) (C : Nat → Nat) (X : Nat → List Int) : Prop :=
  ∃ g, v = .slice (some ⟨g, 0, none⟩) R.length R.length ∧ b ≤ g ∧ w.heap[g]? = some (.cells (R.flatMap (fun z => (memA z nx A C X).toList)).toArray 53 (0, 0))
def goesW (ws : List Int) (l : Nat) (k v u old : Int) : List (List Int) :=
  if k = 2 then [ws.set l (IntKind.i64.wrap (old + v))] else if k = 3 ∧ old = v then [ws.set l u] else if k = 4 ∧ old = v then [ws, ws.set l u] else [ws]
theorem goes_fence (ws : List Int) (nx : List Nat) (A : Nat → Option Addr) (C : Nat → Nat) (X : Nat → List Int) (t : Nat) (k l v u o : Int) (w : World) (hacc : accL ⟨k, l, v, u, o⟩ = false) (ht : t < 3) (hn : nx.length = 3) (hb : nAt nx t ≤ 1000000) :
    Calls Try.prog 37 #[.agg (memA ws nx A C X), .int .i64 t, .agg #[.int .i64 k, .int .i64 l, .int .i64 v, .int .i64 u, .int .i64 o]] w fun e w' => ∃ g, e = .returned (.slice (some ⟨g, 0, none⟩) 1 1) ∧ MAt w' g ws (nx.set t (nAt nx t + 1)) A C X ∧ w.heap.size ≤ g ∧ Below w.heap.size w w' := by
  have HACC := Aside0.mk hacc
  clear hacc
  have m1 : MAt (w.alloc (.cells (memA ws nx A C X) 53 (0, 0))) w.heap.size ws nx A C X := heap_alloc_new w _
  have b1 := al1 w (.cells (memA ws nx A C X) 53 (0, 0))
  have b2 := al1 (w.alloc (.cells (memA ws nx A C X) 53 (0, 0))) (.cells #[.int .i64 k, .int .i64 l, .int .i64 v, .int .i64 u, .int .i64 o] 44 (0, 0))
  have m2 := m1.below b2
  have B2 := Aside0.mk (btrans b1 b2)
  have n2 := heap_alloc_new (w.alloc (.cells (memA ws nx A C X) 53 (0, 0))) (.cells #[.int .i64 k, .int .i64 l, .int .i64 v, .int .i64 u, .int .i64 o] 44 (0, 0))
  have hs : (w.alloc (.cells (memA ws nx A C X) 53 (0, 0))).heap.size = w.heap.size + 1 := by show (w.heap.push _).size = _; rw [Array.size_push]
  rw [hs] at n2
  obtain ⟨cn, fn⟩ := m2.next ht
  have hwr : IntKind.i64.wrap ((nAt nx t : Int) + 1) = ((nAt nx t + 1 : Nat) : Int) := (IntWalk.i64_in _ (by omega)).trans (by omega)
  have hti : (t : Int) < 3 := by omega
  have HT := Aside0.mk ht
  have HN := Aside0.mk hn
  have HM2 := Aside0.mk m2
  have HN2 := Aside0.mk n2
  have HNT := Aside0.mk (show ∃ nt, nt = nAt nx t ∧ nt ≤ 1000000 from ⟨_, rfl, hb⟩)
  clear m1 m2 n2 b1 b2 hs hn ht hb
  generalize hnt : nAt nx t = nt at *
  have HNTE := Aside0.mk hnt
  clear hnt HNT
  go_enter Try.func37, Try.ntmps37
  go_upto_region 1 with (fail)
  (try simp only [Act.put, List.setIfInBounds_toArray, List.set_cons_zero, List.set_cons_succ])
  generalize (w.alloc (.cells (memA ws nx A C X) 53 (0, 0))).alloc (.cells #[.int .i64 k, .int .i64 l, .int .i64 v, .int .i64 u, .int .i64 o] 44 (0, 0)) = W0 at *
  have m3 := HM2.out.setN1 HN.out HT.out nt
  have n3 := (Below.heap_setCell W0 ⟨w.heap.size, 3 + t, none⟩ (.int .i64 ((nt : Int) + 1)) (w.heap.size + 1) (Nat.succ_ne_self _)).trans HN2.out
  have HM3 := Aside0.mk m3
  have HN3 := Aside0.mk n3
  have B3 := Aside0.mk (show Below w.heap.size w (W0.setCell ⟨w.heap.size, 3 + t, none⟩ (.int .i64 ((nt : Int) + 1))) from bset B2.out (Nat.le_refl _))
  have q := fun i => Go.Lib.cell_of_heap n3 i
  have q0 := (q 0).trans rfl
  have q1 := (q 1).trans rfl
  have q2 := (q 2).trans rfl
  have q3 := (q 3).trans rfl
  have q4 := (q 4).trans rfl
  simp only [List.getElem?_toArray, List.getElem?_cons_succ, List.getElem?_cons_zero] at q0 q1 q2 q3 q4
  clear m3 n3 q HM2 HN2
  go_wp2_with (first | (go_at_call 38; refine (access_calls ⟨k, l, v, u, o⟩ _).mono ?_; rintro e W2 ⟨rfl, hb⟩; rw [HACC.out]; have m4 := HM3.out.below hb; have HM4 := Aside0.mk m4; have n4 := (hb.block _ (blk_lt HN3.out)).trans HN3.out; have B4 := Aside0.mk (btrans B3.out hb); obtain ⟨p0, p1, p2, p3, p4, p5, p6, p7, p8⟩ := m4.cells; have q := fun i => Go.Lib.cell_of_heap n4 i; have q0 := (q 0).trans rfl; have q1 := (q 1).trans rfl; have q2 := (q 2).trans rfl; have q3 := (q 3).trans rfl; have q4 := (q 4).trans rfl; simp only [List.getElem?_toArray, List.getElem?_cons_succ, List.getElem?_cons_zero] at q0 q1 q2 q3 q4; clear q; clear hb m4 n4))
  go_ret
  exact ⟨W2.heap.size, rfl, heap_alloc_new W2 _, B4.out.size, btrans B4.out (al1 _ _)⟩
theorem clone_row {W : World} {base : Nat} {A : Option Addr} {c : Nat} {x : List Int} (h : Kd.R (Kd.int .i64) 3 W base (fun _ => True) (.slice A x.length c) x) (hl : x.length ≤ 100000) :
    Calls Try.prog 66 #[.slice A x.length c] W fun e w' => ∃ v, e = .returned v ∧ Kd.R (Kd.int .i64) 3 w' W.heap.size (fun _ => True) v x ∧ Below W.heap.size W w' := by
  have ho := Kd.own_of_R h
  rcases ho.2 with ⟨e, hn⟩ | ⟨g, cap, cur, e, hb, hh, hn, hc, hs, ht⟩
  · injection e with e1 e2 e3
    subst e1
    have hx : x = [] := List.eq_nil_of_length_eq_zero hn
    subst hx
    refine (Try.slices_Clone_int_nil _ c W).mono ?_
    rintro e w' ⟨rfl, hw⟩
    rw [hw]
    exact ⟨_, rfl, Kd.R_nil _ _ _ _ _, Below.refl _ _⟩
  · injection e with e1 e2 e3
    subst e1
    by_cases h0 : x.length = 0
    · have hx : x = [] := List.eq_nil_of_length_eq_zero h0
      subst hx
      refine (Try.slices_Clone_int_zero ⟨g, 0, none⟩ c W).mono ?_
      rintro e w' ⟨v', rfl, hr, _, hb⟩
      exact ⟨v', rfl, Kd.R_of_own (h1 := fun _ => rfl) (xs := ([] : List Int)) hr (fun _ _ => trivial), hb⟩
    · have hcc : ∀ j, j < x.length → W.cell? ⟨g, 0 + j, none⟩ = some (.int .i64 (x.getD j 0)) := fun j hj => by
        subst e3
        have := (Kd.R_cell (0 : Int) h j (by omega) (by omega)).1
        rw [Nat.zero_add]
        simpa [rdOf] using this
      refine (Try.slices_Clone_int g 0 x.length c x W (Nat.le_refl _) (by omega) hcc).mono ?_
      rintro e w' ⟨v', rfl, hr, _, hb⟩
      rw [List.take_length] at hr
      exact ⟨v', rfl, Kd.R_of_own (h1 := fun _ => rfl) hr (fun _ _ => trivial), hb⟩
theorem goes_read (ws : List Int) (nx : List Nat) (A : Nat → Option Addr) (C : Nat → Nat) (X : Nat → List Int) (t l : Nat) (k v u o old : Int) (w : World) (base : Nat) (hacc : accL ⟨k, l, v, u, o⟩ = true) (hrd : rdL ⟨k, l, v, u, o⟩ = true) (ht : t < 3) (hl : l < 3) (hn : nx.length = 3) (hw : ws.length = 3) (hb : nAt nx t ≤ 1000000) (hold : wAt ws l = old) (hR : RMs w base A C X) (hbase : base ≤ w.heap.size) (hx : ∀ k, k < 3 → (X k).length ≤ 100000) :
    Calls Try.prog 37 #[.agg (memA ws nx A C X), .int .i64 t, .agg #[.int .i64 k, .int .i64 l, .int .i64 v, .int .i64 u, .int .i64 o]] w fun e w' => ∃ v' A1 C1, e = .returned v' ∧ Nexts w' v' w.heap.size (goesW ws l k v u old) (nx.set t (nAt nx t + 1)) (upd A t A1) (upd C t C1) (upd X t (X t ++ [old])) ∧ RMs w' base (upd A t A1) (upd C t C1) (upd X t (X t ++ [old])) ∧ Below w.heap.size w w' := by
  have HACC := Aside0.mk hacc
  have HRDL := Aside0.mk hrd
  have HL := Aside0.mk hl
  have HW := Aside0.mk hw
  have HRT := Aside0.mk (hR t ht)
  have HRM := Aside0.mk hR
  have HXL := Aside0.mk (hx t ht)
  have hli : (l : Int) < 3 := by omega
  obtain ⟨y, hy⟩ : ∃ y, y = X t ++ [old] := ⟨_, rfl⟩
  have HY := Aside0.mk hy
  have hlim : ((X t).length + 1) * 8 ≤ 140737488355328 := by have := hx t ht; omega
  have HLIM := Aside0.mk hlim
  obtain ⟨GR, hGR⟩ : ∃ GR, GR = goesW ws l k v u old := ⟨_, rfl⟩
  rw [← hGR]
  have HGR := Aside0.mk hGR
  clear hGR
  have HOLD := Aside0.mk hold
  have HBS := Aside0.mk hbase
  rw [← hy]
  clear hacc hrd hbase hl hw hR hx hy hlim hold
  have m1 : MAt (w.alloc (.cells (memA ws nx A C X) 53 (0, 0))) w.heap.size ws nx A C X := heap_alloc_new w _
  have b1 := al1 w (.cells (memA ws nx A C X) 53 (0, 0))
  have b2 := al1 (w.alloc (.cells (memA ws nx A C X) 53 (0, 0))) (.cells #[.int .i64 k, .int .i64 (l : Int), .int .i64 v, .int .i64 u, .int .i64 o] 44 (0, 0))
  have m2 := m1.below b2
  have B2 := Aside0.mk (btrans b1 b2)
  have n2 := heap_alloc_new (w.alloc (.cells (memA ws nx A C X) 53 (0, 0))) (.cells #[.int .i64 k, .int .i64 (l : Int), .int .i64 v, .int .i64 u, .int .i64 o] 44 (0, 0))
  have hs : (w.alloc (.cells (memA ws nx A C X) 53 (0, 0))).heap.size = w.heap.size + 1 := by show (w.heap.push _).size = _; rw [Array.size_push]
  rw [hs] at n2
  obtain ⟨cn, fn⟩ := m2.next ht
  have hwr : IntKind.i64.wrap ((nAt nx t : Int) + 1) = ((nAt nx t + 1 : Nat) : Int) := (IntWalk.i64_in _ (by omega)).trans (by omega)
  have hti : (t : Int) < 3 := by omega
  have HT := Aside0.mk ht
  have HN := Aside0.mk hn
  have HM2 := Aside0.mk m2
  have HN2 := Aside0.mk n2
  have HNT := Aside0.mk (show ∃ nt, nt = nAt nx t ∧ nt ≤ 1000000 from ⟨_, rfl, hb⟩)
  clear m1 m2 n2 b1 b2 hs hn ht hb
  generalize hnt : nAt nx t = nt at *
  have HNTE := Aside0.mk hnt
  clear hnt HNT
  go_enter Try.func37, Try.ntmps37
  go_upto_region 1 with (fail)
  (try simp only [Act.put, List.setIfInBounds_toArray, List.set_cons_zero, List.set_cons_succ])
  generalize (w.alloc (.cells (memA ws nx A C X) 53 (0, 0))).alloc (.cells #[.int .i64 k, .int .i64 (l : Int), .int .i64 v, .int .i64 u, .int .i64 o] 44 (0, 0)) = W0 at *
  have m3 := HM2.out.setN1 HN.out HT.out nt
  have n3 := (Below.heap_setCell W0 ⟨w.heap.size, 3 + t, none⟩ (.int .i64 ((nt : Int) + 1)) (w.heap.size + 1) (Nat.succ_ne_self _)).trans HN2.out
  have HM3 := Aside0.mk m3
  have HN3 := Aside0.mk n3
  have B3 := Aside0.mk (show Below w.heap.size w (W0.setCell ⟨w.heap.size, 3 + t, none⟩ (.int .i64 ((nt : Int) + 1))) from bset B2.out (Nat.le_refl _))
  have q := fun i => Go.Lib.cell_of_heap n3 i
  have q0 := (q 0).trans rfl
  have q1 := (q 1).trans rfl
  have q2 := (q 2).trans rfl
  have q3 := (q 3).trans rfl
  have q4 := (q 4).trans rfl
  simp only [List.getElem?_toArray, List.getElem?_cons_succ, List.getElem?_cons_zero] at q0 q1 q2 q3 q4
  clear m3 n3 q HM2 HN2
  go_upto_region 8 with (first | (go_at_call 38; refine (access_calls ⟨k, (l : Int), v, u, o⟩ _).mono ?_; rintro e W2 ⟨rfl, hb⟩; rw [HACC.out]; have m4 := HM3.out.below hb; have HM3 := Aside0.mk m4; have n4 := (hb.block _ (blk_lt HN3.out)).trans HN3.out; have HN3 := Aside0.mk n4; have B3 := Aside0.mk (btrans B3.out hb); obtain ⟨pl, fl⟩ := m4.word HL.out; rw [HOLD.out] at pl; obtain ⟨p0, p1, p2, p3, p4, p5, p6, p7, p8⟩ := m4.cells; have q := fun i => Go.Lib.cell_of_heap n4 i; have q0 := (q 0).trans rfl; have q1 := (q 1).trans rfl; have q2 := (q 2).trans rfl; have q3 := (q 3).trans rfl; have q4 := (q 4).trans rfl; simp only [List.getElem?_toArray, List.getElem?_cons_succ, List.getElem?_cons_zero] at q0 q1 q2 q3 q4; clear q; clear hb m4 n4) | (go_at_call 30; refine (reads_calls ⟨k, (l : Int), v, u, o⟩ _).mono ?_; rintro e W3 ⟨rfl, hb⟩; rw [HRDL.out]; have m4 := HM3.out.below hb; have HM3 := Aside0.mk m4; have n4 := (hb.block _ (blk_lt HN3.out)).trans HN3.out; have HN3 := Aside0.mk n4; have B3 := Aside0.mk (btrans B3.out hb); obtain ⟨pl, fl⟩ := m4.word HL.out; rw [HOLD.out] at pl; obtain ⟨pr, fr⟩ := m4.row HT.out; obtain ⟨p0, p1, p2, p3, p4, p5, p6, p7, p8⟩ := m4.cells; have q := fun i => Go.Lib.cell_of_heap n4 i; have q0 := (q 0).trans rfl; have q1 := (q 1).trans rfl; have q2 := (q 2).trans rfl; have q3 := (q 3).trans rfl; have q4 := (q 4).trans rfl; simp only [List.getElem?_toArray, List.getElem?_cons_succ, List.getElem?_cons_zero] at q0 q1 q2 q3 q4; clear q; clear hb m4 n4) | (go_at_call 66; refine (clone_row (Kd.R_below HRT.out B3.out) HXL.out).mono ?_; rintro e W4 ⟨v4, rfl, ho, hb⟩; have HO4 := Aside0.mk ho; have HB4 := Aside0.mk hb; clear ho hb) | ((with_reducible refine gate_builtin (b := .append) (xs := #[.tmp 33, .tmp 35]) rfl ?_); at_builtin; refine Kd.R_append (Kd.int .i64) (w0 := W3) W3.heap.size rfl (.tmp 33) (.tmp 35) 46 3 (.int .i64 0) 8 rfl Try.underlying46 info3 rfl (by decide) (by omega) v4 (X t) old [.int .i64 old] (fun _ => True) (fun _ => False) rfl rfl rfl (fun _ hk => hk.elim) (fun _ _ => trivial) HO4.out HB4.out HB4.out.size HLIM.out ?_; intro v5 W5 ho hb hg hat; rw [← HY.out] at ho; obtain ⟨A5, c5, rfl⟩ := Kd.R_slice ho; have HO5 := Aside0.mk ho; have HB5 := Aside0.mk hb; have m4 := HM3.out.below hb; obtain ⟨pr, fr⟩ := m4.row HT.out; have m6 := m4.setS HT.out A5 y c5; have n6 := (Below.heap_setCell W5 ⟨w.heap.size, 6 + t, none⟩ (.slice A5 y.length c5) (w.heap.size + 1) (Nat.succ_ne_self _)).trans ((hb.block _ (blk_lt HN3.out)).trans HN3.out); have HM6 := Aside0.mk m6; have HN6 := Aside0.mk n6; have B6 := Aside0.mk (bset (j := 6 + t) (v := .slice A5 y.length c5) (btrans B3.out hb) (Nat.le_refl _)); obtain ⟨p0, p1, p2, p3, p4, p5, p6, p7, p8⟩ := m6.cells; clear ho hb hg hat m4 m6 n6))
  (try simp only [Act.put, List.setIfInBounds_toArray, List.set_cons_zero, List.set_cons_succ])
  have m7 := HM6.out.below (al1 (W5.setCell ⟨w.heap.size, 6 + t, none⟩ (.slice A5 y.length c5)) (.cells (memA ws (nx.set t (nt + 1)) (upd A t A5) (upd C t c5) (upd X t y)) 53 (0, 0)))
  have n7 := ((al1 (W5.setCell ⟨w.heap.size, 6 + t, none⟩ (.slice A5 y.length c5)) (.cells (memA ws (nx.set t (nt + 1)) (upd A t A5) (upd C t c5) (upd X t y)) 53 (0, 0))).block _ (blk_lt HN6.out)).trans HN6.out
  have B7 := Aside0.mk (btrans B6.out (al1 (W5.setCell ⟨w.heap.size, 6 + t, none⟩ (.slice A5 y.length c5)) (.cells (memA ws (nx.set t (nt + 1)) (upd A t A5) (upd C t c5) (upd X t y)) 53 (0, 0))))
  have hs5 : (W5.setCell ⟨w.heap.size, 6 + t, none⟩ (.slice A5 y.length c5)).heap.size = W5.heap.size := by simp [World.setCell]
  have l7 : MAt ((W5.setCell ⟨w.heap.size, 6 + t, none⟩ (.slice A5 y.length c5)).alloc (.cells (memA ws (nx.set t (nt + 1)) (upd A t A5) (upd C t c5) (upd X t y)) 53 (0, 0))) W5.heap.size ws (nx.set t (nt + 1)) (upd A t A5) (upd C t c5) (upd X t y) := by rw [← hs5]; exact heap_alloc_new _ _
  have r5 : RMs W5 base (upd A t A5) (upd C t c5) (upd X t y) := RMs.upd (HRM.out.below (btrans B3.out (Below.mono HB5.out (Nat.le_refl _)))) (Kd.R_lower HO5.out (Nat.le_trans HBS.out B3.out.size))
  have r7 := (RMs.set (j := 6 + t) r5 (HM3.out.below HB5.out) (.slice A5 y.length c5)).below (al1 (W5.setCell ⟨w.heap.size, 6 + t, none⟩ (.slice A5 y.length c5)) (.cells (memA ws (nx.set t (nt + 1)) (upd A t A5) (upd C t c5) (upd X t y)) 53 (0, 0)))
  have hgl : W5.heap.size ≠ w.heap.size := by have := blk_lt HM3.out; have := HB5.out.size; omega
  generalize (W5.setCell ⟨w.heap.size, 6 + t, none⟩ (.slice A5 y.length c5)).alloc (.cells (memA ws (nx.set t (nt + 1)) (upd A t A5) (upd C t c5) (upd X t y)) 53 (0, 0)) = W7 at *
  generalize W5.heap.size = gl at *
  have q := fun i => Go.Lib.cell_of_heap n7 i
  have q0 := (q 0).trans rfl
  have q1 := (q 1).trans rfl
  have q2 := (q 2).trans rfl
  have q3 := (q 3).trans rfl
  simp only [List.getElem?_toArray, List.getElem?_cons_succ, List.getElem?_cons_zero] at q0 q1 q2 q3
  have M7 := Aside0.mk m7
  have L7 := Aside0.mk l7
  have R7 := Aside0.mk r7
  have HGL := Aside0.mk hgl
  obtain ⟨pl, fl⟩ := m7.word HL.out
  rw [HOLD.out] at pl
  have N7 := Aside0.mk n7
  clear q n7 m7 l7 r7 r5 hs5 hgl p0 p1 p2 p3 p4 p5 p6 p7 p8
  have hk : k = 0 ∨ k = 2 ∨ k = 3 ∨ k = 4 := by
    have h := HRDL.out
    unfold rdL accL at h
    simp at h
    omega
  rcases hk with rfl | rfl | rfl | rfl
  · have hgr := HGR.out.trans (show goesW ws l 0 v u old = [ws] from rfl)
    have HG2 := Aside0.mk hgr
    clear hgr
    obtain ⟨p0, p1, p2, p3, p4, p5, p6, p7, p8⟩ := M7.out.cells
    go_wp2
    go_ret
    rw [HG2.out]
    refine ⟨_, A5, c5, rfl, ⟨W7.heap.size, rfl, B7.out.size, heap_alloc_new W7 _⟩, R7.out.below (al1 W7 _), btrans B7.out (al1 W7 _)⟩
  · have hgr := HGR.out.trans (show goesW ws l 2 v u old = [ws.set l (wrap64 (old + v))] from by unfold goesW; rw [if_pos rfl, i64_w])
    have HG2 := Aside0.mk hgr
    clear hgr
    have m8 := M7.out.setW HW.out HL.out (wrap64 (old + v))
    have R8 := Aside0.mk (RMs.set (j := l) R7.out M7.out (.int .i64 (wrap64 (old + v))))
    have B8 := Aside0.mk (bset (j := l) (v := .int .i64 (wrap64 (old + v))) B7.out (Nat.le_refl _))
    have n8 := fun i => Go.Lib.cell_of_heap ((Below.heap_setCell W7 ⟨w.heap.size, l, none⟩ (.int .i64 (wrap64 (old + v))) (w.heap.size + 1) (Nat.succ_ne_self _)).trans N7.out) i
    have s0 := (n8 0).trans rfl
    simp only [List.getElem?_toArray, List.getElem?_cons_succ, List.getElem?_cons_zero] at s0
    obtain ⟨p0, p1, p2, p3, p4, p5, p6, p7, p8⟩ := m8.cells
    clear m8 n8
    go_wp2
    go_ret
    rw [HG2.out]
    refine ⟨_, A5, c5, rfl, ⟨W7.heap.size, rfl, B7.out.size, by rw [← (show (W7.setCell ⟨w.heap.size, l, none⟩ (.int .i64 (wrap64 (old + v)))).heap.size = W7.heap.size by simp [World.setCell])]; exact heap_alloc_new (W7.setCell ⟨w.heap.size, l, none⟩ (.int .i64 (wrap64 (old + v)))) _⟩, R8.out.below (al1 (W7.setCell ⟨w.heap.size, l, none⟩ (.int .i64 (wrap64 (old + v)))) _), btrans B8.out (al1 (W7.setCell ⟨w.heap.size, l, none⟩ (.int .i64 (wrap64 (old + v)))) _)⟩
  · by_cases e : old = v
    · subst e
      have hgr := HGR.out.trans (show goesW ws l 3 old u old = [ws.set l u] from by unfold goesW; simp)
      have HG2 := Aside0.mk hgr
      clear hgr
      have m8 := M7.out.setW HW.out HL.out (u)
      have R8 := Aside0.mk (RMs.set (j := l) R7.out M7.out (.int .i64 (u)))
      have B8 := Aside0.mk (bset (j := l) (v := .int .i64 (u)) B7.out (Nat.le_refl _))
      have n8 := fun i => Go.Lib.cell_of_heap ((Below.heap_setCell W7 ⟨w.heap.size, l, none⟩ (.int .i64 (u)) (w.heap.size + 1) (Nat.succ_ne_self _)).trans N7.out) i
      have s0 := (n8 0).trans rfl
      simp only [List.getElem?_toArray, List.getElem?_cons_succ, List.getElem?_cons_zero] at s0
      obtain ⟨p0, p1, p2, p3, p4, p5, p6, p7, p8⟩ := m8.cells
      clear m8 n8
      go_wp2
      go_ret
      rw [HG2.out]
      refine ⟨_, A5, c5, rfl, ⟨W7.heap.size, rfl, B7.out.size, by rw [← (show (W7.setCell ⟨w.heap.size, l, none⟩ (.int .i64 (u))).heap.size = W7.heap.size by simp [World.setCell])]; exact heap_alloc_new (W7.setCell ⟨w.heap.size, l, none⟩ (.int .i64 (u))) _⟩, R8.out.below (al1 (W7.setCell ⟨w.heap.size, l, none⟩ (.int .i64 (u))) _), btrans B8.out (al1 (W7.setCell ⟨w.heap.size, l, none⟩ (.int .i64 (u))) _)⟩
    · have hgr := HGR.out.trans (show goesW ws l 3 v u old = [ws] from by unfold goesW; simp [e])
      have HG2 := Aside0.mk hgr
      clear hgr
      have e0 : (old == v) = false := by simp; exact e
      obtain ⟨p0, p1, p2, p3, p4, p5, p6, p7, p8⟩ := M7.out.cells
      go_wp2
      go_ret
      rw [HG2.out]
      refine ⟨_, A5, c5, rfl, ⟨(W7).heap.size, rfl, B7.out.size, heap_alloc_new (W7) _⟩, R7.out.below (al1 (W7) _), btrans B7.out (al1 (W7) _)⟩
  · by_cases e : old = v
    · subst e
      have hgr := HGR.out.trans (show goesW ws l 4 old u old = [ws, ws.set l u] from by unfold goesW; simp)
      have HG2 := Aside0.mk hgr
      clear hgr
      have m8 := M7.out.setW HW.out HL.out (u)
      have R8 := Aside0.mk (RMs.set (j := l) R7.out M7.out (.int .i64 (u)))
      have B8 := Aside0.mk (bset (j := l) (v := .int .i64 (u)) B7.out (Nat.le_refl _))
      have n8 := fun i => Go.Lib.cell_of_heap ((Below.heap_setCell W7 ⟨w.heap.size, l, none⟩ (.int .i64 (u)) (w.heap.size + 1) (Nat.succ_ne_self _)).trans N7.out) i
      have s0 := (n8 0).trans rfl
      simp only [List.getElem?_toArray, List.getElem?_cons_succ, List.getElem?_cons_zero] at s0
      obtain ⟨p0, p1, p2, p3, p4, p5, p6, p7, p8⟩ := m8.cells
      have l8 : MAt (W7.setCell ⟨w.heap.size, l, none⟩ (.int .i64 (u))) gl ws _ _ _ _ := (Below.heap_setCell W7 ⟨w.heap.size, l, none⟩ (.int .i64 (u)) gl HGL.out).trans L7.out
      obtain ⟨a0, a1, a2, a3, a4, a5, a6, a7, a8⟩ := l8.cells
      clear l8
      clear m8 n8
      go_wp2
      go_ret
      rw [HG2.out]
      refine ⟨_, A5, c5, rfl, ⟨W7.heap.size, rfl, B7.out.size, by rw [← (show (W7.setCell ⟨w.heap.size, l, none⟩ (.int .i64 (u))).heap.size = W7.heap.size by simp [World.setCell])]; exact heap_alloc_new (W7.setCell ⟨w.heap.size, l, none⟩ (.int .i64 (u))) _⟩, R8.out.below (al1 (W7.setCell ⟨w.heap.size, l, none⟩ (.int .i64 (u))) _), btrans B8.out (al1 (W7.setCell ⟨w.heap.size, l, none⟩ (.int .i64 (u))) _)⟩
    · have hgr := HGR.out.trans (show goesW ws l 4 v u old = [ws] from by unfold goesW; simp [e])
      have HG2 := Aside0.mk hgr
      clear hgr
      have e0 : (old == v) = false := by simp; exact e
      obtain ⟨p0, p1, p2, p3, p4, p5, p6, p7, p8⟩ := M7.out.cells
      go_wp2
      go_ret
      rw [HG2.out]
      refine ⟨_, A5, c5, rfl, ⟨(W7).heap.size, rfl, B7.out.size, heap_alloc_new (W7) _⟩, R7.out.below (al1 (W7) _), btrans B7.out (al1 (W7) _)⟩
theorem goes_store (ws : List Int) (nx : List Nat) (A : Nat → Option Addr) (C : Nat → Nat) (X : Nat → List Int) (t l : Nat) (v u o : Int) (w : World) (base : Nat) (ht : t < 3) (hl : l < 3) (hn : nx.length = 3) (hw : ws.length = 3) (hb : nAt nx t ≤ 1000000) (hR : RMs w base A C X) (hbase : base ≤ w.heap.size) (hx : ∀ k, k < 3 → (X k).length ≤ 100000) :
    Calls Try.prog 37 #[.agg (memA ws nx A C X), .int .i64 t, .agg #[.int .i64 1, .int .i64 l, .int .i64 v, .int .i64 u, .int .i64 o]] w fun e w' => ∃ v', e = .returned v' ∧ Nexts w' v' w.heap.size [ws.set l v] (nx.set t (nAt nx t + 1)) A C X ∧ RMs w' base A C X ∧ Below w.heap.size w w' := by
  have HACC := Aside0.mk (show accL ⟨1, (l : Int), v, u, o⟩ = true from rfl)
  have HRDL := Aside0.mk (show rdL ⟨1, (l : Int), v, u, o⟩ = false from rfl)
  have HL := Aside0.mk hl
  have HW := Aside0.mk hw
  have HRM := Aside0.mk hR
  have hli : (l : Int) < 3 := by omega
  clear hl hw hR
  have m1 : MAt (w.alloc (.cells (memA ws nx A C X) 53 (0, 0))) w.heap.size ws nx A C X := heap_alloc_new w _
  have b1 := al1 w (.cells (memA ws nx A C X) 53 (0, 0))
  have b2 := al1 (w.alloc (.cells (memA ws nx A C X) 53 (0, 0))) (.cells #[.int .i64 1, .int .i64 (l : Int), .int .i64 v, .int .i64 u, .int .i64 o] 44 (0, 0))
  have m2 := m1.below b2
  have B2 := Aside0.mk (btrans b1 b2)
  have n2 := heap_alloc_new (w.alloc (.cells (memA ws nx A C X) 53 (0, 0))) (.cells #[.int .i64 1, .int .i64 (l : Int), .int .i64 v, .int .i64 u, .int .i64 o] 44 (0, 0))
  have hs : (w.alloc (.cells (memA ws nx A C X) 53 (0, 0))).heap.size = w.heap.size + 1 := by show (w.heap.push _).size = _; rw [Array.size_push]
  rw [hs] at n2
  obtain ⟨cn, fn⟩ := m2.next ht
  have hwr : IntKind.i64.wrap ((nAt nx t : Int) + 1) = ((nAt nx t + 1 : Nat) : Int) := (IntWalk.i64_in _ (by omega)).trans (by omega)
  have hti : (t : Int) < 3 := by omega
  have HT := Aside0.mk ht
  have HN := Aside0.mk hn
  have HM2 := Aside0.mk m2
  have HN2 := Aside0.mk n2
  have HNT := Aside0.mk (show ∃ nt, nt = nAt nx t ∧ nt ≤ 1000000 from ⟨_, rfl, hb⟩)
  clear m1 m2 n2 b1 b2 hs hn ht hb
  generalize hnt : nAt nx t = nt at *
  have HNTE := Aside0.mk hnt
  clear hnt HNT
  go_enter Try.func37, Try.ntmps37
  go_upto_region 1 with (fail)
  (try simp only [Act.put, List.setIfInBounds_toArray, List.set_cons_zero, List.set_cons_succ])
  generalize (w.alloc (.cells (memA ws nx A C X) 53 (0, 0))).alloc (.cells #[.int .i64 1, .int .i64 (l : Int), .int .i64 v, .int .i64 u, .int .i64 o] 44 (0, 0)) = W0 at *
  have m3 := HM2.out.setN1 HN.out HT.out nt
  have n3 := (Below.heap_setCell W0 ⟨w.heap.size, 3 + t, none⟩ (.int .i64 ((nt : Int) + 1)) (w.heap.size + 1) (Nat.succ_ne_self _)).trans HN2.out
  have HM3 := Aside0.mk m3
  have HN3 := Aside0.mk n3
  have B3 := Aside0.mk (show Below w.heap.size w (W0.setCell ⟨w.heap.size, 3 + t, none⟩ (.int .i64 ((nt : Int) + 1))) from bset B2.out (Nat.le_refl _))
  have q := fun i => Go.Lib.cell_of_heap n3 i
  have q0 := (q 0).trans rfl
  have q1 := (q 1).trans rfl
  have q2 := (q 2).trans rfl
  have q3 := (q 3).trans rfl
  have q4 := (q 4).trans rfl
  simp only [List.getElem?_toArray, List.getElem?_cons_succ, List.getElem?_cons_zero] at q0 q1 q2 q3 q4
  clear m3 n3 q HM2 HN2
  go_upto_region 8 with (first | (go_at_call 38; refine (access_calls ⟨1, (l : Int), v, u, o⟩ _).mono ?_; rintro e W2 ⟨rfl, hb⟩; rw [HACC.out]; have m4 := HM3.out.below hb; have HM3 := Aside0.mk m4; have n4 := (hb.block _ (blk_lt HN3.out)).trans HN3.out; have HN3 := Aside0.mk n4; have B3 := Aside0.mk (btrans B3.out hb); obtain ⟨pl, fl⟩ := m4.word HL.out; obtain ⟨p0, p1, p2, p3, p4, p5, p6, p7, p8⟩ := m4.cells; have q := fun i => Go.Lib.cell_of_heap n4 i; have q0 := (q 0).trans rfl; have q1 := (q 1).trans rfl; have q2 := (q 2).trans rfl; have q3 := (q 3).trans rfl; have q4 := (q 4).trans rfl; simp only [List.getElem?_toArray, List.getElem?_cons_succ, List.getElem?_cons_zero] at q0 q1 q2 q3 q4; clear q; clear hb m4 n4) | (go_at_call 30; refine (reads_calls ⟨1, (l : Int), v, u, o⟩ _).mono ?_; rintro e W3 ⟨rfl, hb⟩; rw [HRDL.out]; have m4 := HM3.out.below hb; have HM3 := Aside0.mk m4; have n4 := (hb.block _ (blk_lt HN3.out)).trans HN3.out; have HN3 := Aside0.mk n4; have B3 := Aside0.mk (btrans B3.out hb); obtain ⟨pl, fl⟩ := m4.word HL.out; obtain ⟨pr, fr⟩ := m4.row HT.out; obtain ⟨p0, p1, p2, p3, p4, p5, p6, p7, p8⟩ := m4.cells; have q := fun i => Go.Lib.cell_of_heap n4 i; have q0 := (q 0).trans rfl; have q1 := (q 1).trans rfl; have q2 := (q 2).trans rfl; have q3 := (q 3).trans rfl; have q4 := (q 4).trans rfl; simp only [List.getElem?_toArray, List.getElem?_cons_succ, List.getElem?_cons_zero] at q0 q1 q2 q3 q4; clear q; clear hb m4 n4))
  (try simp only [Act.put, List.setIfInBounds_toArray, List.set_cons_zero, List.set_cons_succ])
  have m7 := HM3.out.below (al1 W3 (.cells (memA ws (nx.set t (nt + 1)) A C X) 53 (0, 0)))
  have n7 := ((al1 W3 (.cells (memA ws (nx.set t (nt + 1)) A C X) 53 (0, 0))).block _ (blk_lt HN3.out)).trans HN3.out
  have B7 := Aside0.mk (btrans B3.out (al1 W3 (.cells (memA ws (nx.set t (nt + 1)) A C X) 53 (0, 0))))
  have r7 := HRM.out.below B7.out
  generalize W3.alloc (.cells (memA ws (nx.set t (nt + 1)) A C X) 53 (0, 0)) = W7 at *
  have q := fun i => Go.Lib.cell_of_heap n7 i
  have q0 := (q 0).trans rfl
  have q1 := (q 1).trans rfl
  have q2 := (q 2).trans rfl
  simp only [List.getElem?_toArray, List.getElem?_cons_succ, List.getElem?_cons_zero] at q0 q1 q2
  obtain ⟨pl, fl⟩ := m7.word HL.out
  have m8 := m7.setW HW.out HL.out v
  have R8 := Aside0.mk (RMs.set (j := l) r7 m7 (.int .i64 v))
  have B8 := Aside0.mk (bset (j := l) (v := .int .i64 v) B7.out (Nat.le_refl _))
  clear p0 p1 p2 p3 p4 p5 p6 p7 p8
  obtain ⟨p0, p1, p2, p3, p4, p5, p6, p7, p8⟩ := m8.cells
  clear q n7 m7 r7 m8
  go_wp2
  go_ret
  refine ⟨_, rfl, ⟨W7.heap.size, rfl, B7.out.size, by rw [← (show (W7.setCell ⟨w.heap.size, l, none⟩ (.int .i64 v)).heap.size = W7.heap.size by simp [World.setCell])]; exact heap_alloc_new (W7.setCell ⟨w.heap.size, l, none⟩ (.int .i64 v)) _⟩, R8.out.below (al1 (W7.setCell ⟨w.heap.size, l, none⟩ (.int .i64 v)) _), btrans B8.out (al1 (W7.setCell ⟨w.heap.size, l, none⟩ (.int .i64 v)) _)⟩
end Go.Proofs.Ytgfbgbclpeihdaa.Li
