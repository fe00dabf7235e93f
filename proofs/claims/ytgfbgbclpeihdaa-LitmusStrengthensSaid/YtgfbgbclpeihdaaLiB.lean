/- Litmus: how a program lies in memory; whole blocks; litmus.limits, walked: plain lemmas; no condition. -/
import Derived.Test.YtgfbgbclpeihdaaLiA
import Derived.Test.YtgfbgbclpeihdaaShelf
import Derived.Deep.MidRow
namespace Go.Proofs.Ytgfbgbclpeihdaa.Li
open Go.RowKit Go.Proofs.YtgfbgbclpeihdaaW.PrintWords Go.Proofs.YtgfbgbclpeihdaaW.PrintLast Go.Proofs.YtgfbgbclpeihdaaW.PrintMore
set_option linter.unusedVariables false
set_option linter.unusedSimpArgs false
set_option maxHeartbeats 8000000
set_option maxRecDepth 100000
theorem add_field (ad : Addr) (m i : Nat) (hi : 0 < i) : ad.add (m + i) = ⟨(ad.add m).block, (ad.add m).off + i, none⟩ := by
  unfold Addr.add
  by_cases hm : m = 0
  · subst hm
    simp
    omega
  · simp [hm, Nat.add_assoc]
/-- Operations lie in memory. -/
def OAt (w : World) (A : Option Addr) (L : List LOp) : Prop := ∀ (j : Nat) (hj : j < L.length), ∃ ad, A = some ad ∧ w.cell? (ad.add (j * 5)) = some (.int .i64 (L[j]).k) ∧ w.cell? (ad.add (j * 5 + 1)) = some (.int .i64 (L[j]).l) ∧ w.cell? (ad.add (j * 5 + 2)) = some (.int .i64 (L[j]).v) ∧ w.cell? (ad.add (j * 5 + 3)) = some (.int .i64 (L[j]).w) ∧ w.cell? (ad.add (j * 5 + 4)) = some (.int .i64 (L[j]).o)
theorem OAt.below {w w1 : World} {A : Option Addr} {L : List LOp} (h : OAt w A L) (hb : Below w.heap.size w w1) : OAt w1 A L := by
  intro j hj
  obtain ⟨ad, e, h0, h1, h2, h3, h4⟩ := h j hj
  exact ⟨ad, e, (hb.cell (World.block_lt_of_cell? w _ h0)).trans h0, (hb.cell (World.block_lt_of_cell? w _ h1)).trans h1, (hb.cell (World.block_lt_of_cell? w _ h2)).trans h2, (hb.cell (World.block_lt_of_cell? w _ h3)).trans h3, (hb.cell (World.block_lt_of_cell? w _ h4)).trans h4⟩
/-- A program lies in memory. -/
def PAt (w : World) (A : Option Addr) (P : List (List LOp)) : Prop := ∀ (t : Nat) (ht : t < P.length), ∃ ad B c, A = some ad ∧ w.cell? (ad.add t) = some (.slice B (P[t]).length c) ∧ (P[t]).length ≤ c ∧ OAt w B (P[t])
theorem PAt.below {w w1 : World} {A : Option Addr} {P : List (List LOp)} (h : PAt w A P) (hb : Below w.heap.size w w1) : PAt w1 A P := by
  intro t ht
  obtain ⟨ad, B, c, e, h0, hc, h1⟩ := h t ht
  exact ⟨ad, B, c, e, (hb.cell (World.block_lt_of_cell? w _ h0)).trans h0, hc, h1.below hb⟩
/-- A whole struct is stored into its own block. -/
theorem wpList_store_whole {ops : Array Oper} {rest : List Oper} {op : Oper} {a : Act} {W : World} {Q : Exit → Act → World → Prop} (hgd : op.guard = none) (ty : TypeId) (x y : Operand) (ho : op.op = .store ty x y)
    (b : Nat) (cells old : Array Value) (t : TypeId) (hx : a.eval x = .pointer (some ⟨b, 0, none⟩)) (hy : a.eval y = .agg cells) (hb : W.heap[b]? = some (.cells old t (0, 0))) (hsz : old.size = cells.size)
    (hi : (Try.prog.info? ty).map (·.size) = some cells.size) (h1 : cells.all (·.oneCell') = true)
    (h : ∀ W2, W2.heap[b]? = some (.cells cells t (0, 0)) → (∀ k, k ≠ b → W2.heap[k]? = W.heap[k]?) → W2.os = W.os → W2.tape = W.tape → W2.output = W.output → W2.heap.size = W.heap.size → wpList Try.prog ops Q rest (a.put op.dst undef) W2) : wpList Try.prog ops Q (op :: rest) a W := by
  obtain ⟨cur', h3, h4, h5⟩ := setCells_row (g := b) (e := t) cells.toList 0 W old hb (by simp [hsz])
  obtain ⟨s1, s2, s3, s4⟩ := setCells_same b cells.toList 0 W
  have e : cur' = cells := by
    apply Array.ext'
    rw [h5]
    simp [hsz]
  subst e
  refine wpList_store_mid (P := Try.prog) hgd ty x y ho b 0 cur' hx hy (fun j hj => ⟨?_, blk_frozen hb _⟩) hi h1 ?_
  · rw [Go.Lib.cell_of_heap hb]
    have : 0 + j < old.size := by omega
    rw [Array.getElem?_eq_getElem this]; rfl
  · exact h _ h3 (fun k hk => setCells_far _ _ k hk) s1 s2 s3 s4
theorem below_store {w W W2 : World} {b : Nat} (h : Below w.heap.size w W) (hb : w.heap.size ≤ b) (far : ∀ k, k ≠ b → W2.heap[k]? = W.heap[k]?) (e1 : W2.os = W.os) (e2 : W2.tape = W.tape) (e3 : W2.output = W.output) (e4 : W2.heap.size = W.heap.size) : Below w.heap.size w W2 :=
  h.trans ⟨e1, e2, e3, by omega, fun k hk => far k (by omega)⟩
def zOp : Array Value := #[.int .i64 0, .int .i64 0, .int .i64 0, .int .i64 0, .int .i64 0]
theorem wpList_alloc_Op {ops : Array Oper} {rest : List Oper} {op : Oper} {a : Act} {W : World} {Q : Exit → Act → World → Prop} (hgd : op.guard = none) (ho : op.op = .alloc 44) (g : Nat) (hg : W.heap.size = g)
    (h : ∀ W2, W2.heap[g]? = some (.cells zOp 44 (0, 0)) → (∀ k, k < g → W2.heap[k]? = W.heap[k]?) → Below W.heap.size W W2 → W2.heap.size = g + 1 → wpList Try.prog ops Q rest (a.put op.dst (.pointer (some ⟨g, 0, none⟩))) W2) : wpList Try.prog ops Q (op :: rest) a W := by
  subst hg
  refine Kd.event_run (w1 := W.alloc (.cells zOp 44 (0, 0))) (v := .pointer (some ⟨W.heap.size, 0, none⟩)) hgd ?_ (h _ (heap_alloc_new _ _) (fun k hk => ((Below.refl W.heap.size W).alloc (Nat.le_refl _) _).block k hk) ((Below.refl _ _).alloc (Nat.le_refl _) _) (by show (W.heap.push _).size = _; rw [Array.size_push]))
  simp only [execOp, ho]
  rfl
def zWs : Array Value := #[.int .i64 0, .int .i64 0, .int .i64 0]
theorem wpList_alloc_Ws {ops : Array Oper} {rest : List Oper} {op : Oper} {a : Act} {W : World} {Q : Exit → Act → World → Prop} (hgd : op.guard = none) (ho : op.op = .alloc 50) (g : Nat) (hg : W.heap.size = g)
    (h : ∀ W2, W2.heap[g]? = some (.cells zWs 50 (0, 0)) → (∀ k, k < g → W2.heap[k]? = W.heap[k]?) → Below W.heap.size W W2 → W2.heap.size = g + 1 → wpList Try.prog ops Q rest (a.put op.dst (.pointer (some ⟨g, 0, none⟩))) W2) : wpList Try.prog ops Q (op :: rest) a W := by
  subst hg
  refine Kd.event_run (w1 := W.alloc (.cells zWs 50 (0, 0))) (v := .pointer (some ⟨W.heap.size, 0, none⟩)) hgd ?_ (h _ (heap_alloc_new _ _) (fun k hk => ((Below.refl W.heap.size W).alloc (Nat.le_refl _) _).block k hk) ((Below.refl _ _).alloc (Nat.le_refl _) _) (by show (W.heap.push _).size = _; rw [Array.size_push]))
  simp only [execOp, ho]
  rfl
def zMem : Array Value := #[.int .i64 0, .int .i64 0, .int .i64 0, .int .i64 0, .int .i64 0, .int .i64 0, .slice none 0 0, .slice none 0 0, .slice none 0 0]
theorem wpList_alloc_Mem {ops : Array Oper} {rest : List Oper} {op : Oper} {a : Act} {W : World} {Q : Exit → Act → World → Prop} (hgd : op.guard = none) (ho : op.op = .alloc 53) (g : Nat) (hg : W.heap.size = g)
    (h : ∀ W2, W2.heap[g]? = some (.cells zMem 53 (0, 0)) → (∀ k, k < g → W2.heap[k]? = W.heap[k]?) → Below W.heap.size W W2 → W2.heap.size = g + 1 → wpList Try.prog ops Q rest (a.put op.dst (.pointer (some ⟨g, 0, none⟩))) W2) : wpList Try.prog ops Q (op :: rest) a W := by
  subst hg
  refine Kd.event_run (w1 := W.alloc (.cells zMem 53 (0, 0))) (v := .pointer (some ⟨W.heap.size, 0, none⟩)) hgd ?_ (h _ (heap_alloc_new _ _) (fun k hk => ((Below.refl W.heap.size W).alloc (Nat.le_refl _) _).block k hk) ((Below.refl _ _).alloc (Nat.le_refl _) _) (by show (W.heap.push _).size = _; rw [Array.size_push]))
  simp only [execOp, ho]
  rfl
theorem infoOp : (Try.prog.info? 44).map (·.size) = some 5 := by kernel_rfl
theorem infoMem : (Try.prog.info? 53).map (·.size) = some 9 := by kernel_rfl
theorem flat_next {P : List (List LOp)} {t : Nat} (ht : t < P.length) : (P.take (t + 1)).flatten = (P.take t).flatten ++ P[t] := by
  rw [List.take_succ_eq_append_getElem ht, List.flatten_append]
  simp
theorem take_next {L : List LOp} {i : Nat} (hi : i < L.length) (F : List LOp) : F ++ L.take (i + 1) = (F ++ L.take i) ++ [L[i]] := by
  rw [List.take_succ_eq_append_getElem hi, List.append_assoc]
theorem flat_len (P : List (List LOp)) (t : Nat) (n : Nat) (hn : P.flatten.length ≤ n) : (P.take t).flatten.length ≤ n := by
  have : (P.take t).flatten.length ≤ P.flatten.length := by
    have h := congrArg List.length (congrArg List.flatten (List.take_append_drop t P))
    rw [List.flatten_append, List.length_append] at h
    omega
  omega
theorem flat_mid {P : List (List LOp)} {t : Nat} (ht : t < P.length) (i : Nat) (n : Nat) (hn : P.flatten.length ≤ n) : ((P.take t).flatten ++ (P[t]).take i).length ≤ n := by
  have h := flat_len P (t + 1) n hn
  rw [flat_next ht, List.length_append] at h
  rw [List.length_append, List.length_take]
  omega
/-- What a program counts, at three places. -/
def ws3 (L : List LOp) : Array Value := #[.int .i64 (nWr 0 L), .int .i64 (nWr 1 L), .int .i64 (nWr 2 L)]
def Cnt (w : World) (g : Nat) (L : List LOp) : Prop := w.heap[g]? = some (.cells (ws3 L) 50 (0, 0))
theorem bset {w W : World} {g j : Nat} {v : Value} (h : Below w.heap.size w W) (hg : w.heap.size ≤ g) : Below w.heap.size w (W.setCell ⟨g, j, none⟩ v) := below_set h hg
theorem limits_big (P : List (List LOp)) (A : Option Addr) (c : Nat) (w : World) (hl : 3 < P.length) (hl2 : P.length ≤ 1000000) :
    Calls Try.prog 31 #[.agg #[.slice A P.length c]] w fun e w' => e = .returned (.bool (limL P)) ∧ Below w.heap.size w w' := by
  rw [show limL P = false from by unfold limL; rw [show decide (P.length ≤ 3) = false by simp; omega, Bool.false_and]]
  have k0 : (w.alloc (.cells #[.slice A P.length c] 24 (0, 0))).cell? ⟨w.heap.size, 0, none⟩ = some (.slice A P.length c) := (Go.Lib.cell_of_heap (heap_alloc_new w (.cells #[.slice A P.length c] 24 (0, 0))) 0).trans rfl
  have B := Aside0.mk (al1 w (.cells #[.slice A P.length c] 24 (0, 0)))
  have hi : (3 : Int) < (P.length : Int) := by omega
  clear hl
  go_enter Try.func31, Try.ntmps31
  go_wp2
  go_ret
  exact ⟨rfl, B.out⟩
theorem limits_calls (P : List (List LOp)) (A : Option Addr) (c : Nat) (w : World) (hp : PAt w A P) (hl : P.flatten.length ≤ 1000000) (hl2 : P.length ≤ 1000000) :
    Calls Try.prog 31 #[.agg #[.slice A P.length c]] w fun e w' => e = .returned (.bool (limL P)) ∧ Below w.heap.size w w' := by
  by_cases h3 : 3 < P.length
  · exact limits_big P A c w h3 hl2
  obtain ⟨r, hr⟩ : ∃ r, r = limL P := ⟨_, rfl⟩
  rw [← hr]
  have HLR := Aside0.mk hr
  clear hr
  have k0 : (w.alloc (.cells #[.slice A P.length c] 24 (0, 0))).cell? ⟨w.heap.size, 0, none⟩ = some (.slice A P.length c) := (Go.Lib.cell_of_heap (heap_alloc_new w (.cells #[.slice A P.length c] 24 (0, 0))) 0).trans rfl
  have B := Aside0.mk (al1 w (.cells #[.slice A P.length c] 24 (0, 0)))
  have HS := Aside0.mk (show (w.alloc (.cells #[.slice A P.length c] 24 (0, 0))).heap.size = w.heap.size + 1 from by show (w.heap.push _).size = _; rw [Array.size_push])
  have hi3 : (P.length : Int) ≤ 3 := by omega
  have HP := Aside0.mk hp
  have HLF := Aside0.mk hl
  clear hp hl hl2
  go_enter Try.func31, Try.ntmps31
  go_wp2_with (first | ((with_reducible refine gate_ (.alloc 50) rfl ?_); refine wpList_alloc_Ws rfl rfl (w.heap.size + 1) HS.out ?_; intro W2 hz hk hb hs; have HC := Aside0.mk (show Cnt W2 (w.heap.size + 1) [] from hz); have k0 := (hb.cell (World.block_lt_of_cell? _ _ k0)).trans k0; have HB := Aside0.mk (B.out.trans (hb.mono (by rw [HS.out]; omega))); clear hz hk hb hs B))
  go_loopg [3, 4, 17] P.length (fun gg v3 v4 v17 wr => ∃ t : Nat, t ≤ P.length ∧ P.length - t ≤ gg ∧ v17 = .int .i64 t ∧ v3 = .int .i64 (nAcc (P.take t).flatten) ∧ v4 = .int .i64 (nFen (P.take t).flatten) ∧ Aside0 (Cnt wr (w.heap.size + 1) (P.take t).flatten) ∧ Aside0 (Below w.heap.size w wr))
  case atStart => exact ⟨0, by omega, by omega, rfl, rfl, rfl, HC, HB⟩
  case round =>
    clear HC HB k0
    obtain ⟨t, ht, hgg, rfl, rfl, rfl, HC, HB⟩ := hrel
    by_cases hlt : t < P.length
    · obtain ⟨ad, B0, c0, rfl, hcell, hlc, hoa⟩ := HP.out t hlt
      replace hcell := (HB.out.cell (World.block_lt_of_cell? w _ hcell)).trans hcell
      have htl : (t : Int) < (P.length : Int) := by omega
      have HFN := Aside0.mk (flat_next hlt)
      have HFM := Aside0.mk (fun i => flat_mid hlt i 1000000 HLF.out)
      have hLl : (P[t]).length ≤ 1000000 := by have := HFM.out (P[t]).length; rw [List.take_length, List.length_append] at this; omega
      obtain ⟨L, hL⟩ : ∃ L, L = P[t] := ⟨_, rfl⟩
      obtain ⟨F, hF⟩ : ∃ F, F = (P.take t).flatten := ⟨_, rfl⟩
      rw [← hL] at hcell hlc hoa HFN HFM hLl
      rw [← hF] at HFN HFM HC ⊢
      have HOA := Aside0.mk hoa
      clear hL hF hoa
      go_wp2
      go_loopg [3, 4, 23] L.length (fun gg v3 v4 v23 wr => ∃ i : Nat, i ≤ L.length ∧ L.length - i ≤ gg ∧ v23 = .int .i64 i ∧ v3 = .int .i64 (nAcc (F ++ L.take i)) ∧ v4 = .int .i64 (nFen (F ++ L.take i)) ∧ Aside0 (Cnt wr (w.heap.size + 1) (F ++ L.take i)) ∧ Aside0 (Below w.heap.size w wr))
      case atStart => exact ⟨0, by omega, by omega, rfl, by simp, by simp, ⟨by simpa using HC.out⟩, HB⟩
      case round =>
        clear HC HB hcell
        obtain ⟨i, hi, hgi, rfl, rfl, rfl, HC, HB⟩ := hrel
        by_cases hli : i < L.length
        · have hii : (i : Int) < (L.length : Int) := by omega
          obtain ⟨ad2, rfl, c0, c1, c2, c3, c4⟩ := HOA.out.below HB.out i hli
          rw [add_field ad2 (i * 5) 1 (by decide)] at c1
          rw [add_field ad2 (i * 5) 2 (by decide)] at c2
          rw [add_field ad2 (i * 5) 3 (by decide)] at c3
          rw [add_field ad2 (i * 5) 4 (by decide)] at c4
          have HT := Aside0.mk (take_next hli F)
          have hal := nAcc_le (F ++ L.take i)
          have hfl := nFen_le (F ++ L.take i)
          have hw0 := nWr_le 0 (F ++ L.take i)
          have hw1 := nWr_le 1 (F ++ L.take i)
          have hw2 := nWr_le 2 (F ++ L.take i)
          have hfm := HFM.out i
          have HA0 := Aside0.mk (show nAcc (F ++ L.take (i + 1)) = nAcc (F ++ L.take i) + b1 (accL L[i]) from by rw [HT.out, nAcc_snoc])
          have HF0 := Aside0.mk (show nFen (F ++ L.take (i + 1)) = nFen (F ++ L.take i) + fenW L[i] from by rw [HT.out, nFen_snoc])
          have HW := Aside0.mk (show ∀ j, nWr j (F ++ L.take (i + 1)) = nWr j (F ++ L.take i) + b1 (wrL j L[i]) from fun j => by rw [HT.out, nWr_snoc])
          have HC := Aside0.mk (show wr.heap[w.heap.size + 1]? = some (.cells #[.int .i64 (nWr 0 (F ++ L.take i)), .int .i64 (nWr 1 (F ++ L.take i)), .int .i64 (nWr 2 (F ++ L.take i))] 50 (0, 0)) from HC.out)
          have HW0 := Aside0.mk (HW.out 0)
          have HW1 := Aside0.mk (HW.out 1)
          have HW2 := Aside0.mk (HW.out 2)
          generalize nAcc (F ++ L.take i) = a at *
          generalize nFen (F ++ L.take i) = f at *
          generalize nWr 0 (F ++ L.take i) = w0 at *
          generalize nWr 1 (F ++ L.take i) = w1 at *
          generalize nWr 2 (F ++ L.take i) = w2 at *
          generalize L[i] = x at *
          generalize (F ++ L.take i).length = fl at *
          clear HT HW
          have HSZ := Aside0.mk HB.out.size
          have HNE := Aside0.mk (show w.heap.size + 1 ≠ wr.heap.size from by have := blk_lt HC.out; omega)
          obtain ⟨k, l, v, u, o⟩ := x
          simp only at HA0 HF0 HW0 HW1 HW2 c0 c1 c2 c3 c4
          have h3 := heap_alloc_new wr (.cells #[.int .i64 k, .int .i64 l, .int .i64 v, .int .i64 u, .int .i64 o] 44 (0, 0))
          have k0 := (Go.Lib.cell_of_heap h3 0).trans rfl
          have k1 := (Go.Lib.cell_of_heap h3 1).trans rfl
          have k2 := (Go.Lib.cell_of_heap h3 2).trans rfl
          have k3 := (Go.Lib.cell_of_heap h3 3).trans rfl
          have k4 := (Go.Lib.cell_of_heap h3 4).trans rfl
          simp only [List.getElem?_toArray, List.getElem?_cons_succ, List.getElem?_cons_zero] at k0 k1 k2 k3 k4
          have H3 := Aside0.mk h3
          have HC := Aside0.mk (((al1 wr (.cells #[.int .i64 k, .int .i64 l, .int .i64 v, .int .i64 u, .int .i64 o] 44 (0, 0))).block _ (blk_lt HC.out)).trans HC.out)
          have HB := Aside0.mk (btrans HB.out (al1 wr (.cells #[.int .i64 k, .int .i64 l, .int .i64 v, .int .i64 u, .int .i64 o] 44 (0, 0))))
          clear h3
          have hab : a ≤ 1000000 := by omega
          have hfb : f ≤ 3000000 := by omega
          have hb0 : w0 ≤ 1000000 := by omega
          have hb1 : w1 ≤ 1000000 := by omega
          have hb2 : w2 ≤ 1000000 := by omega
          clear hal hfl hw0 hw1 hw2 hfm
          by_cases k5 : k = 5
          · subst k5
            have hacc : accL ⟨5, l, v, u, o⟩ = false := rfl
            have HACC := Aside0.mk hacc
            have HA := Aside0.mk (show nAcc (F ++ L.take (i + 1)) = a from by rw [HA0.out, hacc]; rfl)
            have HF := Aside0.mk (show nFen (F ++ L.take (i + 1)) = f + 1 from by rw [HF0.out]; unfold fenW; rw [hacc]; simp [b1, *])
            have HW0 := Aside0.mk (show nWr 0 (F ++ L.take (i + 1)) = w0 from by rw [HW0.out]; unfold wrL; rw [hacc]; simp [b1, *])
            have HW1 := Aside0.mk (show nWr 1 (F ++ L.take (i + 1)) = w1 from by rw [HW1.out]; unfold wrL; rw [hacc]; simp [b1, *])
            have HW2 := Aside0.mk (show nWr 2 (F ++ L.take (i + 1)) = w2 from by rw [HW2.out]; unfold wrL; rw [hacc]; simp [b1, *])
            clear hacc
            go_wp2_with (first
              | (go_at_call 38; refine (access_calls ⟨5, l, v, u, o⟩ (wr.alloc (.cells #[.int .i64 5, .int .i64 l, .int .i64 v, .int .i64 u, .int .i64 o] 44 (0, 0)))).mono ?_; rintro e W4 ⟨rfl, hb⟩; rw [HACC.out]; have h3 := (hb.block _ (blk_lt H3.out)).trans H3.out; have hc := (hb.block _ (blk_lt HC.out)).trans HC.out; have HB := Aside0.mk (btrans HB.out hb); have k0 := (Go.Lib.cell_of_heap h3 0).trans rfl; have k1 := (Go.Lib.cell_of_heap h3 1).trans rfl; have k2 := (Go.Lib.cell_of_heap h3 2).trans rfl; have k3 := (Go.Lib.cell_of_heap h3 3).trans rfl; have k4 := (Go.Lib.cell_of_heap h3 4).trans rfl; have q0 := (Go.Lib.cell_of_heap hc 0).trans rfl; have q1 := (Go.Lib.cell_of_heap hc 1).trans rfl; have q2 := (Go.Lib.cell_of_heap hc 2).trans rfl; simp only [List.getElem?_toArray, List.getElem?_cons_succ, List.getElem?_cons_zero] at k0 k1 k2 k3 k4 q0 q1 q2; have f0 := blk_frozen hc 0; have f1 := blk_frozen hc 1; have f2 := blk_frozen hc 2; have HC := Aside0.mk hc; clear h3 hb hc))
            go_roundg (L.length - (i + 1))
            case measure => omega
            case rel => exact ⟨i + 1, by omega, by omega, by go_num, by rw [HA.out] <;> simp, by rw [HF.out] <;> go_num, ⟨by unfold Cnt ws3; rw [HW0.out, HW1.out, HW2.out]; exact HC.out⟩, ⟨HB.out⟩⟩
          have k5b : (k == (5 : Int)) = false := by simp; exact k5
          cases hacc : accL ⟨k, l, v, u, o⟩ with
          | false =>
            have HACC := Aside0.mk hacc
            have HA := Aside0.mk (show nAcc (F ++ L.take (i + 1)) = a from by rw [HA0.out, hacc]; rfl)
            have HF := Aside0.mk (show nFen (F ++ L.take (i + 1)) = f from by rw [HF0.out]; unfold fenW; rw [hacc]; simp [b1, *])
            have HW0 := Aside0.mk (show nWr 0 (F ++ L.take (i + 1)) = w0 from by rw [HW0.out]; unfold wrL; rw [hacc]; simp [b1, *])
            have HW1 := Aside0.mk (show nWr 1 (F ++ L.take (i + 1)) = w1 from by rw [HW1.out]; unfold wrL; rw [hacc]; simp [b1, *])
            have HW2 := Aside0.mk (show nWr 2 (F ++ L.take (i + 1)) = w2 from by rw [HW2.out]; unfold wrL; rw [hacc]; simp [b1, *])
            clear hacc
            go_wp2_with (first
              | (go_at_call 38; refine (access_calls ⟨k, l, v, u, o⟩ (wr.alloc (.cells #[.int .i64 k, .int .i64 l, .int .i64 v, .int .i64 u, .int .i64 o] 44 (0, 0)))).mono ?_; rintro e W4 ⟨rfl, hb⟩; rw [HACC.out]; have h3 := (hb.block _ (blk_lt H3.out)).trans H3.out; have hc := (hb.block _ (blk_lt HC.out)).trans HC.out; have HB := Aside0.mk (btrans HB.out hb); have k0 := (Go.Lib.cell_of_heap h3 0).trans rfl; have k1 := (Go.Lib.cell_of_heap h3 1).trans rfl; have k2 := (Go.Lib.cell_of_heap h3 2).trans rfl; have k3 := (Go.Lib.cell_of_heap h3 3).trans rfl; have k4 := (Go.Lib.cell_of_heap h3 4).trans rfl; have q0 := (Go.Lib.cell_of_heap hc 0).trans rfl; have q1 := (Go.Lib.cell_of_heap hc 1).trans rfl; have q2 := (Go.Lib.cell_of_heap hc 2).trans rfl; simp only [List.getElem?_toArray, List.getElem?_cons_succ, List.getElem?_cons_zero] at k0 k1 k2 k3 k4 q0 q1 q2; have f0 := blk_frozen hc 0; have f1 := blk_frozen hc 1; have f2 := blk_frozen hc 2; have HC := Aside0.mk hc; clear h3 hb hc))
            go_roundg (L.length - (i + 1))
            case measure => omega
            case rel => exact ⟨i + 1, by omega, by omega, by go_num, by rw [HA.out] <;> simp, by rw [HF.out] <;> go_num, ⟨by unfold Cnt ws3; rw [HW0.out, HW1.out, HW2.out]; exact HC.out⟩, ⟨HB.out⟩⟩
          | true =>
            by_cases o4 : o = 4
            · subst o4
              by_cases k00 : k = 0
              · subst k00
                have HACC := Aside0.mk hacc
                have HA := Aside0.mk (show nAcc (F ++ L.take (i + 1)) = a + 1 from by rw [HA0.out, hacc]; rfl)
                have HF := Aside0.mk (show nFen (F ++ L.take (i + 1)) = f + 2 from by rw [HF0.out]; unfold fenW; rw [hacc]; simp [b1, *])
                have HW0 := Aside0.mk (show nWr 0 (F ++ L.take (i + 1)) = w0 from by rw [HW0.out]; unfold wrL; rw [hacc]; simp [b1, *])
                have HW1 := Aside0.mk (show nWr 1 (F ++ L.take (i + 1)) = w1 from by rw [HW1.out]; unfold wrL; rw [hacc]; simp [b1, *])
                have HW2 := Aside0.mk (show nWr 2 (F ++ L.take (i + 1)) = w2 from by rw [HW2.out]; unfold wrL; rw [hacc]; simp [b1, *])
                clear hacc
                go_wp2_with (first
                  | (go_at_call 38; refine (access_calls ⟨0, l, v, u, 4⟩ (wr.alloc (.cells #[.int .i64 0, .int .i64 l, .int .i64 v, .int .i64 u, .int .i64 4] 44 (0, 0)))).mono ?_; rintro e W4 ⟨rfl, hb⟩; rw [HACC.out]; have h3 := (hb.block _ (blk_lt H3.out)).trans H3.out; have hc := (hb.block _ (blk_lt HC.out)).trans HC.out; have HB := Aside0.mk (btrans HB.out hb); have k0 := (Go.Lib.cell_of_heap h3 0).trans rfl; have k1 := (Go.Lib.cell_of_heap h3 1).trans rfl; have k2 := (Go.Lib.cell_of_heap h3 2).trans rfl; have k3 := (Go.Lib.cell_of_heap h3 3).trans rfl; have k4 := (Go.Lib.cell_of_heap h3 4).trans rfl; have q0 := (Go.Lib.cell_of_heap hc 0).trans rfl; have q1 := (Go.Lib.cell_of_heap hc 1).trans rfl; have q2 := (Go.Lib.cell_of_heap hc 2).trans rfl; simp only [List.getElem?_toArray, List.getElem?_cons_succ, List.getElem?_cons_zero] at k0 k1 k2 k3 k4 q0 q1 q2; have f0 := blk_frozen hc 0; have f1 := blk_frozen hc 1; have f2 := blk_frozen hc 2; have HC := Aside0.mk hc; clear h3 hb hc))
                go_roundg (L.length - (i + 1))
                case measure => omega
                case rel => exact ⟨i + 1, by omega, by omega, by go_num, by rw [HA.out] <;> simp, by rw [HF.out] <;> go_num, ⟨by unfold Cnt ws3; rw [HW0.out, HW1.out, HW2.out]; exact HC.out⟩, ⟨HB.out⟩⟩
              have k0b : (k != (0 : Int)) = true := by simp; exact k00
              by_cases l0 : l < 0
              · have l00 : ¬ (l = 0) := by omega
                have l01 : ¬ (l = 1) := by omega
                have l02 : ¬ (l = 2) := by omega
                have HACC := Aside0.mk hacc
                have HA := Aside0.mk (show nAcc (F ++ L.take (i + 1)) = a + 1 from by rw [HA0.out, hacc]; rfl)
                have HF := Aside0.mk (show nFen (F ++ L.take (i + 1)) = f + 2 from by rw [HF0.out]; unfold fenW; rw [hacc]; simp [b1, *])
                have HW0 := Aside0.mk (show nWr 0 (F ++ L.take (i + 1)) = w0 from by rw [HW0.out]; unfold wrL; rw [hacc]; simp [b1, *])
                have HW1 := Aside0.mk (show nWr 1 (F ++ L.take (i + 1)) = w1 from by rw [HW1.out]; unfold wrL; rw [hacc]; simp [b1, *])
                have HW2 := Aside0.mk (show nWr 2 (F ++ L.take (i + 1)) = w2 from by rw [HW2.out]; unfold wrL; rw [hacc]; simp [b1, *])
                clear hacc
                go_wp2_with (first
                  | (go_at_call 38; refine (access_calls ⟨k, l, v, u, 4⟩ (wr.alloc (.cells #[.int .i64 k, .int .i64 l, .int .i64 v, .int .i64 u, .int .i64 4] 44 (0, 0)))).mono ?_; rintro e W4 ⟨rfl, hb⟩; rw [HACC.out]; have h3 := (hb.block _ (blk_lt H3.out)).trans H3.out; have hc := (hb.block _ (blk_lt HC.out)).trans HC.out; have HB := Aside0.mk (btrans HB.out hb); have k0 := (Go.Lib.cell_of_heap h3 0).trans rfl; have k1 := (Go.Lib.cell_of_heap h3 1).trans rfl; have k2 := (Go.Lib.cell_of_heap h3 2).trans rfl; have k3 := (Go.Lib.cell_of_heap h3 3).trans rfl; have k4 := (Go.Lib.cell_of_heap h3 4).trans rfl; have q0 := (Go.Lib.cell_of_heap hc 0).trans rfl; have q1 := (Go.Lib.cell_of_heap hc 1).trans rfl; have q2 := (Go.Lib.cell_of_heap hc 2).trans rfl; simp only [List.getElem?_toArray, List.getElem?_cons_succ, List.getElem?_cons_zero] at k0 k1 k2 k3 k4 q0 q1 q2; have f0 := blk_frozen hc 0; have f1 := blk_frozen hc 1; have f2 := blk_frozen hc 2; have HC := Aside0.mk hc; clear h3 hb hc))
                go_roundg (L.length - (i + 1))
                case measure => omega
                case rel => exact ⟨i + 1, by omega, by omega, by go_num, by rw [HA.out] <;> simp, by rw [HF.out] <;> go_num, ⟨by unfold Cnt ws3; rw [HW0.out, HW1.out, HW2.out]; exact HC.out⟩, ⟨HB.out⟩⟩
              by_cases l3 : 3 ≤ l
              · have l00 : ¬ (l = 0) := by omega
                have l01 : ¬ (l = 1) := by omega
                have l02 : ¬ (l = 2) := by omega
                have HACC := Aside0.mk hacc
                have HA := Aside0.mk (show nAcc (F ++ L.take (i + 1)) = a + 1 from by rw [HA0.out, hacc]; rfl)
                have HF := Aside0.mk (show nFen (F ++ L.take (i + 1)) = f + 2 from by rw [HF0.out]; unfold fenW; rw [hacc]; simp [b1, *])
                have HW0 := Aside0.mk (show nWr 0 (F ++ L.take (i + 1)) = w0 from by rw [HW0.out]; unfold wrL; rw [hacc]; simp [b1, *])
                have HW1 := Aside0.mk (show nWr 1 (F ++ L.take (i + 1)) = w1 from by rw [HW1.out]; unfold wrL; rw [hacc]; simp [b1, *])
                have HW2 := Aside0.mk (show nWr 2 (F ++ L.take (i + 1)) = w2 from by rw [HW2.out]; unfold wrL; rw [hacc]; simp [b1, *])
                clear hacc
                go_wp2_with (first
                  | (go_at_call 38; refine (access_calls ⟨k, l, v, u, 4⟩ (wr.alloc (.cells #[.int .i64 k, .int .i64 l, .int .i64 v, .int .i64 u, .int .i64 4] 44 (0, 0)))).mono ?_; rintro e W4 ⟨rfl, hb⟩; rw [HACC.out]; have h3 := (hb.block _ (blk_lt H3.out)).trans H3.out; have hc := (hb.block _ (blk_lt HC.out)).trans HC.out; have HB := Aside0.mk (btrans HB.out hb); have k0 := (Go.Lib.cell_of_heap h3 0).trans rfl; have k1 := (Go.Lib.cell_of_heap h3 1).trans rfl; have k2 := (Go.Lib.cell_of_heap h3 2).trans rfl; have k3 := (Go.Lib.cell_of_heap h3 3).trans rfl; have k4 := (Go.Lib.cell_of_heap h3 4).trans rfl; have q0 := (Go.Lib.cell_of_heap hc 0).trans rfl; have q1 := (Go.Lib.cell_of_heap hc 1).trans rfl; have q2 := (Go.Lib.cell_of_heap hc 2).trans rfl; simp only [List.getElem?_toArray, List.getElem?_cons_succ, List.getElem?_cons_zero] at k0 k1 k2 k3 k4 q0 q1 q2; have f0 := blk_frozen hc 0; have f1 := blk_frozen hc 1; have f2 := blk_frozen hc 2; have HC := Aside0.mk hc; clear h3 hb hc))
                go_roundg (L.length - (i + 1))
                case measure => omega
                case rel => exact ⟨i + 1, by omega, by omega, by go_num, by rw [HA.out] <;> simp, by rw [HF.out] <;> go_num, ⟨by unfold Cnt ws3; rw [HW0.out, HW1.out, HW2.out]; exact HC.out⟩, ⟨HB.out⟩⟩
              rcases (show l = 0 ∨ l = 1 ∨ l = 2 by omega) with rfl | rfl | rfl
              · have HACC := Aside0.mk hacc
                have HA := Aside0.mk (show nAcc (F ++ L.take (i + 1)) = a + 1 from by rw [HA0.out, hacc]; rfl)
                have HF := Aside0.mk (show nFen (F ++ L.take (i + 1)) = f + 2 from by rw [HF0.out]; unfold fenW; rw [hacc]; simp [b1, *])
                have HW0 := Aside0.mk (show nWr 0 (F ++ L.take (i + 1)) = w0 + 1 from by rw [HW0.out]; unfold wrL; rw [hacc]; simp [b1, *])
                have HW1 := Aside0.mk (show nWr 1 (F ++ L.take (i + 1)) = w1 from by rw [HW1.out]; unfold wrL; rw [hacc]; simp [b1, *])
                have HW2 := Aside0.mk (show nWr 2 (F ++ L.take (i + 1)) = w2 from by rw [HW2.out]; unfold wrL; rw [hacc]; simp [b1, *])
                clear hacc
                go_wp2_with (first
                  | (go_at_call 38; refine (access_calls ⟨k, 0, v, u, 4⟩ (wr.alloc (.cells #[.int .i64 k, .int .i64 0, .int .i64 v, .int .i64 u, .int .i64 4] 44 (0, 0)))).mono ?_; rintro e W4 ⟨rfl, hb⟩; rw [HACC.out]; have h3 := (hb.block _ (blk_lt H3.out)).trans H3.out; have hc := (hb.block _ (blk_lt HC.out)).trans HC.out; have HB := Aside0.mk (btrans HB.out hb); have k0 := (Go.Lib.cell_of_heap h3 0).trans rfl; have k1 := (Go.Lib.cell_of_heap h3 1).trans rfl; have k2 := (Go.Lib.cell_of_heap h3 2).trans rfl; have k3 := (Go.Lib.cell_of_heap h3 3).trans rfl; have k4 := (Go.Lib.cell_of_heap h3 4).trans rfl; have q0 := (Go.Lib.cell_of_heap hc 0).trans rfl; have q1 := (Go.Lib.cell_of_heap hc 1).trans rfl; have q2 := (Go.Lib.cell_of_heap hc 2).trans rfl; simp only [List.getElem?_toArray, List.getElem?_cons_succ, List.getElem?_cons_zero] at k0 k1 k2 k3 k4 q0 q1 q2; have f0 := blk_frozen hc 0; have f1 := blk_frozen hc 1; have f2 := blk_frozen hc 2; have HC := Aside0.mk hc; clear h3 hb hc))
                have hcn := blk_set HC.out 0 (.int .i64 (IntKind.i64.wrap ((w0 : Int) + 1)))
                rw [show IntKind.i64.wrap ((w0 : Int) + 1) = ((w0 + 1 : Nat) : Int) from (IntWalk.i64_in _ (by omega)).trans (by omega)] at hcn
                go_roundg (L.length - (i + 1))
                case measure => omega
                case rel => exact ⟨i + 1, by omega, by omega, by go_num, by rw [HA.out] <;> simp, by rw [HF.out] <;> go_num, ⟨by unfold Cnt ws3; rw [HW0.out, HW1.out, HW2.out]; exact hcn⟩, ⟨bset HB.out (by omega)⟩⟩
              · have HACC := Aside0.mk hacc
                have HA := Aside0.mk (show nAcc (F ++ L.take (i + 1)) = a + 1 from by rw [HA0.out, hacc]; rfl)
                have HF := Aside0.mk (show nFen (F ++ L.take (i + 1)) = f + 2 from by rw [HF0.out]; unfold fenW; rw [hacc]; simp [b1, *])
                have HW0 := Aside0.mk (show nWr 0 (F ++ L.take (i + 1)) = w0 from by rw [HW0.out]; unfold wrL; rw [hacc]; simp [b1, *])
                have HW1 := Aside0.mk (show nWr 1 (F ++ L.take (i + 1)) = w1 + 1 from by rw [HW1.out]; unfold wrL; rw [hacc]; simp [b1, *])
                have HW2 := Aside0.mk (show nWr 2 (F ++ L.take (i + 1)) = w2 from by rw [HW2.out]; unfold wrL; rw [hacc]; simp [b1, *])
                clear hacc
                go_wp2_with (first
                  | (go_at_call 38; refine (access_calls ⟨k, 1, v, u, 4⟩ (wr.alloc (.cells #[.int .i64 k, .int .i64 1, .int .i64 v, .int .i64 u, .int .i64 4] 44 (0, 0)))).mono ?_; rintro e W4 ⟨rfl, hb⟩; rw [HACC.out]; have h3 := (hb.block _ (blk_lt H3.out)).trans H3.out; have hc := (hb.block _ (blk_lt HC.out)).trans HC.out; have HB := Aside0.mk (btrans HB.out hb); have k0 := (Go.Lib.cell_of_heap h3 0).trans rfl; have k1 := (Go.Lib.cell_of_heap h3 1).trans rfl; have k2 := (Go.Lib.cell_of_heap h3 2).trans rfl; have k3 := (Go.Lib.cell_of_heap h3 3).trans rfl; have k4 := (Go.Lib.cell_of_heap h3 4).trans rfl; have q0 := (Go.Lib.cell_of_heap hc 0).trans rfl; have q1 := (Go.Lib.cell_of_heap hc 1).trans rfl; have q2 := (Go.Lib.cell_of_heap hc 2).trans rfl; simp only [List.getElem?_toArray, List.getElem?_cons_succ, List.getElem?_cons_zero] at k0 k1 k2 k3 k4 q0 q1 q2; have f0 := blk_frozen hc 0; have f1 := blk_frozen hc 1; have f2 := blk_frozen hc 2; have HC := Aside0.mk hc; clear h3 hb hc))
                have hcn := blk_set HC.out 1 (.int .i64 (IntKind.i64.wrap ((w1 : Int) + 1)))
                rw [show IntKind.i64.wrap ((w1 : Int) + 1) = ((w1 + 1 : Nat) : Int) from (IntWalk.i64_in _ (by omega)).trans (by omega)] at hcn
                go_roundg (L.length - (i + 1))
                case measure => omega
                case rel => exact ⟨i + 1, by omega, by omega, by go_num, by rw [HA.out] <;> simp, by rw [HF.out] <;> go_num, ⟨by unfold Cnt ws3; rw [HW0.out, HW1.out, HW2.out]; exact hcn⟩, ⟨bset HB.out (by omega)⟩⟩
              · have HACC := Aside0.mk hacc
                have HA := Aside0.mk (show nAcc (F ++ L.take (i + 1)) = a + 1 from by rw [HA0.out, hacc]; rfl)
                have HF := Aside0.mk (show nFen (F ++ L.take (i + 1)) = f + 2 from by rw [HF0.out]; unfold fenW; rw [hacc]; simp [b1, *])
                have HW0 := Aside0.mk (show nWr 0 (F ++ L.take (i + 1)) = w0 from by rw [HW0.out]; unfold wrL; rw [hacc]; simp [b1, *])
                have HW1 := Aside0.mk (show nWr 1 (F ++ L.take (i + 1)) = w1 from by rw [HW1.out]; unfold wrL; rw [hacc]; simp [b1, *])
                have HW2 := Aside0.mk (show nWr 2 (F ++ L.take (i + 1)) = w2 + 1 from by rw [HW2.out]; unfold wrL; rw [hacc]; simp [b1, *])
                clear hacc
                go_wp2_with (first
                  | (go_at_call 38; refine (access_calls ⟨k, 2, v, u, 4⟩ (wr.alloc (.cells #[.int .i64 k, .int .i64 2, .int .i64 v, .int .i64 u, .int .i64 4] 44 (0, 0)))).mono ?_; rintro e W4 ⟨rfl, hb⟩; rw [HACC.out]; have h3 := (hb.block _ (blk_lt H3.out)).trans H3.out; have hc := (hb.block _ (blk_lt HC.out)).trans HC.out; have HB := Aside0.mk (btrans HB.out hb); have k0 := (Go.Lib.cell_of_heap h3 0).trans rfl; have k1 := (Go.Lib.cell_of_heap h3 1).trans rfl; have k2 := (Go.Lib.cell_of_heap h3 2).trans rfl; have k3 := (Go.Lib.cell_of_heap h3 3).trans rfl; have k4 := (Go.Lib.cell_of_heap h3 4).trans rfl; have q0 := (Go.Lib.cell_of_heap hc 0).trans rfl; have q1 := (Go.Lib.cell_of_heap hc 1).trans rfl; have q2 := (Go.Lib.cell_of_heap hc 2).trans rfl; simp only [List.getElem?_toArray, List.getElem?_cons_succ, List.getElem?_cons_zero] at k0 k1 k2 k3 k4 q0 q1 q2; have f0 := blk_frozen hc 0; have f1 := blk_frozen hc 1; have f2 := blk_frozen hc 2; have HC := Aside0.mk hc; clear h3 hb hc))
                have hcn := blk_set HC.out 2 (.int .i64 (IntKind.i64.wrap ((w2 : Int) + 1)))
                rw [show IntKind.i64.wrap ((w2 : Int) + 1) = ((w2 + 1 : Nat) : Int) from (IntWalk.i64_in _ (by omega)).trans (by omega)] at hcn
                go_roundg (L.length - (i + 1))
                case measure => omega
                case rel => exact ⟨i + 1, by omega, by omega, by go_num, by rw [HA.out] <;> simp, by rw [HF.out] <;> go_num, ⟨by unfold Cnt ws3; rw [HW0.out, HW1.out, HW2.out]; exact hcn⟩, ⟨bset HB.out (by omega)⟩⟩
            have o4b : (o == (4 : Int)) = false := by simp; exact o4
            by_cases k00 : k = 0
            · subst k00
              have HACC := Aside0.mk hacc
              have HA := Aside0.mk (show nAcc (F ++ L.take (i + 1)) = a + 1 from by rw [HA0.out, hacc]; rfl)
              have HF := Aside0.mk (show nFen (F ++ L.take (i + 1)) = f from by rw [HF0.out]; unfold fenW; rw [hacc]; simp [b1, *])
              have HW0 := Aside0.mk (show nWr 0 (F ++ L.take (i + 1)) = w0 from by rw [HW0.out]; unfold wrL; rw [hacc]; simp [b1, *])
              have HW1 := Aside0.mk (show nWr 1 (F ++ L.take (i + 1)) = w1 from by rw [HW1.out]; unfold wrL; rw [hacc]; simp [b1, *])
              have HW2 := Aside0.mk (show nWr 2 (F ++ L.take (i + 1)) = w2 from by rw [HW2.out]; unfold wrL; rw [hacc]; simp [b1, *])
              clear hacc
              go_wp2_with (first
                | (go_at_call 38; refine (access_calls ⟨0, l, v, u, o⟩ (wr.alloc (.cells #[.int .i64 0, .int .i64 l, .int .i64 v, .int .i64 u, .int .i64 o] 44 (0, 0)))).mono ?_; rintro e W4 ⟨rfl, hb⟩; rw [HACC.out]; have h3 := (hb.block _ (blk_lt H3.out)).trans H3.out; have hc := (hb.block _ (blk_lt HC.out)).trans HC.out; have HB := Aside0.mk (btrans HB.out hb); have k0 := (Go.Lib.cell_of_heap h3 0).trans rfl; have k1 := (Go.Lib.cell_of_heap h3 1).trans rfl; have k2 := (Go.Lib.cell_of_heap h3 2).trans rfl; have k3 := (Go.Lib.cell_of_heap h3 3).trans rfl; have k4 := (Go.Lib.cell_of_heap h3 4).trans rfl; have q0 := (Go.Lib.cell_of_heap hc 0).trans rfl; have q1 := (Go.Lib.cell_of_heap hc 1).trans rfl; have q2 := (Go.Lib.cell_of_heap hc 2).trans rfl; simp only [List.getElem?_toArray, List.getElem?_cons_succ, List.getElem?_cons_zero] at k0 k1 k2 k3 k4 q0 q1 q2; have f0 := blk_frozen hc 0; have f1 := blk_frozen hc 1; have f2 := blk_frozen hc 2; have HC := Aside0.mk hc; clear h3 hb hc))
              go_roundg (L.length - (i + 1))
              case measure => omega
              case rel => exact ⟨i + 1, by omega, by omega, by go_num, by rw [HA.out] <;> simp, by rw [HF.out] <;> go_num, ⟨by unfold Cnt ws3; rw [HW0.out, HW1.out, HW2.out]; exact HC.out⟩, ⟨HB.out⟩⟩
            have k0b : (k != (0 : Int)) = true := by simp; exact k00
            by_cases l0 : l < 0
            · have l00 : ¬ (l = 0) := by omega
              have l01 : ¬ (l = 1) := by omega
              have l02 : ¬ (l = 2) := by omega
              have HACC := Aside0.mk hacc
              have HA := Aside0.mk (show nAcc (F ++ L.take (i + 1)) = a + 1 from by rw [HA0.out, hacc]; rfl)
              have HF := Aside0.mk (show nFen (F ++ L.take (i + 1)) = f from by rw [HF0.out]; unfold fenW; rw [hacc]; simp [b1, *])
              have HW0 := Aside0.mk (show nWr 0 (F ++ L.take (i + 1)) = w0 from by rw [HW0.out]; unfold wrL; rw [hacc]; simp [b1, *])
              have HW1 := Aside0.mk (show nWr 1 (F ++ L.take (i + 1)) = w1 from by rw [HW1.out]; unfold wrL; rw [hacc]; simp [b1, *])
              have HW2 := Aside0.mk (show nWr 2 (F ++ L.take (i + 1)) = w2 from by rw [HW2.out]; unfold wrL; rw [hacc]; simp [b1, *])
              clear hacc
              go_wp2_with (first
                | (go_at_call 38; refine (access_calls ⟨k, l, v, u, o⟩ (wr.alloc (.cells #[.int .i64 k, .int .i64 l, .int .i64 v, .int .i64 u, .int .i64 o] 44 (0, 0)))).mono ?_; rintro e W4 ⟨rfl, hb⟩; rw [HACC.out]; have h3 := (hb.block _ (blk_lt H3.out)).trans H3.out; have hc := (hb.block _ (blk_lt HC.out)).trans HC.out; have HB := Aside0.mk (btrans HB.out hb); have k0 := (Go.Lib.cell_of_heap h3 0).trans rfl; have k1 := (Go.Lib.cell_of_heap h3 1).trans rfl; have k2 := (Go.Lib.cell_of_heap h3 2).trans rfl; have k3 := (Go.Lib.cell_of_heap h3 3).trans rfl; have k4 := (Go.Lib.cell_of_heap h3 4).trans rfl; have q0 := (Go.Lib.cell_of_heap hc 0).trans rfl; have q1 := (Go.Lib.cell_of_heap hc 1).trans rfl; have q2 := (Go.Lib.cell_of_heap hc 2).trans rfl; simp only [List.getElem?_toArray, List.getElem?_cons_succ, List.getElem?_cons_zero] at k0 k1 k2 k3 k4 q0 q1 q2; have f0 := blk_frozen hc 0; have f1 := blk_frozen hc 1; have f2 := blk_frozen hc 2; have HC := Aside0.mk hc; clear h3 hb hc))
              go_roundg (L.length - (i + 1))
              case measure => omega
              case rel => exact ⟨i + 1, by omega, by omega, by go_num, by rw [HA.out] <;> simp, by rw [HF.out] <;> go_num, ⟨by unfold Cnt ws3; rw [HW0.out, HW1.out, HW2.out]; exact HC.out⟩, ⟨HB.out⟩⟩
            by_cases l3 : 3 ≤ l
            · have l00 : ¬ (l = 0) := by omega
              have l01 : ¬ (l = 1) := by omega
              have l02 : ¬ (l = 2) := by omega
              have HACC := Aside0.mk hacc
              have HA := Aside0.mk (show nAcc (F ++ L.take (i + 1)) = a + 1 from by rw [HA0.out, hacc]; rfl)
              have HF := Aside0.mk (show nFen (F ++ L.take (i + 1)) = f from by rw [HF0.out]; unfold fenW; rw [hacc]; simp [b1, *])
              have HW0 := Aside0.mk (show nWr 0 (F ++ L.take (i + 1)) = w0 from by rw [HW0.out]; unfold wrL; rw [hacc]; simp [b1, *])
              have HW1 := Aside0.mk (show nWr 1 (F ++ L.take (i + 1)) = w1 from by rw [HW1.out]; unfold wrL; rw [hacc]; simp [b1, *])
              have HW2 := Aside0.mk (show nWr 2 (F ++ L.take (i + 1)) = w2 from by rw [HW2.out]; unfold wrL; rw [hacc]; simp [b1, *])
              clear hacc
              go_wp2_with (first
                | (go_at_call 38; refine (access_calls ⟨k, l, v, u, o⟩ (wr.alloc (.cells #[.int .i64 k, .int .i64 l, .int .i64 v, .int .i64 u, .int .i64 o] 44 (0, 0)))).mono ?_; rintro e W4 ⟨rfl, hb⟩; rw [HACC.out]; have h3 := (hb.block _ (blk_lt H3.out)).trans H3.out; have hc := (hb.block _ (blk_lt HC.out)).trans HC.out; have HB := Aside0.mk (btrans HB.out hb); have k0 := (Go.Lib.cell_of_heap h3 0).trans rfl; have k1 := (Go.Lib.cell_of_heap h3 1).trans rfl; have k2 := (Go.Lib.cell_of_heap h3 2).trans rfl; have k3 := (Go.Lib.cell_of_heap h3 3).trans rfl; have k4 := (Go.Lib.cell_of_heap h3 4).trans rfl; have q0 := (Go.Lib.cell_of_heap hc 0).trans rfl; have q1 := (Go.Lib.cell_of_heap hc 1).trans rfl; have q2 := (Go.Lib.cell_of_heap hc 2).trans rfl; simp only [List.getElem?_toArray, List.getElem?_cons_succ, List.getElem?_cons_zero] at k0 k1 k2 k3 k4 q0 q1 q2; have f0 := blk_frozen hc 0; have f1 := blk_frozen hc 1; have f2 := blk_frozen hc 2; have HC := Aside0.mk hc; clear h3 hb hc))
              go_roundg (L.length - (i + 1))
              case measure => omega
              case rel => exact ⟨i + 1, by omega, by omega, by go_num, by rw [HA.out] <;> simp, by rw [HF.out] <;> go_num, ⟨by unfold Cnt ws3; rw [HW0.out, HW1.out, HW2.out]; exact HC.out⟩, ⟨HB.out⟩⟩
            rcases (show l = 0 ∨ l = 1 ∨ l = 2 by omega) with rfl | rfl | rfl
            · have HACC := Aside0.mk hacc
              have HA := Aside0.mk (show nAcc (F ++ L.take (i + 1)) = a + 1 from by rw [HA0.out, hacc]; rfl)
              have HF := Aside0.mk (show nFen (F ++ L.take (i + 1)) = f from by rw [HF0.out]; unfold fenW; rw [hacc]; simp [b1, *])
              have HW0 := Aside0.mk (show nWr 0 (F ++ L.take (i + 1)) = w0 + 1 from by rw [HW0.out]; unfold wrL; rw [hacc]; simp [b1, *])
              have HW1 := Aside0.mk (show nWr 1 (F ++ L.take (i + 1)) = w1 from by rw [HW1.out]; unfold wrL; rw [hacc]; simp [b1, *])
              have HW2 := Aside0.mk (show nWr 2 (F ++ L.take (i + 1)) = w2 from by rw [HW2.out]; unfold wrL; rw [hacc]; simp [b1, *])
              clear hacc
              go_wp2_with (first
                | (go_at_call 38; refine (access_calls ⟨k, 0, v, u, o⟩ (wr.alloc (.cells #[.int .i64 k, .int .i64 0, .int .i64 v, .int .i64 u, .int .i64 o] 44 (0, 0)))).mono ?_; rintro e W4 ⟨rfl, hb⟩; rw [HACC.out]; have h3 := (hb.block _ (blk_lt H3.out)).trans H3.out; have hc := (hb.block _ (blk_lt HC.out)).trans HC.out; have HB := Aside0.mk (btrans HB.out hb); have k0 := (Go.Lib.cell_of_heap h3 0).trans rfl; have k1 := (Go.Lib.cell_of_heap h3 1).trans rfl; have k2 := (Go.Lib.cell_of_heap h3 2).trans rfl; have k3 := (Go.Lib.cell_of_heap h3 3).trans rfl; have k4 := (Go.Lib.cell_of_heap h3 4).trans rfl; have q0 := (Go.Lib.cell_of_heap hc 0).trans rfl; have q1 := (Go.Lib.cell_of_heap hc 1).trans rfl; have q2 := (Go.Lib.cell_of_heap hc 2).trans rfl; simp only [List.getElem?_toArray, List.getElem?_cons_succ, List.getElem?_cons_zero] at k0 k1 k2 k3 k4 q0 q1 q2; have f0 := blk_frozen hc 0; have f1 := blk_frozen hc 1; have f2 := blk_frozen hc 2; have HC := Aside0.mk hc; clear h3 hb hc))
              have hcn := blk_set HC.out 0 (.int .i64 (IntKind.i64.wrap ((w0 : Int) + 1)))
              rw [show IntKind.i64.wrap ((w0 : Int) + 1) = ((w0 + 1 : Nat) : Int) from (IntWalk.i64_in _ (by omega)).trans (by omega)] at hcn
              go_roundg (L.length - (i + 1))
              case measure => omega
              case rel => exact ⟨i + 1, by omega, by omega, by go_num, by rw [HA.out] <;> simp, by rw [HF.out] <;> go_num, ⟨by unfold Cnt ws3; rw [HW0.out, HW1.out, HW2.out]; exact hcn⟩, ⟨bset HB.out (by omega)⟩⟩
            · have HACC := Aside0.mk hacc
              have HA := Aside0.mk (show nAcc (F ++ L.take (i + 1)) = a + 1 from by rw [HA0.out, hacc]; rfl)
              have HF := Aside0.mk (show nFen (F ++ L.take (i + 1)) = f from by rw [HF0.out]; unfold fenW; rw [hacc]; simp [b1, *])
              have HW0 := Aside0.mk (show nWr 0 (F ++ L.take (i + 1)) = w0 from by rw [HW0.out]; unfold wrL; rw [hacc]; simp [b1, *])
              have HW1 := Aside0.mk (show nWr 1 (F ++ L.take (i + 1)) = w1 + 1 from by rw [HW1.out]; unfold wrL; rw [hacc]; simp [b1, *])
              have HW2 := Aside0.mk (show nWr 2 (F ++ L.take (i + 1)) = w2 from by rw [HW2.out]; unfold wrL; rw [hacc]; simp [b1, *])
              clear hacc
              go_wp2_with (first
                | (go_at_call 38; refine (access_calls ⟨k, 1, v, u, o⟩ (wr.alloc (.cells #[.int .i64 k, .int .i64 1, .int .i64 v, .int .i64 u, .int .i64 o] 44 (0, 0)))).mono ?_; rintro e W4 ⟨rfl, hb⟩; rw [HACC.out]; have h3 := (hb.block _ (blk_lt H3.out)).trans H3.out; have hc := (hb.block _ (blk_lt HC.out)).trans HC.out; have HB := Aside0.mk (btrans HB.out hb); have k0 := (Go.Lib.cell_of_heap h3 0).trans rfl; have k1 := (Go.Lib.cell_of_heap h3 1).trans rfl; have k2 := (Go.Lib.cell_of_heap h3 2).trans rfl; have k3 := (Go.Lib.cell_of_heap h3 3).trans rfl; have k4 := (Go.Lib.cell_of_heap h3 4).trans rfl; have q0 := (Go.Lib.cell_of_heap hc 0).trans rfl; have q1 := (Go.Lib.cell_of_heap hc 1).trans rfl; have q2 := (Go.Lib.cell_of_heap hc 2).trans rfl; simp only [List.getElem?_toArray, List.getElem?_cons_succ, List.getElem?_cons_zero] at k0 k1 k2 k3 k4 q0 q1 q2; have f0 := blk_frozen hc 0; have f1 := blk_frozen hc 1; have f2 := blk_frozen hc 2; have HC := Aside0.mk hc; clear h3 hb hc))
              have hcn := blk_set HC.out 1 (.int .i64 (IntKind.i64.wrap ((w1 : Int) + 1)))
              rw [show IntKind.i64.wrap ((w1 : Int) + 1) = ((w1 + 1 : Nat) : Int) from (IntWalk.i64_in _ (by omega)).trans (by omega)] at hcn
              go_roundg (L.length - (i + 1))
              case measure => omega
              case rel => exact ⟨i + 1, by omega, by omega, by go_num, by rw [HA.out] <;> simp, by rw [HF.out] <;> go_num, ⟨by unfold Cnt ws3; rw [HW0.out, HW1.out, HW2.out]; exact hcn⟩, ⟨bset HB.out (by omega)⟩⟩
            · have HACC := Aside0.mk hacc
              have HA := Aside0.mk (show nAcc (F ++ L.take (i + 1)) = a + 1 from by rw [HA0.out, hacc]; rfl)
              have HF := Aside0.mk (show nFen (F ++ L.take (i + 1)) = f from by rw [HF0.out]; unfold fenW; rw [hacc]; simp [b1, *])
              have HW0 := Aside0.mk (show nWr 0 (F ++ L.take (i + 1)) = w0 from by rw [HW0.out]; unfold wrL; rw [hacc]; simp [b1, *])
              have HW1 := Aside0.mk (show nWr 1 (F ++ L.take (i + 1)) = w1 from by rw [HW1.out]; unfold wrL; rw [hacc]; simp [b1, *])
              have HW2 := Aside0.mk (show nWr 2 (F ++ L.take (i + 1)) = w2 + 1 from by rw [HW2.out]; unfold wrL; rw [hacc]; simp [b1, *])
              clear hacc
              go_wp2_with (first
                | (go_at_call 38; refine (access_calls ⟨k, 2, v, u, o⟩ (wr.alloc (.cells #[.int .i64 k, .int .i64 2, .int .i64 v, .int .i64 u, .int .i64 o] 44 (0, 0)))).mono ?_; rintro e W4 ⟨rfl, hb⟩; rw [HACC.out]; have h3 := (hb.block _ (blk_lt H3.out)).trans H3.out; have hc := (hb.block _ (blk_lt HC.out)).trans HC.out; have HB := Aside0.mk (btrans HB.out hb); have k0 := (Go.Lib.cell_of_heap h3 0).trans rfl; have k1 := (Go.Lib.cell_of_heap h3 1).trans rfl; have k2 := (Go.Lib.cell_of_heap h3 2).trans rfl; have k3 := (Go.Lib.cell_of_heap h3 3).trans rfl; have k4 := (Go.Lib.cell_of_heap h3 4).trans rfl; have q0 := (Go.Lib.cell_of_heap hc 0).trans rfl; have q1 := (Go.Lib.cell_of_heap hc 1).trans rfl; have q2 := (Go.Lib.cell_of_heap hc 2).trans rfl; simp only [List.getElem?_toArray, List.getElem?_cons_succ, List.getElem?_cons_zero] at k0 k1 k2 k3 k4 q0 q1 q2; have f0 := blk_frozen hc 0; have f1 := blk_frozen hc 1; have f2 := blk_frozen hc 2; have HC := Aside0.mk hc; clear h3 hb hc))
              have hcn := blk_set HC.out 2 (.int .i64 (IntKind.i64.wrap ((w2 : Int) + 1)))
              rw [show IntKind.i64.wrap ((w2 : Int) + 1) = ((w2 + 1 : Nat) : Int) from (IntWalk.i64_in _ (by omega)).trans (by omega)] at hcn
              go_roundg (L.length - (i + 1))
              case measure => omega
              case rel => exact ⟨i + 1, by omega, by omega, by go_num, by rw [HA.out] <;> simp, by rw [HF.out] <;> go_num, ⟨by unfold Cnt ws3; rw [HW0.out, HW1.out, HW2.out]; exact hcn⟩, ⟨bset HB.out (by omega)⟩⟩
        · have hii : ¬ (i : Int) < (L.length : Int) := by omega
          have he : L.take i = L := List.take_of_length_le (by omega)
          rw [he, ← HFN.out] at HC ⊢
          go_wp2
          go_roundg (P.length - (t + 1))
          case measure => omega
          case rel => exact ⟨t + 1, by omega, by omega, by go_num, rfl, rfl, HC, HB⟩
    · have hii : ¬ (t : Int) < (P.length : Int) := by omega
      have he : P.take t = P := List.take_of_length_le (by omega)
      rw [he] at HC ⊢
      have hc := HC.out
      unfold Cnt ws3 at hc
      have hal := nAcc_le P.flatten
      have hfl := nFen_le P.flatten
      have q0 := (Go.Lib.cell_of_heap hc 0).trans rfl
      have q1 := (Go.Lib.cell_of_heap hc 1).trans rfl
      have q2 := (Go.Lib.cell_of_heap hc 2).trans rfl
      simp only [List.getElem?_toArray, List.getElem?_cons_succ, List.getElem?_cons_zero] at q0 q1 q2
      have HMX := Aside0.mk (Try.slices_Max_int (w.heap.size + 1) 0 3 3 [(nWr 0 P.flatten : Int), (nWr 1 P.flatten : Int), (nWr 2 P.flatten : Int)] wr (by decide) (Nat.le_refl 3) (by decide) (by
        intro j hj
        match j, hj with
        | 0, _ => exact q0
        | 1, _ => exact q1
        | 2, _ => exact q2
        | j + 3, h => exact absurd h (by simp)))
      have HL := Aside0.mk (show limL P = (decide (nAcc P.flatten ≤ 6) && decide (nFen P.flatten ≤ 8) && (decide (nWr 0 P.flatten ≤ 4) && decide (nWr 1 P.flatten ≤ 4) && decide (nWr 2 P.flatten ≤ 4))) from by
        unfold limL; rw [show decide (P.length ≤ 3) = true by simp; omega, Bool.true_and])
      have HLR := Aside0.mk (HLR.out.trans HL.out)
      generalize nAcc P.flatten = a at *
      generalize nFen P.flatten = f at *
      generalize nWr 0 P.flatten = w0 at *
      generalize nWr 1 P.flatten = w1 at *
      generalize nWr 2 P.flatten = w2 at *
      clear HL q0 q1 q2 hc HC
      by_cases ha6 : a ≤ 6
      · have hai : (a : Int) ≤ 6 := by omega
        by_cases hf8 : f ≤ 8
        · have hfi : (f : Int) ≤ 8 := by omega
          obtain ⟨m, hm⟩ : ∃ m, m = Go.Lib.maxOf ([(w0 : Int), (w1 : Int), (w2 : Int)].take 3) := ⟨_, rfl⟩
          rw [← hm] at HMX
          have hm2 : m = max (max (w0 : Int) (w1 : Int)) (w2 : Int) := by rw [hm]; simp [Go.Lib.maxOf]
          have HM2 := Aside0.mk hm2
          clear hm hm2
          by_cases hm4 : m ≤ 4
          · have hr : (decide (a ≤ 6) && decide (f ≤ 8) && (decide (w0 ≤ 4) && decide (w1 ≤ 4) && decide (w2 ≤ 4))) = true := by
              have := HM2.out
              simp only [Bool.and_eq_true, decide_eq_true_eq]
              omega
            have HRR := Aside0.mk (HLR.out.trans hr)
            clear hr
            have hmd : decide (m ≤ 4) = true := by simp; exact hm4
            go_wp2_with (first | (go_at_call 61; refine HMX.out.mono ?_; rintro e w' ⟨rfl, hw⟩; rw [hw]; clear hw))
            go_ret
            exact ⟨by rw [HRR.out]; rfl, HB.out⟩
          · have hr : (decide (a ≤ 6) && decide (f ≤ 8) && (decide (w0 ≤ 4) && decide (w1 ≤ 4) && decide (w2 ≤ 4))) = false := by
              have := HM2.out
              have h3 : ¬ (w0 ≤ 4 ∧ w1 ≤ 4 ∧ w2 ≤ 4) := by omega
              simp only [Bool.and_eq_false_iff, decide_eq_false_iff_not]
              omega
            have HRR := Aside0.mk (HLR.out.trans hr)
            clear hr
            have hmd : decide (m ≤ 4) = false := decide_eq_false hm4
            go_wp2_with (first | (go_at_call 61; refine HMX.out.mono ?_; rintro e w' ⟨rfl, hw⟩; rw [hw]; clear hw))
            go_ret
            exact ⟨by rw [HRR.out]; rfl, HB.out⟩
        · have hfi : ¬ (f : Int) ≤ 8 := by omega
          have HRR := Aside0.mk (show r = false from by rw [HLR.out, show decide (f ≤ 8) = false by simp; omega, Bool.and_false, Bool.false_and])
          go_wp2
          go_ret
          exact ⟨by rw [HRR.out]; rfl, HB.out⟩
      · have hai : ¬ (a : Int) ≤ 6 := by omega
        have HRR := Aside0.mk (show r = false from by rw [HLR.out, show decide (a ≤ 6) = false by simp; omega, Bool.false_and, Bool.false_and])
        go_wp2
        go_ret
        exact ⟨by rw [HRR.out]; rfl, HB.out⟩
end Go.Proofs.Ytgfbgbclpeihdaa.Li
