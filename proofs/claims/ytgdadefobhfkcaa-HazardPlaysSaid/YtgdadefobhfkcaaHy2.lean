/- slices.IndexFunc, ContainsFunc and DeleteFunc over what waits, at whatever function value that keeps its promise: plain lemmas; no condition. -/
import Derived.Test.YtgdadefobhfkcaaHy1
namespace Go.Proofs.Ytgdadefobhfkcaa.Hy
open Go.RowKit Go.Proofs.YtgdadefobhfkcaaW.PrintWords Go.Proofs.YtgdadefobhfkcaaW.PrintLast Go.Proofs.YtgdadefobhfkcaaW.PrintMore
set_option linter.unusedVariables false
set_option linter.unusedSimpArgs false

abbrev P2 := Int × Int
/-- The row at block b holds l, and has room for cap. -/
def Row (w : World) (b cap : Nat) (l : List P2) : Prop := ∃ cur, w.heap[b]? = some (.cells cur 61 (0, 0)) ∧ cur.size = cap * 2 ∧ l.length ≤ cap ∧ cur.toList.take (l.length * 2) = flat l
theorem Row.cell {w : World} {b cap : Nat} {l : List P2} (h : Row w b cap l) (j : Nat) (hj : j < l.length) : w.cell? ⟨b, j * 2, none⟩ = some (.int .i64 (l.getD j (0, 0)).1) ∧ w.cell? ⟨b, j * 2 + 1, none⟩ = some (.int .i64 (l.getD j (0, 0)).2) := by
  obtain ⟨cur, h1, h2, h3, h4⟩ := h
  have hg := flat_get l j hj
  rw [← h4, List.getElem?_take_of_lt (by omega), List.getElem?_take_of_lt (by omega)] at hg
  constructor
  · rw [Go.Lib.cell_of_heap h1]; simpa using hg.1
  · rw [Go.Lib.cell_of_heap h1]; simpa using hg.2
theorem Row.frozen {w : World} {b cap : Nat} {l : List P2} (h : Row w b cap l) (j : Nat) : w.frozen? ⟨b, j, none⟩ = false := by
  obtain ⟨cur, h1, _⟩ := h
  exact blk_frozen h1 j
theorem Row.same {w w' : World} {b cap : Nat} {l : List P2} (h : Row w b cap l) (e : w'.heap[b]? = w.heap[b]?) : Row w' b cap l := by
  obtain ⟨cur, h1, h2⟩ := h
  exact ⟨cur, e.trans h1, h2⟩
theorem Row.lt {w : World} {b cap : Nat} {l : List P2} (h : Row w b cap l) : b < w.heap.size := by
  obtain ⟨cur, h1, _⟩ := h
  exact blk_lt h1
theorem flat_append (a b : List P2) : flat (a ++ b) = flat a ++ flat b := by
  induction a with
  | nil => rfl
  | cons p r ih => simp [flat, ih]
theorem flat_take (l : List P2) : ∀ i, (flat l).take (i * 2) = flat (l.take i) := by
  induction l with
  | nil => intro i; simp [flat]
  | cons p r ih =>
    intro i
    cases i with
    | zero => simp [flat]
    | succ i =>
      rw [show (i + 1) * 2 = i * 2 + 1 + 1 by omega]
      simp [flat, ih]
theorem flat_set (l : List P2) : ∀ i (x : P2), i < l.length → flat (l.set i x) = ((flat l).set (i * 2) (.int .i64 x.1)).set (i * 2 + 1) (.int .i64 x.2) := by
  induction l with
  | nil => intro i x h; simp at h
  | cons p r ih =>
    intro i x h
    cases i with
    | zero => simp [flat]
    | succ i =>
      rw [show (i + 1) * 2 = i * 2 + 1 + 1 by omega]
      simp only [List.set_cons_succ, flat]
      rw [ih i x (by simpa using h)]
theorem Row.take {w : World} {b cap : Nat} {l : List P2} (h : Row w b cap l) (i : Nat) (hi : i ≤ l.length) : Row w b cap (l.take i) := by
  obtain ⟨cur, h1, h2, h3, h4⟩ := h
  have hl : (l.take i).length = i := by simp; omega
  refine ⟨cur, h1, h2, by omega, ?_⟩
  rw [hl, ← flat_take, ← h4, List.take_take, Nat.min_eq_left (by omega)]
/-- An element is written. -/
theorem Row.put {w : World} {b cap : Nat} {l : List P2} (h : Row w b cap l) (i : Nat) (hi : i < l.length) (x y : Int) : Row ((w.setCell ⟨b, i * 2, none⟩ (.int .i64 x)).setCell ⟨b, i * 2 + 1, none⟩ (.int .i64 y)) b cap (l.set i (x, y)) := by
  obtain ⟨cur, h1, h2, h3, h4⟩ := h
  have g1 := blk_set h1 (i * 2) (.int .i64 x)
  have g2 := blk_set g1 (i * 2 + 1) (.int .i64 y)
  refine ⟨_, g2, by simpa using h2, by simpa using h3, ?_⟩
  rw [List.length_set, flat_set l i (x, y) hi, ← h4, Array.toList_setIfInBounds, Array.toList_setIfInBounds, List.take_set, List.take_set]
theorem zero61 (w : World) : (zeroValue 61).run Try.prog w = .ok (.agg #[.int .i64 0, .int .i64 0]) w := by
  obtain ⟨i0, hi, hzz⟩ := Option.map_eq_some_iff.1 info61
  simp only [Prod.mk.injEq] at hzz
  obtain ⟨hz0, hz1, hz2⟩ := hzz
  simp [zeroValue, typeInfo, hi, hz0]
/-- clear(s): the rest of the row is set to the zero value. -/
theorem wpList_clear {o : Oper} {ops : Array Oper} {rest : List Oper} {a : Act} {W : World} {Q : Exit → Act → World → Prop} (hgd : o.guard = none) (x : Operand) (ho : o.op = .call { callee := .builtin .clear, args := #[x], argTypes := #[51] })
    (b i n c cap : Nat) (l : List P2) (hx : a.eval x = .slice (some ⟨b, i * 2, none⟩) n c) (hn : 0 < n) (hR : Row W b cap l) (hi : i + n = l.length)
    (h : ∀ W2, Row W2 b cap (l.take i) → (∀ k, k ≠ b → W2.heap[k]? = W.heap[k]?) → W2.os = W.os → W2.tape = W.tape → W2.output = W.output → W2.heap.size = W.heap.size → wpList Try.prog ops Q rest (a.put o.dst (.tuple #[])) W2) : wpList Try.prog ops Q (o :: rest) a W := by
  obtain ⟨cur, h1, h2, h3, h4⟩ := hR
  have hzc : (Builtin.zeroCells (Value.cells (.agg #[.int .i64 0, .int .i64 0])) n).toList = List.replicate (n * 2) (.int .i64 0) := by
    apply List.ext_getElem
    · simp [Builtin.zeroCells, Value.cells]
    · intro j g1 g2
      have hm : j % 2 = 0 ∨ j % 2 = 1 := by omega
      rcases hm with hm | hm <;> simp [Builtin.zeroCells, Value.cells, hm]
  have hst := run_storeCells_cells (P := Try.prog) b (i * 2) (List.replicate (n * 2) (.int .i64 0)) 0 W
    (fun j hj => by
      have hj : j < n * 2 := by simpa using hj
      rw [Go.Lib.cell_of_heap h1]
      have : i * 2 + 0 + j < cur.size := by omega
      rw [Array.getElem?_eq_getElem this]; rfl)
    (fun j hj => blk_frozen h1 _) (by intro v hv; rw [List.eq_of_mem_replicate hv]; rfl)
  simp only [Nat.add_zero] at hst
  obtain ⟨cur', r1, r2, r3⟩ := setCells_row (g := b) (e := 61) (List.replicate (n * 2) (.int .i64 0)) (i * 2) W cur h1 (by simp; omega)
  obtain ⟨s1, s2, s3, s4⟩ := setCells_same b (List.replicate (n * 2) (.int .i64 0)) (i * 2) W
  have far := fun k hk => setCells_far (g := b) (List.replicate (n * 2) (.int .i64 0)) (i * 2) (w := W) k hk
  generalize W.setCells b (i * 2) (List.replicate (n * 2) (.int .i64 0)) = W2 at *
  have hrun : (Builtin.clear_ #[51] o.type #[.slice (some ⟨b, i * 2, none⟩) n c]).run Try.prog W = .ok (.tuple #[]) W2 := by
    obtain ⟨m, rfl⟩ : ∃ m, n = m + 1 := ⟨n - 1, by omega⟩
    simp [Builtin.clear_, run_underlying Try.underlying51, zero61, hzc, hst]
  refine wpList_plain hgd fun K hK => ?_
  unfold Oper.wp
  simp [execOp, ho, resolve, invoke, builtin, hx, hrun, Result.andThen]
  refine hK _ _ (h W2 ⟨cur', r1, r2.trans h2, by simp; omega, ?_⟩ far s1 s2 s3 s4)
  have hl : (l.take i).length = i := by simp; omega
  have hcl : i * 2 ≤ cur.toList.length := by rw [Array.length_toList]; omega
  rw [hl, r3, List.append_assoc, List.take_append_of_le_length (by simp; omega), List.take_take, Nat.min_self, ← flat_take, ← h4, List.take_take, Nat.min_eq_left (by omega)]

set_option maxHeartbeats 8000000 in
set_option maxRecDepth 100000 in
theorem indexW (p : P2 → Bool) (g : Nat) (lb : Array Value) (eg : ∀ args w, (callFunc g args).run Try.prog w = .ok (.enter g args) w) (Inv : Nat → World → Prop) (A : Option Addr) (c : Nat) (l : List P2) (w : World)
    (hp : ∀ i W, i < l.length → Inv i W → Calls Try.prog g (#[.agg #[.int .i64 (l.getD i (0, 0)).1, .int .i64 (l.getD i (0, 0)).2]] ++ lb) W fun e W' => e = .returned (.bool (p (l.getD i (0, 0)))) ∧ Inv (i + 1) W')
    (hr : ∀ i W, Inv i W → ∀ j, j < l.length → ∃ b, A = some ⟨b, 0, none⟩ ∧ W.cell? ⟨b, j * 2, none⟩ = some (.int .i64 (l.getD j (0, 0)).1) ∧ W.cell? ⟨b, j * 2 + 1, none⟩ = some (.int .i64 (l.getD j (0, 0)).2))
    (h0 : Inv 0 w) (hl : l.length ≤ 1000000) :
    Calls Try.prog 53 #[.slice A l.length c, .func (.func g) #[] lb] w fun e w' => ∃ k : Nat, k ≤ l.length ∧ e = .returned (.int .i64 (if k < l.length then (k : Int) else -1)) ∧ (∀ j, j < k → p (l.getD j (0, 0)) = false) ∧ (k < l.length → p (l.getD k (0, 0)) = true) ∧ Inv (if k < l.length then k + 1 else k) w' := by
  have H0 := Aside0.mk h0
  have HP := Aside0.mk hp
  have HR := Aside0.mk hr
  clear h0 hp hr
  go_enter Try.func53, Try.ntmps53
  go_wp2
  go_loopg [5, 8] l.length (fun gg _ s8 wr => ∃ kk : Nat, kk ≤ l.length ∧ l.length - kk ≤ gg ∧ s8 = .int .i64 kk ∧ Aside0 (Inv kk wr) ∧ Aside0 (∀ j : Nat, j < kk → p (l.getD j (0, 0)) = false))
  case atStart => exact ⟨0, Nat.zero_le _, by omega, rfl, H0, ⟨fun j hj => absurd hj (Nat.not_lt_zero _)⟩⟩
  case round =>
    clear H0
    obtain ⟨kk, hkk, hg, rfl, HI, B⟩ := hrel
    by_cases hlt : kk < l.length
    · obtain ⟨b, rfl, hc1, hc2⟩ := HR.out _ _ HI.out kk hlt
      have hcall := HP.out kk _ hlt HI.out
      obtain ⟨x, hx⟩ : ∃ x, x = l.getD kk (0, 0) := ⟨_, rfl⟩
      have HX := Aside0.mk hx
      rw [← hx] at hc1 hc2 hcall
      clear hx
      obtain ⟨x1, x2⟩ := x
      simp only at hc1 hc2 hcall
      cases hq : p (x1, x2) with
      | true =>
        rw [hq] at hcall
        go_wp2_with (go_at_fn g; refine hcall.mono ?_; rintro e w' ⟨rfl, hi⟩)
        go_ret
        exact ⟨kk, hkk, by rw [if_pos hlt]; rfl, B.out, fun _ => by rw [← HX.out]; exact hq, by rw [if_pos hlt]; exact hi⟩
      | false =>
        rw [hq] at hcall
        go_wp2_with (go_at_fn g; refine hcall.mono ?_; rintro e w' ⟨rfl, hi⟩; replace hi := Aside0.mk hi)
        go_roundg (l.length - (kk + 1))
        case measure => omega
        case rel =>
          refine ⟨kk + 1, by omega, by omega, by go_num, hi, ⟨fun j hj => ?_⟩⟩
          by_cases e : j = kk
          · subst e
            rw [← HX.out]; exact hq
          · exact B.out j (by omega)
    · have : kk = l.length := by omega
      subst this
      go_wp2
      go_ret
      refine ⟨l.length, Nat.le_refl _, by rw [if_neg (Nat.lt_irrefl _)]; rfl, B.out, fun h => absurd h (Nat.lt_irrefl _), ?_⟩
      rw [if_neg (Nat.lt_irrefl _)]
      exact HI.out

/-- slices.DeleteFunc at a row of what waits; Inv: what else the function value needs and does; it stays under writes to the row and under new blocks. -/
structure Keeps (b : Nat) (p : P2 → Bool) (g : Nat) (lb : Array Value) (l : List P2) (Inv : Nat → World → Prop) : Prop where
  call : ∀ i W, i < l.length → Inv i W → Calls Try.prog g (#[.agg #[.int .i64 (l.getD i (0, 0)).1, .int .i64 (l.getD i (0, 0)).2]] ++ lb) W fun e W' => e = .returned (.bool (p (l.getD i (0, 0)))) ∧ Inv (i + 1) W' ∧ ∀ (k : Nat) (c : Array Value), W.heap[k]? = some (Obj.cells c 61 (0, 0)) → W'.heap[k]? = some (Obj.cells c 61 (0, 0))
  write : ∀ s W W', Inv s W → (∀ k, k ≠ b → W'.heap[k]? = W.heap[k]?) → W'.os = W.os → W'.tape = W.tape → W'.output = W.output → W'.heap.size = W.heap.size → Inv s W'
  grow : ∀ s W W', Inv s W → Below W.heap.size W W' → Inv s W'
theorem Keeps.put {b : Nat} {p : P2 → Bool} {g : Nat} {lb : Array Value} {l : List P2} {Inv : Nat → World → Prop} (h : Keeps b p g lb l Inv) (s : Nat) (W : World) (j : Nat) (v : Value) (hi : Inv s W) : Inv s (W.setCell ⟨b, j, none⟩ v) :=
  h.write s W _ hi (fun k hk => Below.heap_setCell W ⟨b, j, none⟩ v k hk) rfl rfl rfl (by simp [World.setCell])
theorem Keeps.alloc {b : Nat} {p : P2 → Bool} {g : Nat} {lb : Array Value} {l : List P2} {Inv : Nat → World → Prop} (h : Keeps b p g lb l Inv) (s : Nat) (W : World) (o : Obj) (hi : Inv s W) : Inv s (W.alloc o) :=
  h.grow s W _ hi ((Below.refl _ _).alloc (Nat.le_refl _) o)
theorem alloc_old (W : World) (o : Obj) (k : Nat) (h : k < W.heap.size) : (W.alloc o).heap[k]? = W.heap[k]? := Below.heap_alloc W o k h
theorem filter_snoc (p : P2 → Bool) (l : List P2) (j : Nat) (hj : j < l.length) : (l.take (j + 1)).filter (fun x => !p x) = (l.take j).filter (fun x => !p x) ++ (if p (l.getD j (0, 0)) then [] else [l.getD j (0, 0)]) := by
  rw [List.take_succ_eq_append_getElem hj, List.filter_append]
  congr 1
  have : l.getD j (0, 0) = l[j] := by simp [hj]
  rw [this]
  cases h : p l[j] <;> simp [h]
theorem filter_none (p : P2 → Bool) (l : List P2) (k : Nat) (hk : k ≤ l.length) (h : ∀ j, j < k → p (l.getD j (0, 0)) = false) : (l.take k).filter (fun x => !p x) = l.take k := by
  rw [List.filter_eq_self]
  intro x hx
  obtain ⟨j, hj, rfl⟩ := List.mem_iff_getElem.1 hx
  have hj' : j < k := by simpa using (by simp at hj; omega : j < k)
  have := h j hj'
  rw [List.getElem_take]
  have e : l.getD j (0, 0) = l[j] := by simp [show j < l.length by omega]
  rw [e] at this
  rw [this]; rfl

set_option maxHeartbeats 8000000 in
set_option maxRecDepth 100000 in
theorem deleteW (p : P2 → Bool) (g : Nat) (lb : Array Value) (eg : ∀ args w, (callFunc g args).run Try.prog w = .ok (.enter g args) w) (Inv : Nat → World → Prop) (b cap : Nat) (l : List P2) (w : World)
    (hK : Keeps b p g lb l Inv) (hR : Row w b cap l) (h0 : Inv 0 w) (hl : l.length ≤ 1000000) :
    Calls Try.prog 51 #[.slice (some ⟨b, 0, none⟩) l.length cap, .func (.func g) #[] lb] w fun e w' => e = .returned (.slice (some ⟨b, 0, none⟩) (l.filter fun x => !p x).length cap) ∧ Inv l.length w' ∧ Row w' b cap (l.filter fun x => !p x) := by
  have hcon := indexW p g lb eg (fun s W => Inv s W ∧ W.heap[b]? = w.heap[b]?) (some ⟨b, 0, none⟩) cap l w
    (fun s W hs h => (hK.call s W hs h.1).mono (fun e W' he => ⟨he.1, he.2.1, by obtain ⟨cur, h1, _⟩ := hR; exact (he.2.2 b cur (h.2.trans h1)).trans h1.symm⟩))
    (fun s W h j hj => ⟨b, rfl, (hR.same h.2).cell j hj⟩) ⟨h0, rfl⟩ hl
  have hcap : l.length ≤ cap := by obtain ⟨_, _, _, h, _⟩ := hR; exact h
  have HR := Aside0.mk hR
  have HK := Aside0.mk hK
  clear hR h0 hK
  have hcon2 : Calls Try.prog 53 #[.slice (some ⟨b, 0, none⟩) l.length cap, .func (.func g) #[] lb] w fun e w' => (e = .returned (.int .i64 (-1)) ∧ (l.filter fun x => !p x) = l ∧ Inv l.length w' ∧ Row w' b cap l) ∨
      (∃ k : Nat, k < l.length ∧ ((k : Int) == -1) = false ∧ e = .returned (.int .i64 (k : Int)) ∧ (l.take (k + 1)).filter (fun x => !p x) = l.take k ∧ Inv (k + 1) w' ∧ Row w' b cap l) := by
    refine hcon.mono ?_
    rintro e w' ⟨k, hk, rfl, ha, hb, hi, hrow⟩
    by_cases hlt : k < l.length
    · right
      refine ⟨k, hlt, beq_eq_false_iff_ne.2 (by omega), by rw [if_pos hlt], ?_, by rw [if_pos hlt] at hi; exact hi, HR.out.same hrow⟩
      rw [filter_snoc p l k hlt, hb hlt, if_pos rfl, List.append_nil, filter_none p l k hk ha]
    · left
      have : k = l.length := by omega
      subst this
      have hf := filter_none p l l.length (Nat.le_refl _) ha
      rw [List.take_length] at hf
      rw [if_neg hlt] at hi
      exact ⟨by rw [if_neg hlt], hf, hi, HR.out.same hrow⟩
  clear hcon HR
  obtain ⟨F, hF⟩ : ∃ F, F = l.filter (fun x => !p x) := ⟨_, rfl⟩
  have HF := Aside0.mk hF
  rw [← hF] at hcon2 ⊢
  clear hF
  go_enter Try.func51, Try.ntmps51
  go_wp2_with (go_at_call 53; refine hcon2.mono ?_; rintro e w' (⟨rfl, hfil, hi, hrow⟩ | ⟨k, hk, hne, rfl, hfil, hi, hrow⟩); all_goals (first | (have HK1 := Aside0.mk hk; clear HK1; have HFk := Aside0.mk hfil; have HI := Aside0.mk hi; have HR := Aside0.mk hrow; clear hfil hi hrow hcon2) | (subst hfil; have HI := Aside0.mk hi; have HR := Aside0.mk hrow; clear hi hrow hcon2)))
  · go_ret
    exact ⟨rfl, HI.out, HR.out⟩
  · go_loopg [5, 6, 7] l.length (fun gg s5 s6 s7 wr => ∃ (ii jj : Nat) (ls : List P2), ii < jj ∧ jj ≤ l.length ∧ l.length - jj ≤ gg ∧ s5 = .int .i64 ii ∧ s6 = .int .i64 jj ∧ ls.length = l.length ∧ Aside0 ((l.take jj).filter (fun x => !p x) = ls.take ii) ∧ Aside0 (ls.drop jj = l.drop jj) ∧ Aside0 (Inv jj wr) ∧ Aside0 (Row wr b cap ls))
    case atStart => exact ⟨k, k + 1, l, by omega, by omega, by omega, rfl, by go_num, rfl, HFk, ⟨rfl⟩, HI, HR⟩
    case round =>
      clear HFk HI HR hne hk
      obtain ⟨ii, jj, ls, hij, hjl, hgg, rfl, rfl, hlen, HT, HD, HI, HR⟩ := hrel
      by_cases hlt : jj < l.length
      · have hx0 : ls.getD jj (0, 0) = l.getD jj (0, 0) := by
          have h1 := HD.out
          rw [List.drop_eq_getElem_cons (by omega), List.drop_eq_getElem_cons hlt] at h1
          injection h1 with h1 _
          simp [h1, hlt, hlen]
        have hd1 : ls.drop (jj + 1) = l.drop (jj + 1) := by
          have h1 := HD.out
          rw [List.drop_eq_getElem_cons (by omega), List.drop_eq_getElem_cons hlt] at h1
          injection h1
        have hfs := filter_snoc p l jj hlt
        obtain ⟨hc1, hc2⟩ := HR.out.cell jj (by omega)
        rw [hx0] at hc1 hc2
        have hcall := fun o => HK.out.call jj _ hlt (HK.out.alloc jj wr o HI.out)
        obtain ⟨x, hx⟩ : ∃ x, x = l.getD jj (0, 0) := ⟨_, rfl⟩
        rw [← hx] at hc1 hc2 hfs hcall
        clear hx hx0
        obtain ⟨x1, x2⟩ := x
        simp only at hc1 hc2 hcall
        replace hcall := hcall (.cells #[.int .i64 x1, .int .i64 x2] 61 (0, 0))
        have hrlt := HR.out.lt
        have HRa := Aside0.mk (HR.out.same (alloc_old wr (.cells #[.int .i64 x1, .int .i64 x2] 61 (0, 0)) b hrlt))
        have hva := heap_alloc_new wr (.cells #[.int .i64 x1, .int .i64 x2] 61 (0, 0))
        have HV := Aside0.mk hva
        have HFS := Aside0.mk hfs
        have HD1 := Aside0.mk hd1
        clear hfs hd1 hva HR HI HD hrlt
        cases hq : p (x1, x2) with
        | true =>
          rw [hq] at hcall
          go_wp2_with (go_at_fn g; refine hcall.mono ?_; rintro e w' ⟨rfl, hi, hk61⟩; have HI := Aside0.mk hi; have HR : Aside0 (Row w' b cap ls) := (by constructor; obtain ⟨cur, h1, h2⟩ := HRa.out; exact ⟨cur, hk61 b cur h1, h2⟩); clear hi hk61)
          go_roundg (l.length - (jj + 1))
          case measure => omega
          case rel =>
            refine ⟨ii, jj + 1, ls, by omega, by omega, by omega, rfl, by go_num, hlen, ⟨?_⟩, HD1, HI, HR⟩
            rw [HFS.out, hq, if_pos rfl, List.append_nil]
            exact HT.out
        | false =>
          rw [hq] at hcall
          go_wp2_with (go_at_fn g; refine hcall.mono ?_; rintro e w' ⟨rfl, hi, hk61⟩; have HI := Aside0.mk hi; have HR : Aside0 (Row w' b cap ls) := (by constructor; obtain ⟨cur, h1, h2⟩ := HRa.out; exact ⟨cur, hk61 b cur h1, h2⟩); obtain ⟨hv1, hv2⟩ : w'.cell? ⟨wr.heap.size, 0, none⟩ = some (.int .i64 x1) ∧ w'.cell? ⟨wr.heap.size, 1, none⟩ = some (.int .i64 x2) := (by have hv := hk61 _ _ HV.out; rw [Go.Lib.cell_of_heap hv, Go.Lib.cell_of_heap hv]; exact ⟨rfl, rfl⟩); obtain ⟨hs1, hs2⟩ := HR.out.cell ii (by omega); have hf1 := HR.out.frozen (ii * 2); have hf2 := HR.out.frozen (ii * 2 + 1); clear hi hk61)
          go_roundg (l.length - (jj + 1))
          case measure => omega
          case rel =>
            refine ⟨ii + 1, jj + 1, ls.set ii (x1, x2), by omega, by omega, by omega, by go_num, by go_num, by simpa using hlen, ⟨?_⟩, ⟨?_⟩, ⟨?_⟩, ⟨HR.out.put ii (by omega) x1 x2⟩⟩
            · rw [HFS.out, hq, HT.out]
              have : (ls.set ii (x1, x2)).take (ii + 1) = ls.take ii ++ [(x1, x2)] := by
                rw [List.take_succ_eq_append_getElem (by simp; omega)]
                simp [List.take_set_of_le]
              rw [this]
              rfl
            · rw [List.drop_set_of_lt (by omega)]
              exact HD1.out
            · exact HK.out.put _ _ _ _ (HK.out.put _ _ _ _ HI.out)
      · have hjj : jj = l.length := by omega
        subst hjj
        have hT := HT.out
        rw [List.take_length] at hT
        have hF2 : F = ls.take ii := HF.out.trans hT
        have hFl : F.length = ii := by rw [hF2]; simp; omega
        have HI2 := HI
        have HF2 := Aside0.mk hF2
        clear hT hF2 HT HI HD HF
        have hne : ¬ (cap = ii) := by omega
        subst hFl
        go_wp2_with ((with_reducible refine gate_builtin (b := .clear) (xs := #[.tmp 38]) rfl ?_); refine wpList_clear rfl (.tmp 38) rfl b F.length (l.length - F.length) (cap - F.length) cap ls (by simp [Act.eval, hne]) (by omega) HR.out (by omega) ?_; intro w2 hr2 far s1 s2 s3 s4; have HR2 := Aside0.mk hr2; have HI3 := Aside0.mk (HK.out.write _ _ _ HI2.out far s1 s2 s3 s4); clear hr2 far s1 s2 s3 s4)
        go_ret
        refine ⟨rfl, HI3.out, ?_⟩
        have := HR2.out
        rwa [← HF2.out] at this
/-- The same at a nil slice. -/
theorem deleteNil (g : Nat) (lb : Array Value) (eg : ∀ args w, (callFunc g args).run Try.prog w = .ok (.enter g args) w) (w : World) :
    Calls Try.prog 51 #[.slice none 0 0, .func (.func g) #[] lb] w fun e w' => e = .returned (.slice none 0 0) ∧ w' = w := by
  have hcon : Calls Try.prog 53 #[.slice none 0 0, .func (.func g) #[] lb] w fun e w' => e = .returned (.int .i64 (-1)) ∧ w' = w := by
    go_enter Try.func53, Try.ntmps53
    go_wp2
    go_loopg [5, 8] 0 (fun gg _ s8 wr => s8 = .int .i64 0 ∧ wr = w)
    case atStart => exact ⟨rfl, rfl⟩
    case round =>
      obtain ⟨rfl, rfl⟩ := hrel
      go_wp2
      go_ret
      exact ⟨rfl, rfl⟩
  go_enter Try.func51, Try.ntmps51
  go_wp2_with (go_at_call 53; refine hcon.mono ?_; rintro e w' ⟨rfl, rfl⟩)
  go_ret
  exact ⟨rfl, rfl⟩
/-- slices.ContainsFunc over what waits. -/
theorem containsW (p : P2 → Bool) (g : Nat) (lb : Array Value) (eg : ∀ args w, (callFunc g args).run Try.prog w = .ok (.enter g args) w) (Inv : World → Prop) (A : Option Addr) (c : Nat) (l : List P2) (w : World)
    (hp : ∀ x W, Inv W → Calls Try.prog g (#[.agg #[.int .i64 x.1, .int .i64 x.2]] ++ lb) W fun e W' => e = .returned (.bool (p x)) ∧ Inv W')
    (hr : ∀ W, Inv W → ∀ j, j < l.length → ∃ b, A = some ⟨b, 0, none⟩ ∧ W.cell? ⟨b, j * 2, none⟩ = some (.int .i64 (l.getD j (0, 0)).1) ∧ W.cell? ⟨b, j * 2 + 1, none⟩ = some (.int .i64 (l.getD j (0, 0)).2))
    (h0 : Inv w) (hl : l.length ≤ 1000000) :
    Calls Try.prog 42 #[.slice A l.length c, .func (.func g) #[] lb] w fun e w' => e = .returned (.bool (l.any p)) ∧ Inv w' := by
  have hcon := indexW p g lb eg (fun _ W => Inv W) A c l w (fun i W hi h => hp _ W h) (fun _ W h => hr W h) h0 hl
  have hcon2 : Calls Try.prog 53 #[.slice A l.length c, .func (.func g) #[] lb] w fun e w' => ∃ r : Int, e = .returned (.int .i64 r) ∧ decide (0 ≤ r) = l.any p ∧ Inv w' := by
    refine hcon.mono ?_
    rintro e w' ⟨k, hk, rfl, ha, hb, hi⟩
    refine ⟨_, rfl, ?_, hi⟩
    by_cases hlt : k < l.length
    · rw [if_pos hlt]
      have : l.any p = true := by
        rw [List.any_eq_true]
        refine ⟨l[k], List.getElem_mem hlt, ?_⟩
        have := hb hlt
        simpa [hlt] using this
      rw [this]
      simp
    · rw [if_neg hlt]
      have : l.any p = false := by
        rw [List.any_eq_false]
        intro x hx
        obtain ⟨j, hj, rfl⟩ := List.mem_iff_getElem.1 hx
        have := ha j (by omega)
        simp [hj] at this
        simp [this]
      rw [this]
      simp
  clear hcon hp hr h0
  go_enter Try.func42, Try.ntmps42
  go_wp2_with (go_at_call 53; refine hcon2.mono ?_; rintro e w' ⟨r, rfl, hr, hi⟩)
  go_ret
  exact ⟨rfl, hi⟩
end Go.Proofs.Ytgdadefobhfkcaa.Hy
