/- The reference's manager in the heap, and New of it: plain lemmas; no condition. -/
import Derived.Test.YtcfodmnpmjkpbaaE11
import Derived.Deep.MidRow
namespace Go.Proofs.Ytcfodmnpmjkpbaa.Ep
open Go.RowKit Go.Proofs.YtcfodmnpmjkpbaaW.PrintWords Go.Proofs.YtcfodmnpmjkpbaaW.PrintLast Go.Proofs.YtcfodmnpmjkpbaaW.PrintMore
set_option linter.unusedVariables false
set_option linter.unusedSimpArgs false
set_option maxHeartbeats 8000000
set_option maxRecDepth 100000
/-- The reference's manager of the kind epoch: its threads, its epoch, who is inside since when, and what waits: (address, thread, epoch). -/
structure RM where
  n : Nat
  now : Int
  ins : Nat → Bool
  lo : Nat → Int
  its : List (Int × Int × Int)
/-- The cells of the reference's manager. -/
structure RefB (cur : Array Value) (iv : Value) (m : RM) : Prop where
  size : cur.size = 30
  k0 : cur[0]? = some (.bool true)
  k1 : cur[1]? = some (.int .i64 2)
  k2 : cur[2]? = some (.int .i64 m.n)
  k3 : cur[3]? = some (.int .i64 m.now)
  hs : ∀ i, 4 ≤ i → i < 16 → ∃ v : Int, cur[i]? = some (.int .i64 v)
  ins : ∀ t, t < 4 → cur[16 + t]? = some (.bool (m.ins t))
  lo : ∀ t, t < 4 → cur[20 + t]? = some (.int .i64 (m.lo t))
  hi : ∀ t, t < 4 → ∃ v : Int, cur[24 + t]? = some (.int .i64 v)
  its : cur[28]? = some iv
  born : cur[29]? = some (.slice none 0 0)
def flat8 : List (Int × Int × Int) → List Value
  | [] => []
  | p :: r => .int .i64 p.1 :: .int .i64 p.2.1 :: .int .i64 p.2.2 :: .int .i64 0 :: .bool false :: .bool false :: .bool false :: .bool false :: flat8 r
/-- The reference's manager stands at block r; iv: the slice of its items. -/
structure Ref (B : Nat) (w : World) (r : Nat) (iv : Value) (m : RM) : Prop where
  small : m.n ≤ 4
  br : B ≤ r
  top : ∃ cur, w.heap[r]? = some (.cells cur 38 (0, 0)) ∧ RefB cur iv m
  own : w.ownsRow B 80 8 iv m.its.length (flat8 m.its)
def rfoot (r : Nat) (iv : Value) (k : Nat) : Prop := k = r ∨ iv.ownBlock = some k
theorem RefB.one {cur : Array Value} {iv : Value} {m : RM} (h : RefB cur iv m) (hiv : iv.oneCell' = true) : cur.all (·.oneCell') = true := by
  rw [Array.all_eq_true_iff_forall_mem]
  intro v hv
  obtain ⟨i, hi, rfl⟩ := Array.mem_iff_getElem.1 hv
  have hs := h.size
  have key : ∀ u, cur[i]? = some u → u.oneCell' = true → cur[i].oneCell' = true := fun u hu h1 => by
    rw [Array.getElem?_eq_getElem hi] at hu
    injection hu with hu
    rw [hu]; exact h1
  by_cases h0 : i = 0
  · subst h0; exact key _ h.k0 rfl
  by_cases h1 : i = 1
  · subst h1; exact key _ h.k1 rfl
  by_cases h2 : i = 2
  · subst h2; exact key _ h.k2 rfl
  by_cases h3 : i = 3
  · subst h3; exact key _ h.k3 rfl
  by_cases h4 : i < 16
  · obtain ⟨v, hv⟩ := h.hs i (by omega) h4
    exact key _ hv rfl
  by_cases h5 : i < 20
  · obtain ⟨t, rfl⟩ : ∃ t, i = 16 + t := ⟨i - 16, by omega⟩
    exact key _ (h.ins t (by omega)) rfl
  by_cases h6 : i < 24
  · obtain ⟨t, rfl⟩ : ∃ t, i = 20 + t := ⟨i - 20, by omega⟩
    exact key _ (h.lo t (by omega)) rfl
  by_cases h7 : i < 28
  · obtain ⟨t, rfl⟩ : ∃ t, i = 24 + t := ⟨i - 24, by omega⟩
    obtain ⟨v, hv⟩ := h.hi t (by omega)
    exact key _ hv rfl
  by_cases h8 : i = 28
  · subst h8; exact key _ h.its hiv
  · obtain rfl : i = 29 := by omega
    exact key _ h.born rfl
/-- A whole struct is stored into its own block. -/
theorem wpList_store_whole {ops : Array Oper} {rest : List Oper} {op : Oper} {a : Act} {W : World} {Q : Exit → Act → World → Prop} (hgd : op.guard = none) (ty : TypeId) (x y : Operand) (ho : op.op = .store ty x y)
    (b : Nat) (cells old : Array Value) (t : TypeId) (hx : a.eval x = .pointer (some ⟨b, 0, none⟩)) (hy : a.eval y = .agg cells) (hb : W.heap[b]? = some (.cells old t (0, 0))) (hsz : old.size = cells.size)
    (hi : (Try.prog.info? ty).map (·.size) = some cells.size) (h1 : cells.all (·.oneCell') = true)
    (h : ∀ W2, W2.heap[b]? = some (.cells cells t (0, 0)) → (∀ k, k ≠ b → W2.heap[k]? = W.heap[k]?) → W2.os = W.os → W2.tape = W.tape → W2.output = W.output → W2.heap.size = W.heap.size → wpList Try.prog ops Q rest (a.put op.dst undef) W2) : wpList Try.prog ops Q (op :: rest) a W := by
  obtain ⟨cur', h3, h4, h5⟩ := setCells_row (g := b) (e := t) cells.toList 0 W old hb (by simp [hsz])
  obtain ⟨s1, s2, s3, s4⟩ := setCells_same b cells.toList 0 W
  have e : cur' = cells := by
    apply Array.ext'
    rw [h5]
    simp [hsz]
  subst e
  refine wpList_store_mid (P := Try.prog) hgd ty x y ho b 0 cur' hx hy (fun j hj => ⟨?_, blk_frozen hb _⟩) hi h1 ?_
  · rw [Go.Lib.cell_of_heap hb]
    have : 0 + j < old.size := by omega
    rw [Array.getElem?_eq_getElem this]; rfl
  · exact h _ h3 (fun k hk => setCells_far _ _ k hk) s1 s2 s3 s4
theorem info38 : (Try.prog.info? 38).map (·.size) = some 30 := by kernel_rfl
def zero30 : Array Value := #[.bool false, .int .i64 0, .int .i64 0, .int .i64 0, .int .i64 0, .int .i64 0, .int .i64 0, .int .i64 0, .int .i64 0, .int .i64 0, .int .i64 0, .int .i64 0, .int .i64 0, .int .i64 0, .int .i64 0, .int .i64 0, .bool false, .bool false, .bool false, .bool false, .int .i64 0, .int .i64 0, .int .i64 0, .int .i64 0, .int .i64 0, .int .i64 0, .int .i64 0, .int .i64 0, .slice none 0 0, .slice none 0 0]
def new30 (n : Int) : Array Value := #[.bool true, .int .i64 2, .int .i64 n, .int .i64 0, .int .i64 0, .int .i64 0, .int .i64 0, .int .i64 0, .int .i64 0, .int .i64 0, .int .i64 0, .int .i64 0, .int .i64 0, .int .i64 0, .int .i64 0, .int .i64 0, .bool false, .bool false, .bool false, .bool false, .int .i64 0, .int .i64 0, .int .i64 0, .int .i64 0, .int .i64 0, .int .i64 0, .int .i64 0, .int .i64 0, .slice none 0 0, .slice none 0 0]
def rnew (n : Nat) : RM := ⟨n, 0, fun _ => false, fun _ => 0, []⟩
theorem new30_is (n : Nat) : RefB (new30 n) (.slice none 0 0) (rnew n) := by
  refine ⟨rfl, rfl, rfl, rfl, rfl, fun i h1 h2 => ⟨0, ?_⟩, fun t ht => ?_, fun t ht => ?_, fun t ht => ⟨0, ?_⟩, rfl, rfl⟩
  · obtain rfl | rfl | rfl | rfl | rfl | rfl | rfl | rfl | rfl | rfl | rfl | rfl : i = 4 ∨ i = 5 ∨ i = 6 ∨ i = 7 ∨ i = 8 ∨ i = 9 ∨ i = 10 ∨ i = 11 ∨ i = 12 ∨ i = 13 ∨ i = 14 ∨ i = 15 := by omega
    all_goals rfl
  all_goals
    obtain rfl | rfl | rfl | rfl : t = 0 ∨ t = 1 ∨ t = 2 ∨ t = 3 := by omega
    all_goals rfl
theorem underlying38s : ∃ fs, Try.prog.underlying 38 = some (.struct fs) := ⟨_, Try.underlying38⟩
/-- An allocation of the zero manager of the reference. -/
theorem wpList_alloc38 {ops : Array Oper} {rest : List Oper} {op : Oper} {a : Act} {W : World} {Q : Exit → Act → World → Prop} (hgd : op.guard = none) (ho : op.op = .alloc 38)
    (h : ∀ W2, W2.heap[W.heap.size]? = some (.cells zero30 38 (0, 0)) → Below W.heap.size W W2 → W2.heap.size = W.heap.size + 1 → wpList Try.prog ops Q rest (a.put op.dst (.pointer (some ⟨W.heap.size, 0, none⟩))) W2) : wpList Try.prog ops Q (op :: rest) a W := by
  refine Kd.event_run (w1 := W.alloc (.cells zero30 38 (0, 0))) (v := .pointer (some ⟨W.heap.size, 0, none⟩)) hgd ?_ (h _ (heap_alloc_new _ _) ((Below.refl _ _).alloc (Nat.le_refl _) _) (alloc_size _ _))
  simp only [execOp, ho]
  rfl
end Go.Proofs.Ytcfodmnpmjkpbaa.Ep
