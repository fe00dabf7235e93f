/- The epoch manager in the heap, and what its small functions do: plain lemmas; no condition. -/
import Derived.Test.YtcfodmnpmjkpbaaProg
import Derived.Test.YtcfodmnpmjkpbaaWWords
import Derived.Test.YtcfodmnpmjkpbaaWKept
import Derived.Test.YtcfodmnpmjkpbaaWMore
import Derived.Test.YtcfodmnpmjkpbaaWLast
import Derived.Shelf.Abstract
import Derived.KernelRfl
import Derived.Lib.Builder
import Derived.Laws.MakeOwn
import Derived.Deep.RegionWith
import Derived.Deep.RegionLaw
import Derived.Laws.EntriesVeiled
namespace Go.Proofs.Ytcfodmnpmjkpbaa.Ep
open Go.RowKit Go.Proofs.YtcfodmnpmjkpbaaW.PrintWords Go.Proofs.YtcfodmnpmjkpbaaW.PrintLast Go.Proofs.YtcfodmnpmjkpbaaW.PrintMore
set_option linter.unusedVariables false
set_option linter.unusedSimpArgs false
set_option maxHeartbeats 8000000
set_option maxRecDepth 100000

/-- A manager: its epoch, those of its threads, and what waits: (address, epoch). -/
structure EM where
  ep : Int
  th : List Int
  ws : List (Int × Int)

def ints (l : List Int) : List Value := l.map (Value.int .i64)
def flat : List (Int × Int) → List Value
  | [] => []
  | p :: r => .int .i64 p.1 :: .int .i64 p.2 :: flat r
/-- The manager stands in the heap at block g; tv, wv: the slices of its threads and of what waits. -/
structure Man (B : Nat) (w : World) (g : Nat) (tv wv : Value) (m : EM) : Prop where
  small : m.th.length ≤ 4
  bg : B ≤ g
  top : w.heap[g]? = some (.cells #[.int .i64 m.ep, tv, wv] 69 (0, 0))
  tow : w.ownsRow B 3 1 tv m.th.length (ints m.th)
  own : w.ownsRow B 78 2 wv m.ws.length (flat m.ws)
/-- The blocks of a manager. -/
def foot (g : Nat) (tv wv : Value) (k : Nat) : Prop := k = g ∨ tv.ownBlock = some k ∨ wv.ownBlock = some k
/-- No thread of the manager. -/
def bad (m : EM) (t : Int) : Bool := decide (t < 0) || decide ((m.th.length : Int) ≤ t)

theorem Man.c0 {B : Nat} {w : World} {g : Nat} {tv wv : Value} {m : EM} (h : Man B w g tv wv m) : w.cell? ⟨g, 0, none⟩ = some (.int .i64 m.ep) := by
  rw [Go.Lib.cell_of_heap h.top]; rfl
theorem Man.c1 {B : Nat} {w : World} {g : Nat} {tv wv : Value} {m : EM} (h : Man B w g tv wv m) : w.cell? ⟨g, 1, none⟩ = some tv := by
  rw [Go.Lib.cell_of_heap h.top]; rfl
theorem Man.c2 {B : Nat} {w : World} {g : Nat} {tv wv : Value} {m : EM} (h : Man B w g tv wv m) : w.cell? ⟨g, 2, none⟩ = some wv := by
  rw [Go.Lib.cell_of_heap h.top]; rfl
theorem ints_len (l : List Int) : (ints l).length = l.length := by simp [ints]
theorem own_form {B : Nat} {w : World} {e : TypeId} {s : Nat} {v : Value} {n : Nat} {xs : List Value} (h : w.ownsRow B e s v n xs) : ∃ A c, v = .slice A n c := by
  obtain ⟨_, ⟨e, h⟩ | ⟨b, cap, cur, e, _⟩⟩ := h
  · exact ⟨none, 0, by rw [e, h]⟩
  · exact ⟨_, _, e⟩
theorem ne_of_tag {w : World} {a b : Nat} {c d : Array Value} {s t : TypeId} {p q : Nat × Nat} (h : w.heap[a]? = some (.cells c s p)) (k : w.heap[b]? = some (.cells d t q)) (hne : s ≠ t) : a ≠ b := by
  rintro rfl
  rw [h] at k
  injection k with k
  injection k with _ k _
  exact hne k
theorem own_tag {B : Nat} {w : World} {e : TypeId} {size n : Nat} {v : Value} {xs : List Value} (ho : w.ownsRow B e size v n xs) (k : Nat) (hk : v.ownBlock = some k) : ∃ c, w.heap[k]? = some (.cells c e (0, 0)) := own_typed ho k hk
theorem man_keep {B : Nat} {w w' : World} {g : Nat} {tv wv : Value} {m : EM} (hm : Man B w g tv wv m) (hk : ∀ k, foot g tv wv k → w'.heap[k]? = w.heap[k]?) : Man B w' g tv wv m :=
  ⟨hm.small, hm.bg, (hk g (.inl rfl)).trans hm.top, own_move hm.tow (fun k h => hk k (.inr (.inl h))), own_move hm.own (fun k h => hk k (.inr (.inr h)))⟩
theorem Man.foot_lt {B : Nat} {w : World} {g : Nat} {tv wv : Value} {m : EM} (hm : Man B w g tv wv m) (k : Nat) (hk : foot g tv wv k) : B ≤ k ∧ k < w.heap.size := by
  rcases hk with rfl | hk | hk
  · exact ⟨hm.bg, blk_lt hm.top⟩
  · exact ⟨own_base hm.tow k hk, own_lt hm.tow k hk⟩
  · exact ⟨own_base hm.own k hk, own_lt hm.own k hk⟩
theorem Man.grow {B : Nat} {w w' : World} {g : Nat} {tv wv : Value} {m : EM} (hm : Man B w g tv wv m) (hb : Below w.heap.size w w') : Man B w' g tv wv m :=
  man_keep hm (fun k hk => hb.block k (hm.foot_lt k hk).2)
theorem btrans {w w1 w2 : World} (h : Below w.heap.size w w1) (k : Below w1.heap.size w1 w2) : Below w.heap.size w w2 := h.trans (k.mono h.size)
theorem alloc_size (w : World) (o : Obj) : (w.alloc o).heap.size = w.heap.size + 1 := by show (w.heap.push o).size = _; simp
theorem alloc_old (W : World) (o : Obj) (k : Nat) (h : k < W.heap.size) : (W.alloc o).heap[k]? = W.heap[k]? := Below.heap_alloc W o k h
theorem below_drew1 {B : Nat} {w W : World} (h : Below B w W) : Below B w W.drew := ⟨h.os, h.tape, h.output, h.size, h.block⟩
theorem has_calls {B : Nat} {w : World} {g : Nat} {tv wv : Value} {m : EM} (hm : Man B w g tv wv m) (t : Int) :
    Calls Try.prog 38 #[.pointer (some ⟨g, 0, none⟩), .int .i64 t] w fun e w' => e = .returned (.bool (!bad m t)) ∧ w' = w := by
  have h1 := hm.c1
  obtain ⟨A, c, rfl⟩ := own_form hm.tow
  obtain ⟨ep, th, ws⟩ := m
  simp only at h1
  clear hm
  by_cases h1 : t < 0
  · have e : bad ⟨ep, th, ws⟩ t = true := by simp [bad, h1]
    rw [e]
    have hd : decide (0 ≤ t) = false := by simpa using h1
    go_enter Try.func38, Try.ntmps38
    go_wp2
    go_ret
    exact ⟨rfl, rfl⟩
  · have e : (!bad ⟨ep, th, ws⟩ t) = decide (t < (th.length : Int)) := by
      by_cases h2 : t < (th.length : Int)
      · have h3 : ¬ ((th.length : Int) ≤ t) := by omega
        simp [bad, h1, h2, h3]
      · have h3 : (th.length : Int) ≤ t := by omega
        simp [bad, h1, h2, h3]
    rw [e]
    clear e
    have hd : decide (0 ≤ t) = true := by simpa using h1
    go_enter Try.func38, Try.ntmps38
    go_wp2
    go_ret
    exact ⟨rfl, rfl⟩
theorem has_nil (w : World) (t : Int) :
    Calls Try.prog 38 #[.pointer none, .int .i64 t] w fun e w' => e = .returned (.bool false) ∧ w' = w := by
  go_enter Try.func38, Try.ntmps38
  go_wp2
  go_ret
  exact ⟨rfl, rfl⟩
end Go.Proofs.Ytcfodmnpmjkpbaa.Ep
