/- The hazard manager in the heap, and what its small functions do: plain lemmas; no condition. -/
import Derived.Test.YtgdadefobhfkcaaProg
import Derived.Test.YtgdadefobhfkcaaWWords
import Derived.Test.YtgdadefobhfkcaaWKept
import Derived.Test.YtgdadefobhfkcaaWMore
import Derived.Test.YtgdadefobhfkcaaWLast
import Derived.Shelf.Abstract
import Derived.KernelRfl
import Derived.Lib.Builder
import Derived.Laws.MakeOwn
namespace Go.Proofs.Ytgdadefobhfkcaa.Hy
open Go.RowKit Go.Proofs.YtgdadefobhfkcaaW.PrintWords Go.Proofs.YtgdadefobhfkcaaW.PrintLast Go.Proofs.YtgdadefobhfkcaaW.PrintMore
set_option linter.unusedVariables false
set_option linter.unusedSimpArgs false

/-- A manager: the number of its threads, their holds one behind the other, and what waits: (thread, address). -/
structure HM where
  n : Nat
  hs : List Int
  ws : List (Int × Int)

def ints (l : List Int) : List Value := l.map (Value.int .i64)
def flat : List (Int × Int) → List Value
  | [] => []
  | p :: r => .int .i64 p.1 :: .int .i64 p.2 :: flat r

/-- The manager stands in the heap at block g; A: where its holds lie; wv: the slice of what waits. -/
structure Man (B : Nat) (w : World) (g : Nat) (A : Option Addr) (wv : Value) (m : HM) : Prop where
  len : m.hs.length = m.n * 3
  small : m.n ≤ 4
  bg : B ≤ g
  top : ∃ c, w.heap[g]? = some (.cells #[.slice A m.n c, wv] 53 (0, 0))
  none_ : A = none → m.n = 0
  row : ∀ a, A = some a → ∃ h, a = ⟨h, 0, none⟩ ∧ B ≤ h ∧ ∃ tl, w.heap[h]? = some (.cells (ints m.hs ++ tl).toArray 66 (0, 0))
  own : w.ownsRow B 61 2 wv m.ws.length (flat m.ws)

/-- The blocks of a manager. -/
def foot (g : Nat) (A : Option Addr) (wv : Value) (k : Nat) : Prop := k = g ∨ (∃ a, A = some a ∧ a.block = k) ∨ wv.ownBlock = some k

/-- No thread of the manager. -/
def bad (m : HM) (t : Int) : Bool := decide (t < 0) || decide ((m.n : Int) ≤ t)

theorem Man.c0 {B : Nat} {w : World} {g : Nat} {A : Option Addr} {wv : Value} {m : HM} (h : Man B w g A wv m) : ∃ c, w.cell? ⟨g, 0, none⟩ = some (.slice A m.n c) := by
  obtain ⟨c, h⟩ := h.top
  exact ⟨c, by rw [Go.Lib.cell_of_heap h]; rfl⟩
theorem Man.c1 {B : Nat} {w : World} {g : Nat} {A : Option Addr} {wv : Value} {m : HM} (h : Man B w g A wv m) : w.cell? ⟨g, 1, none⟩ = some wv := by
  obtain ⟨c, h⟩ := h.top
  rw [Go.Lib.cell_of_heap h]; rfl
theorem Man.topc {B : Nat} {w : World} {g : Nat} {A : Option Addr} {wv : Value} {m : HM} (h : Man B w g A wv m) : w.heap[g]? = some (.cells #[.slice A m.n h.top.choose, wv] 53 (0, 0)) := h.top.choose_spec
theorem Man.tag {B : Nat} {w : World} {g : Nat} {A : Option Addr} {wv : Value} {m : HM} (h : Man B w g A wv m) : ∃ cs, w.heap[g]? = some (.cells cs 53 (0, 0)) := ⟨_, h.top.choose_spec⟩

set_option maxHeartbeats 8000000 in
set_option maxRecDepth 100000 in
theorem no_calls {B : Nat} {w : World} {g : Nat} {A : Option Addr} {wv : Value} {m : HM} (hm : Man B w g A wv m) (t : Int) :
    Calls Try.prog 41 #[.pointer (some ⟨g, 0, none⟩), .int .i64 t] w fun e w' => e = .returned (.bool (bad m t)) ∧ w' = w := by
  obtain ⟨cp, h0⟩ := hm.c0
  obtain ⟨n, hs, ws⟩ := m
  clear hm
  by_cases h1 : t < 0
  · have e : bad ⟨n, hs, ws⟩ t = true := by simp [bad, h1]
    rw [e]
    go_enter Try.func41, Try.ntmps41
    go_wp2
    go_ret
    exact ⟨rfl, rfl⟩
  · have e : bad ⟨n, hs, ws⟩ t = decide ((n : Int) ≤ t) := by simp [bad, h1]
    rw [e]
    go_enter Try.func41, Try.ntmps41
    go_wp2
    go_ret
    exact ⟨rfl, rfl⟩
theorem no_nil (w : World) (t : Int) :
    Calls Try.prog 41 #[.pointer none, .int .i64 t] w fun e w' => e = .returned (.bool true) ∧ w' = w := by
  go_enter Try.func41, Try.ntmps41
  go_wp2
  go_ret
  exact ⟨rfl, rfl⟩

theorem in_calls {B : Nat} {w : World} {g : Nat} {A : Option Addr} {wv : Value} {m : HM} (hm : Man B w g A wv m) (t : Int) :
    Calls Try.prog 28 #[.pointer (some ⟨g, 0, none⟩), .int .i64 t] w fun e w' => e = .returned (.tuple #[.slice none 0 0, .int .i64 (if bad m t then 1 else 0)]) ∧ w' = w := by
  have hc := no_calls hm t
  generalize bad m t = b at hc
  clear hm
  cases b
  all_goals
    go_enter Try.func28, Try.ntmps28
    go_wp2_with (go_at_call 41; refine hc.mono ?_; rintro e w' ⟨rfl, rfl⟩)
    go_ret2
    exact ⟨rfl, rfl⟩
theorem born_calls {B : Nat} {w : World} {g : Nat} {A : Option Addr} {wv : Value} {m : HM} (hm : Man B w g A wv m) (a : Int) :
    Calls Try.prog 29 #[.pointer (some ⟨g, 0, none⟩), .int .i64 a] w fun e w' => e = .returned (.int .i64 (if bad m 0 || decide (a < 1) then 1 else 0)) ∧ w' = w := by
  have hc := no_calls hm 0
  generalize bad m 0 = b at hc ⊢
  clear hm
  cases b
  · by_cases h : a < 1
    · have e : (if (false || decide (a < 1)) = true then (1 : Int) else 0) = 1 := by simp [h]
      rw [e]
      go_enter Try.func29, Try.ntmps29
      go_wp2_with (go_at_call 41; refine hc.mono ?_; rintro e w' ⟨rfl, rfl⟩)
      go_ret
      exact ⟨rfl, rfl⟩
    · have e : (if (false || decide (a < 1)) = true then (1 : Int) else 0) = 0 := by simp [h]
      rw [e]
      go_enter Try.func29, Try.ntmps29
      go_wp2_with (go_at_call 41; refine hc.mono ?_; rintro e w' ⟨rfl, rfl⟩)
      go_ret
      exact ⟨rfl, rfl⟩
  · have e : (if (true || decide (a < 1)) = true then (1 : Int) else 0) = 1 := by simp
    rw [e]
    go_enter Try.func29, Try.ntmps29
    go_wp2_with (go_at_call 41; refine hc.mono ?_; rintro e w' ⟨rfl, rfl⟩)
    go_ret
    exact ⟨rfl, rfl⟩
end Go.Proofs.Ytgdadefobhfkcaa.Hy
