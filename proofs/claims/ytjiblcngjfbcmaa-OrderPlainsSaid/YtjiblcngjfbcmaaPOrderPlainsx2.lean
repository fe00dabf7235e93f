-- PRINTED BY print.sh 35421559b90ae4d0a3588c463048766b98c2df88dd9212a6774a882060cdf62d: not written by this session
import Derived.Test.YtjiblcngjfbcmaaPOrderPlainsx0
import Derived.Test.YtjiblcngjfbcmaaPOrderPlainsx1
namespace Go.Proofs.Ytjiblcngjfbcmaa.POrderPlains
open Go.RowKit Go.Proofs.YtjiblcngjfbcmaaW.PrintWords Go.Proofs.YtjiblcngjfbcmaaW.PrintLast Go.Proofs.YtjiblcngjfbcmaaW.PrintMore
attribute [local go_sem] max2_int min2_int max_two min_two max_three min_three max_four min_four   -- for this text's walks alone
set_option linter.unusedVariables false
set_option linter.unusedSimpArgs false

/-! ### locklesslaw02_OrderPlains: function 10 -/
def locklesslaw02_OrderPlains.j0 : Nat → Int → Int → Bool → Bool → Bool → Option (Bool)
  | 0, _, _, _, _, _ => none
  | k + 1, x5, x6, x13, x15, x96 => if x96 = true then (some false) else (if x6 = 4 then (if (x13 == (x5 != 1)) = true then (some (x15 == (x5 != 0))) else (some false)) else (some true))
def locklesslaw02_OrderPlains.f (k : Nat) (a0 : Int) (a1 : Int) : Option (Bool) := (locklesslaw02_awake.f k).bind fun t124 => (if t124 = true then ((order_May.f (wrap64 (Int.tmod (IntKind.u64.wrap (a0)) 5)) (wrap64 (Int.tmod (IntKind.u64.wrap (a1)) 5))).bind fun bt125 => ((order_Plain.f k (wrap64 (Int.tmod (IntKind.u64.wrap (a0)) 5)) (wrap64 (Int.tmod (IntKind.u64.wrap (a1)) 5))).bind fun bt127 => (if bt125.1 = true then ((order_May.f (wrap64 (Int.tmod (IntKind.u64.wrap (a0)) 5)) bt127.1).bind fun bt129 => ((order_Acquires.f bt127.1).bind fun bt131 => ((order_Releases.f bt127.1).bind fun bt133 => (if bt125.2 = 0 then (if bt127.2 = 0 then (if bt129.2 = 0 then (if bt131.2 = 0 then (if bt133.2 = 0 then (if bt129.1 = true then (locklesslaw02_OrderPlains.j0 k (wrap64 (Int.tmod (IntKind.u64.wrap (a0)) 5)) (wrap64 (Int.tmod (IntKind.u64.wrap (a1)) 5)) bt131.1 bt133.1 (((wrap64 (Int.tmod (IntKind.u64.wrap (a1)) 5)) == 4) == (bt127.1 == (wrap64 (Int.tmod (IntKind.u64.wrap (a1)) 5))))) else (locklesslaw02_OrderPlains.j0 k (wrap64 (Int.tmod (IntKind.u64.wrap (a0)) 5)) (wrap64 (Int.tmod (IntKind.u64.wrap (a1)) 5)) bt131.1 bt133.1 true)) else (locklesslaw02_OrderPlains.j0 k (wrap64 (Int.tmod (IntKind.u64.wrap (a0)) 5)) (wrap64 (Int.tmod (IntKind.u64.wrap (a1)) 5)) bt131.1 bt133.1 true)) else (locklesslaw02_OrderPlains.j0 k (wrap64 (Int.tmod (IntKind.u64.wrap (a0)) 5)) (wrap64 (Int.tmod (IntKind.u64.wrap (a1)) 5)) bt131.1 bt133.1 true)) else (locklesslaw02_OrderPlains.j0 k (wrap64 (Int.tmod (IntKind.u64.wrap (a0)) 5)) (wrap64 (Int.tmod (IntKind.u64.wrap (a1)) 5)) bt131.1 bt133.1 true)) else (locklesslaw02_OrderPlains.j0 k (wrap64 (Int.tmod (IntKind.u64.wrap (a0)) 5)) (wrap64 (Int.tmod (IntKind.u64.wrap (a1)) 5)) bt131.1 bt133.1 true)) else (locklesslaw02_OrderPlains.j0 k (wrap64 (Int.tmod (IntKind.u64.wrap (a0)) 5)) (wrap64 (Int.tmod (IntKind.u64.wrap (a1)) 5)) bt131.1 bt133.1 true))))) else (if bt125.2 = 0 then (if bt127.1 = 0 then (some (bt127.2 == 1)) else (some false)) else (some false))))) else (some false))
theorem locklesslaw02_OrderPlains.mono_l : ∀ k, (∀ y0 y1 y2 y3 y4, LeO (locklesslaw02_OrderPlains.j0 k y0 y1 y2 y3 y4) (locklesslaw02_OrderPlains.j0 (k + 1) y0 y1 y2 y3 y4))
  | 0 => fun _ _ _ _ _ r h => by simp [locklesslaw02_OrderPlains.j0] at h
  | k + 1 => by
    have ih0 := locklesslaw02_OrderPlains.mono_l k
    · intro y0 y1 y2 y3 y4
      unfold locklesslaw02_OrderPlains.j0
      repeat' first
      | (with_reducible exact ih0 _ _ _ _ _)
      | (with_reducible exact locklesslaw02_awake.mono _)
      | (with_reducible exact order_Plain.mono _ _ _)
      | (with_reducible exact LeO.refl _)
      | (with_reducible exact LeO.none _)
      | (with_reducible refine LeO.ite ?_ ?_)
      | (with_reducible refine LeO.bind ?_ (fun _ => ?_))
      | exact ih0 _ _ _ _ _
      | exact locklesslaw02_awake.mono _
      | exact order_Plain.mono _ _ _
      | exact LeO.none _
      | refine LeO.ite ?_ ?_
      | refine LeO.bind ?_ (fun _ => ?_)
theorem locklesslaw02_OrderPlains.mono : ∀ a0 a1 k, LeO (locklesslaw02_OrderPlains.f k a0 a1) (locklesslaw02_OrderPlains.f (k + 1) a0 a1) := by
  intro a0 a1 k
  have ih0 := locklesslaw02_OrderPlains.mono_l k
  unfold locklesslaw02_OrderPlains.f
  repeat' first
      | (with_reducible exact ih0 _ _ _ _ _)
      | (with_reducible exact locklesslaw02_awake.mono _)
      | (with_reducible exact order_Plain.mono _ _ _)
      | (with_reducible exact LeO.refl _)
      | (with_reducible exact LeO.none _)
      | (with_reducible refine LeO.ite ?_ ?_)
      | (with_reducible refine LeO.bind ?_ (fun _ => ?_))
      | exact ih0 _ _ _ _ _
      | exact locklesslaw02_awake.mono _
      | exact order_Plain.mono _ _ _
      | exact LeO.none _
      | refine LeO.ite ?_ ?_
      | refine LeO.bind ?_ (fun _ => ?_)
set_option maxHeartbeats 8000000 in
set_option maxRecDepth 100000 in
theorem locklesslaw02_OrderPlains.calls (k : Nat) (a0 : Int) (a1 : Int) (r : Bool) (w : World) (h : locklesslaw02_OrderPlains.f k a0 a1 = some r) :
    Calls Try.prog 10 #[.int .i64 a0, .int .i64 a1] w fun e w' => e = .returned (.bool r) ∧ Below w.heap.size w w' := by
  have HB := Aside0.mk (Below.refl w.heap.size w)
  have H : ((locklesslaw02_awake.f k).bind fun t124 => (if t124 = true then ((order_May.f (wrap64 (Int.tmod (IntKind.u64.wrap (a0)) 5)) (wrap64 (Int.tmod (IntKind.u64.wrap (a1)) 5))).bind fun bt125 => ((order_Plain.f k (wrap64 (Int.tmod (IntKind.u64.wrap (a0)) 5)) (wrap64 (Int.tmod (IntKind.u64.wrap (a1)) 5))).bind fun bt127 => (if bt125.1 = true then ((order_May.f (wrap64 (Int.tmod (IntKind.u64.wrap (a0)) 5)) bt127.1).bind fun bt129 => ((order_Acquires.f bt127.1).bind fun bt131 => ((order_Releases.f bt127.1).bind fun bt133 => (if bt125.2 = 0 then (if bt127.2 = 0 then (if bt129.2 = 0 then (if bt131.2 = 0 then (if bt133.2 = 0 then (if bt129.1 = true then (locklesslaw02_OrderPlains.j0 k (wrap64 (Int.tmod (IntKind.u64.wrap (a0)) 5)) (wrap64 (Int.tmod (IntKind.u64.wrap (a1)) 5)) bt131.1 bt133.1 (((wrap64 (Int.tmod (IntKind.u64.wrap (a1)) 5)) == 4) == (bt127.1 == (wrap64 (Int.tmod (IntKind.u64.wrap (a1)) 5))))) else (locklesslaw02_OrderPlains.j0 k (wrap64 (Int.tmod (IntKind.u64.wrap (a0)) 5)) (wrap64 (Int.tmod (IntKind.u64.wrap (a1)) 5)) bt131.1 bt133.1 true)) else (locklesslaw02_OrderPlains.j0 k (wrap64 (Int.tmod (IntKind.u64.wrap (a0)) 5)) (wrap64 (Int.tmod (IntKind.u64.wrap (a1)) 5)) bt131.1 bt133.1 true)) else (locklesslaw02_OrderPlains.j0 k (wrap64 (Int.tmod (IntKind.u64.wrap (a0)) 5)) (wrap64 (Int.tmod (IntKind.u64.wrap (a1)) 5)) bt131.1 bt133.1 true)) else (locklesslaw02_OrderPlains.j0 k (wrap64 (Int.tmod (IntKind.u64.wrap (a0)) 5)) (wrap64 (Int.tmod (IntKind.u64.wrap (a1)) 5)) bt131.1 bt133.1 true)) else (locklesslaw02_OrderPlains.j0 k (wrap64 (Int.tmod (IntKind.u64.wrap (a0)) 5)) (wrap64 (Int.tmod (IntKind.u64.wrap (a1)) 5)) bt131.1 bt133.1 true)) else (locklesslaw02_OrderPlains.j0 k (wrap64 (Int.tmod (IntKind.u64.wrap (a0)) 5)) (wrap64 (Int.tmod (IntKind.u64.wrap (a1)) 5)) bt131.1 bt133.1 true))))) else (if bt125.2 = 0 then (if bt127.1 = 0 then (some (bt127.2 == 1)) else (some false)) else (some false))))) else (some false))) = some r := h
  clear h
  replace H := Option.bind_eq_some_iff.mp H
  obtain ⟨t124, A30, H⟩ := H
  replace H : (if t124 = true then ((order_May.f (wrap64 (Int.tmod (IntKind.u64.wrap (a0)) 5)) (wrap64 (Int.tmod (IntKind.u64.wrap (a1)) 5))).bind fun bt125 => ((order_Plain.f k (wrap64 (Int.tmod (IntKind.u64.wrap (a0)) 5)) (wrap64 (Int.tmod (IntKind.u64.wrap (a1)) 5))).bind fun bt127 => (if bt125.1 = true then ((order_May.f (wrap64 (Int.tmod (IntKind.u64.wrap (a0)) 5)) bt127.1).bind fun bt129 => ((order_Acquires.f bt127.1).bind fun bt131 => ((order_Releases.f bt127.1).bind fun bt133 => (if bt125.2 = 0 then (if bt127.2 = 0 then (if bt129.2 = 0 then (if bt131.2 = 0 then (if bt133.2 = 0 then (if bt129.1 = true then (locklesslaw02_OrderPlains.j0 k (wrap64 (Int.tmod (IntKind.u64.wrap (a0)) 5)) (wrap64 (Int.tmod (IntKind.u64.wrap (a1)) 5)) bt131.1 bt133.1 (((wrap64 (Int.tmod (IntKind.u64.wrap (a1)) 5)) == 4) == (bt127.1 == (wrap64 (Int.tmod (IntKind.u64.wrap (a1)) 5))))) else (locklesslaw02_OrderPlains.j0 k (wrap64 (Int.tmod (IntKind.u64.wrap (a0)) 5)) (wrap64 (Int.tmod (IntKind.u64.wrap (a1)) 5)) bt131.1 bt133.1 true)) else (locklesslaw02_OrderPlains.j0 k (wrap64 (Int.tmod (IntKind.u64.wrap (a0)) 5)) (wrap64 (Int.tmod (IntKind.u64.wrap (a1)) 5)) bt131.1 bt133.1 true)) else (locklesslaw02_OrderPlains.j0 k (wrap64 (Int.tmod (IntKind.u64.wrap (a0)) 5)) (wrap64 (Int.tmod (IntKind.u64.wrap (a1)) 5)) bt131.1 bt133.1 true)) else (locklesslaw02_OrderPlains.j0 k (wrap64 (Int.tmod (IntKind.u64.wrap (a0)) 5)) (wrap64 (Int.tmod (IntKind.u64.wrap (a1)) 5)) bt131.1 bt133.1 true)) else (locklesslaw02_OrderPlains.j0 k (wrap64 (Int.tmod (IntKind.u64.wrap (a0)) 5)) (wrap64 (Int.tmod (IntKind.u64.wrap (a1)) 5)) bt131.1 bt133.1 true)) else (locklesslaw02_OrderPlains.j0 k (wrap64 (Int.tmod (IntKind.u64.wrap (a0)) 5)) (wrap64 (Int.tmod (IntKind.u64.wrap (a1)) 5)) bt131.1 bt133.1 true))))) else (if bt125.2 = 0 then (if bt127.1 = 0 then (some (bt127.2 == 1)) else (some false)) else (some false))))) else (some false)) = some r := H
  have A3 := Aside0.mk A30
  clear A30
  by_cases c4 : t124 = true
  · subst c4
    have H1 : ((order_May.f (wrap64 (Int.tmod (IntKind.u64.wrap (a0)) 5)) (wrap64 (Int.tmod (IntKind.u64.wrap (a1)) 5))).bind fun bt125 => ((order_Plain.f k (wrap64 (Int.tmod (IntKind.u64.wrap (a0)) 5)) (wrap64 (Int.tmod (IntKind.u64.wrap (a1)) 5))).bind fun bt127 => (if bt125.1 = true then ((order_May.f (wrap64 (Int.tmod (IntKind.u64.wrap (a0)) 5)) bt127.1).bind fun bt129 => ((order_Acquires.f bt127.1).bind fun bt131 => ((order_Releases.f bt127.1).bind fun bt133 => (if bt125.2 = 0 then (if bt127.2 = 0 then (if bt129.2 = 0 then (if bt131.2 = 0 then (if bt133.2 = 0 then (if bt129.1 = true then (locklesslaw02_OrderPlains.j0 k (wrap64 (Int.tmod (IntKind.u64.wrap (a0)) 5)) (wrap64 (Int.tmod (IntKind.u64.wrap (a1)) 5)) bt131.1 bt133.1 (((wrap64 (Int.tmod (IntKind.u64.wrap (a1)) 5)) == 4) == (bt127.1 == (wrap64 (Int.tmod (IntKind.u64.wrap (a1)) 5))))) else (locklesslaw02_OrderPlains.j0 k (wrap64 (Int.tmod (IntKind.u64.wrap (a0)) 5)) (wrap64 (Int.tmod (IntKind.u64.wrap (a1)) 5)) bt131.1 bt133.1 true)) else (locklesslaw02_OrderPlains.j0 k (wrap64 (Int.tmod (IntKind.u64.wrap (a0)) 5)) (wrap64 (Int.tmod (IntKind.u64.wrap (a1)) 5)) bt131.1 bt133.1 true)) else (locklesslaw02_OrderPlains.j0 k (wrap64 (Int.tmod (IntKind.u64.wrap (a0)) 5)) (wrap64 (Int.tmod (IntKind.u64.wrap (a1)) 5)) bt131.1 bt133.1 true)) else (locklesslaw02_OrderPlains.j0 k (wrap64 (Int.tmod (IntKind.u64.wrap (a0)) 5)) (wrap64 (Int.tmod (IntKind.u64.wrap (a1)) 5)) bt131.1 bt133.1 true)) else (locklesslaw02_OrderPlains.j0 k (wrap64 (Int.tmod (IntKind.u64.wrap (a0)) 5)) (wrap64 (Int.tmod (IntKind.u64.wrap (a1)) 5)) bt131.1 bt133.1 true)) else (locklesslaw02_OrderPlains.j0 k (wrap64 (Int.tmod (IntKind.u64.wrap (a0)) 5)) (wrap64 (Int.tmod (IntKind.u64.wrap (a1)) 5)) bt131.1 bt133.1 true))))) else (if bt125.2 = 0 then (if bt127.1 = 0 then (some (bt127.2 == 1)) else (some false)) else (some false))))) = some r := by rw [if_pos rfl] at H; exact H
    clear H
    have H := H1
    clear H1
    replace H := Option.bind_eq_some_iff.mp H
    obtain ⟨⟨t125, t126⟩, A50, H⟩ := H
    replace H : ((order_Plain.f k (wrap64 (Int.tmod (IntKind.u64.wrap (a0)) 5)) (wrap64 (Int.tmod (IntKind.u64.wrap (a1)) 5))).bind fun bt127 => (if t125 = true then ((order_May.f (wrap64 (Int.tmod (IntKind.u64.wrap (a0)) 5)) bt127.1).bind fun bt129 => ((order_Acquires.f bt127.1).bind fun bt131 => ((order_Releases.f bt127.1).bind fun bt133 => (if t126 = 0 then (if bt127.2 = 0 then (if bt129.2 = 0 then (if bt131.2 = 0 then (if bt133.2 = 0 then (if bt129.1 = true then (locklesslaw02_OrderPlains.j0 k (wrap64 (Int.tmod (IntKind.u64.wrap (a0)) 5)) (wrap64 (Int.tmod (IntKind.u64.wrap (a1)) 5)) bt131.1 bt133.1 (((wrap64 (Int.tmod (IntKind.u64.wrap (a1)) 5)) == 4) == (bt127.1 == (wrap64 (Int.tmod (IntKind.u64.wrap (a1)) 5))))) else (locklesslaw02_OrderPlains.j0 k (wrap64 (Int.tmod (IntKind.u64.wrap (a0)) 5)) (wrap64 (Int.tmod (IntKind.u64.wrap (a1)) 5)) bt131.1 bt133.1 true)) else (locklesslaw02_OrderPlains.j0 k (wrap64 (Int.tmod (IntKind.u64.wrap (a0)) 5)) (wrap64 (Int.tmod (IntKind.u64.wrap (a1)) 5)) bt131.1 bt133.1 true)) else (locklesslaw02_OrderPlains.j0 k (wrap64 (Int.tmod (IntKind.u64.wrap (a0)) 5)) (wrap64 (Int.tmod (IntKind.u64.wrap (a1)) 5)) bt131.1 bt133.1 true)) else (locklesslaw02_OrderPlains.j0 k (wrap64 (Int.tmod (IntKind.u64.wrap (a0)) 5)) (wrap64 (Int.tmod (IntKind.u64.wrap (a1)) 5)) bt131.1 bt133.1 true)) else (locklesslaw02_OrderPlains.j0 k (wrap64 (Int.tmod (IntKind.u64.wrap (a0)) 5)) (wrap64 (Int.tmod (IntKind.u64.wrap (a1)) 5)) bt131.1 bt133.1 true)) else (locklesslaw02_OrderPlains.j0 k (wrap64 (Int.tmod (IntKind.u64.wrap (a0)) 5)) (wrap64 (Int.tmod (IntKind.u64.wrap (a1)) 5)) bt131.1 bt133.1 true))))) else (if t126 = 0 then (if bt127.1 = 0 then (some (bt127.2 == 1)) else (some false)) else (some false)))) = some r := H
    have A5 := Aside0.mk A50
    clear A50
    replace H := Option.bind_eq_some_iff.mp H
    obtain ⟨⟨t127, t128⟩, A60, H⟩ := H
    replace H : (if t125 = true then ((order_May.f (wrap64 (Int.tmod (IntKind.u64.wrap (a0)) 5)) t127).bind fun bt129 => ((order_Acquires.f t127).bind fun bt131 => ((order_Releases.f t127).bind fun bt133 => (if t126 = 0 then (if t128 = 0 then (if bt129.2 = 0 then (if bt131.2 = 0 then (if bt133.2 = 0 then (if bt129.1 = true then (locklesslaw02_OrderPlains.j0 k (wrap64 (Int.tmod (IntKind.u64.wrap (a0)) 5)) (wrap64 (Int.tmod (IntKind.u64.wrap (a1)) 5)) bt131.1 bt133.1 (((wrap64 (Int.tmod (IntKind.u64.wrap (a1)) 5)) == 4) == (t127 == (wrap64 (Int.tmod (IntKind.u64.wrap (a1)) 5))))) else (locklesslaw02_OrderPlains.j0 k (wrap64 (Int.tmod (IntKind.u64.wrap (a0)) 5)) (wrap64 (Int.tmod (IntKind.u64.wrap (a1)) 5)) bt131.1 bt133.1 true)) else (locklesslaw02_OrderPlains.j0 k (wrap64 (Int.tmod (IntKind.u64.wrap (a0)) 5)) (wrap64 (Int.tmod (IntKind.u64.wrap (a1)) 5)) bt131.1 bt133.1 true)) else (locklesslaw02_OrderPlains.j0 k (wrap64 (Int.tmod (IntKind.u64.wrap (a0)) 5)) (wrap64 (Int.tmod (IntKind.u64.wrap (a1)) 5)) bt131.1 bt133.1 true)) else (locklesslaw02_OrderPlains.j0 k (wrap64 (Int.tmod (IntKind.u64.wrap (a0)) 5)) (wrap64 (Int.tmod (IntKind.u64.wrap (a1)) 5)) bt131.1 bt133.1 true)) else (locklesslaw02_OrderPlains.j0 k (wrap64 (Int.tmod (IntKind.u64.wrap (a0)) 5)) (wrap64 (Int.tmod (IntKind.u64.wrap (a1)) 5)) bt131.1 bt133.1 true)) else (locklesslaw02_OrderPlains.j0 k (wrap64 (Int.tmod (IntKind.u64.wrap (a0)) 5)) (wrap64 (Int.tmod (IntKind.u64.wrap (a1)) 5)) bt131.1 bt133.1 true))))) else (if t126 = 0 then (if t127 = 0 then (some (t128 == 1)) else (some false)) else (some false))) = some r := H
    have A6 := Aside0.mk A60
    clear A60
    by_cases c7 : t125 = true
    · subst c7
      have H1 : ((order_May.f (wrap64 (Int.tmod (IntKind.u64.wrap (a0)) 5)) t127).bind fun bt129 => ((order_Acquires.f t127).bind fun bt131 => ((order_Releases.f t127).bind fun bt133 => (if t126 = 0 then (if t128 = 0 then (if bt129.2 = 0 then (if bt131.2 = 0 then (if bt133.2 = 0 then (if bt129.1 = true then (locklesslaw02_OrderPlains.j0 k (wrap64 (Int.tmod (IntKind.u64.wrap (a0)) 5)) (wrap64 (Int.tmod (IntKind.u64.wrap (a1)) 5)) bt131.1 bt133.1 (((wrap64 (Int.tmod (IntKind.u64.wrap (a1)) 5)) == 4) == (t127 == (wrap64 (Int.tmod (IntKind.u64.wrap (a1)) 5))))) else (locklesslaw02_OrderPlains.j0 k (wrap64 (Int.tmod (IntKind.u64.wrap (a0)) 5)) (wrap64 (Int.tmod (IntKind.u64.wrap (a1)) 5)) bt131.1 bt133.1 true)) else (locklesslaw02_OrderPlains.j0 k (wrap64 (Int.tmod (IntKind.u64.wrap (a0)) 5)) (wrap64 (Int.tmod (IntKind.u64.wrap (a1)) 5)) bt131.1 bt133.1 true)) else (locklesslaw02_OrderPlains.j0 k (wrap64 (Int.tmod (IntKind.u64.wrap (a0)) 5)) (wrap64 (Int.tmod (IntKind.u64.wrap (a1)) 5)) bt131.1 bt133.1 true)) else (locklesslaw02_OrderPlains.j0 k (wrap64 (Int.tmod (IntKind.u64.wrap (a0)) 5)) (wrap64 (Int.tmod (IntKind.u64.wrap (a1)) 5)) bt131.1 bt133.1 true)) else (locklesslaw02_OrderPlains.j0 k (wrap64 (Int.tmod (IntKind.u64.wrap (a0)) 5)) (wrap64 (Int.tmod (IntKind.u64.wrap (a1)) 5)) bt131.1 bt133.1 true)) else (locklesslaw02_OrderPlains.j0 k (wrap64 (Int.tmod (IntKind.u64.wrap (a0)) 5)) (wrap64 (Int.tmod (IntKind.u64.wrap (a1)) 5)) bt131.1 bt133.1 true))))) = some r := by rw [if_pos rfl] at H; exact H
      clear H
      have H := H1
      clear H1
      replace H := Option.bind_eq_some_iff.mp H
      obtain ⟨⟨t129, t130⟩, A80, H⟩ := H
      replace H : ((order_Acquires.f t127).bind fun bt131 => ((order_Releases.f t127).bind fun bt133 => (if t126 = 0 then (if t128 = 0 then (if t130 = 0 then (if bt131.2 = 0 then (if bt133.2 = 0 then (if t129 = true then (locklesslaw02_OrderPlains.j0 k (wrap64 (Int.tmod (IntKind.u64.wrap (a0)) 5)) (wrap64 (Int.tmod (IntKind.u64.wrap (a1)) 5)) bt131.1 bt133.1 (((wrap64 (Int.tmod (IntKind.u64.wrap (a1)) 5)) == 4) == (t127 == (wrap64 (Int.tmod (IntKind.u64.wrap (a1)) 5))))) else (locklesslaw02_OrderPlains.j0 k (wrap64 (Int.tmod (IntKind.u64.wrap (a0)) 5)) (wrap64 (Int.tmod (IntKind.u64.wrap (a1)) 5)) bt131.1 bt133.1 true)) else (locklesslaw02_OrderPlains.j0 k (wrap64 (Int.tmod (IntKind.u64.wrap (a0)) 5)) (wrap64 (Int.tmod (IntKind.u64.wrap (a1)) 5)) bt131.1 bt133.1 true)) else (locklesslaw02_OrderPlains.j0 k (wrap64 (Int.tmod (IntKind.u64.wrap (a0)) 5)) (wrap64 (Int.tmod (IntKind.u64.wrap (a1)) 5)) bt131.1 bt133.1 true)) else (locklesslaw02_OrderPlains.j0 k (wrap64 (Int.tmod (IntKind.u64.wrap (a0)) 5)) (wrap64 (Int.tmod (IntKind.u64.wrap (a1)) 5)) bt131.1 bt133.1 true)) else (locklesslaw02_OrderPlains.j0 k (wrap64 (Int.tmod (IntKind.u64.wrap (a0)) 5)) (wrap64 (Int.tmod (IntKind.u64.wrap (a1)) 5)) bt131.1 bt133.1 true)) else (locklesslaw02_OrderPlains.j0 k (wrap64 (Int.tmod (IntKind.u64.wrap (a0)) 5)) (wrap64 (Int.tmod (IntKind.u64.wrap (a1)) 5)) bt131.1 bt133.1 true)))) = some r := H
      have A8 := Aside0.mk A80
      clear A80
      replace H := Option.bind_eq_some_iff.mp H
      obtain ⟨⟨t131, t132⟩, A90, H⟩ := H
      replace H : ((order_Releases.f t127).bind fun bt133 => (if t126 = 0 then (if t128 = 0 then (if t130 = 0 then (if t132 = 0 then (if bt133.2 = 0 then (if t129 = true then (locklesslaw02_OrderPlains.j0 k (wrap64 (Int.tmod (IntKind.u64.wrap (a0)) 5)) (wrap64 (Int.tmod (IntKind.u64.wrap (a1)) 5)) t131 bt133.1 (((wrap64 (Int.tmod (IntKind.u64.wrap (a1)) 5)) == 4) == (t127 == (wrap64 (Int.tmod (IntKind.u64.wrap (a1)) 5))))) else (locklesslaw02_OrderPlains.j0 k (wrap64 (Int.tmod (IntKind.u64.wrap (a0)) 5)) (wrap64 (Int.tmod (IntKind.u64.wrap (a1)) 5)) t131 bt133.1 true)) else (locklesslaw02_OrderPlains.j0 k (wrap64 (Int.tmod (IntKind.u64.wrap (a0)) 5)) (wrap64 (Int.tmod (IntKind.u64.wrap (a1)) 5)) t131 bt133.1 true)) else (locklesslaw02_OrderPlains.j0 k (wrap64 (Int.tmod (IntKind.u64.wrap (a0)) 5)) (wrap64 (Int.tmod (IntKind.u64.wrap (a1)) 5)) t131 bt133.1 true)) else (locklesslaw02_OrderPlains.j0 k (wrap64 (Int.tmod (IntKind.u64.wrap (a0)) 5)) (wrap64 (Int.tmod (IntKind.u64.wrap (a1)) 5)) t131 bt133.1 true)) else (locklesslaw02_OrderPlains.j0 k (wrap64 (Int.tmod (IntKind.u64.wrap (a0)) 5)) (wrap64 (Int.tmod (IntKind.u64.wrap (a1)) 5)) t131 bt133.1 true)) else (locklesslaw02_OrderPlains.j0 k (wrap64 (Int.tmod (IntKind.u64.wrap (a0)) 5)) (wrap64 (Int.tmod (IntKind.u64.wrap (a1)) 5)) t131 bt133.1 true))) = some r := H
      have A9 := Aside0.mk A90
      clear A90
      replace H := Option.bind_eq_some_iff.mp H
      obtain ⟨⟨t133, t134⟩, A100, H⟩ := H
      replace H : (if t126 = 0 then (if t128 = 0 then (if t130 = 0 then (if t132 = 0 then (if t134 = 0 then (if t129 = true then (locklesslaw02_OrderPlains.j0 k (wrap64 (Int.tmod (IntKind.u64.wrap (a0)) 5)) (wrap64 (Int.tmod (IntKind.u64.wrap (a1)) 5)) t131 t133 (((wrap64 (Int.tmod (IntKind.u64.wrap (a1)) 5)) == 4) == (t127 == (wrap64 (Int.tmod (IntKind.u64.wrap (a1)) 5))))) else (locklesslaw02_OrderPlains.j0 k (wrap64 (Int.tmod (IntKind.u64.wrap (a0)) 5)) (wrap64 (Int.tmod (IntKind.u64.wrap (a1)) 5)) t131 t133 true)) else (locklesslaw02_OrderPlains.j0 k (wrap64 (Int.tmod (IntKind.u64.wrap (a0)) 5)) (wrap64 (Int.tmod (IntKind.u64.wrap (a1)) 5)) t131 t133 true)) else (locklesslaw02_OrderPlains.j0 k (wrap64 (Int.tmod (IntKind.u64.wrap (a0)) 5)) (wrap64 (Int.tmod (IntKind.u64.wrap (a1)) 5)) t131 t133 true)) else (locklesslaw02_OrderPlains.j0 k (wrap64 (Int.tmod (IntKind.u64.wrap (a0)) 5)) (wrap64 (Int.tmod (IntKind.u64.wrap (a1)) 5)) t131 t133 true)) else (locklesslaw02_OrderPlains.j0 k (wrap64 (Int.tmod (IntKind.u64.wrap (a0)) 5)) (wrap64 (Int.tmod (IntKind.u64.wrap (a1)) 5)) t131 t133 true)) else (locklesslaw02_OrderPlains.j0 k (wrap64 (Int.tmod (IntKind.u64.wrap (a0)) 5)) (wrap64 (Int.tmod (IntKind.u64.wrap (a1)) 5)) t131 t133 true)) = some r := H
      have A10 := Aside0.mk A100
      clear A100
      have HC11 := Aside0.mk H
      clear H
      go_enter Try.func10, Try.ntmps10
      go_upto_region 11 with (first | ((with_reducible refine gate_callee (f := 12) rfl ?_); refine goesL_ (some 17) rfl rfl Try.func12 (by kernel_rfl) rfl #[] rfl (by (try simp only [List.map_toArray, List.map_cons, List.map_nil]); first | done | rfl | (simp only [List.length_drop, List.length_take]; rfl)) ?_; (with_reducible refine (locklesslaw02_awake.calls k  true _ A3.out).mono ?_); rintro e w12 ⟨rfl, hb⟩; refine ⟨_, rfl, ?_⟩; have n0_ := Aside0.mk (below_step (by repeat (first | (with_reducible first | exact HB.out | apply below_alloc | apply pw_below_drewN | apply below_drew1) | exact HB.out)) hb); clear HB; have HB := n0_; clear n0_; (try clear hb); (try clear hb2); (try clear hk); (try clear hi)) | ((with_reducible refine gate_callee (f := 14) rfl ?_); refine goesL_ (some 30) rfl rfl Try.func14 (by kernel_rfl) rfl #[.int .i64 (wrap64 (Int.tmod (IntKind.u64.wrap (a0)) 5)), .int .i64 (wrap64 (Int.tmod (IntKind.u64.wrap (a1)) 5))] rfl (by (try simp only [List.map_toArray, List.map_cons, List.map_nil]); first | done | rfl | (simp only [List.length_drop, List.length_take]; rfl)) ?_; (with_reducible refine (order_May.calls (wrap64 (Int.tmod (IntKind.u64.wrap (a0)) 5)) (wrap64 (Int.tmod (IntKind.u64.wrap (a1)) 5)) true t126 _ A5.out).mono ?_); rintro e w' ⟨rfl, ⟨nd, rfl⟩⟩; refine ⟨_, rfl, ?_⟩) | ((with_reducible refine gate_callee (f := 36) rfl ?_); refine goesL_ (some 36) rfl rfl Try.func36 (by kernel_rfl) rfl #[.int .i64 (wrap64 (Int.tmod (IntKind.u64.wrap (a0)) 5)), .int .i64 (wrap64 (Int.tmod (IntKind.u64.wrap (a1)) 5))] rfl (by (try simp only [List.map_toArray, List.map_cons, List.map_nil]); first | done | rfl | (simp only [List.length_drop, List.length_take]; rfl)) ?_; (with_reducible refine (order_Plain.calls k (wrap64 (Int.tmod (IntKind.u64.wrap (a0)) 5)) (wrap64 (Int.tmod (IntKind.u64.wrap (a1)) 5)) t127 t128 _ A6.out).mono ?_); rintro e w' ⟨rfl, ⟨nd, rfl⟩⟩; refine ⟨_, rfl, ?_⟩) | ((with_reducible refine gate_callee (f := 14) rfl ?_); refine goesL_ (some 54) rfl rfl Try.func14 (by kernel_rfl) rfl #[.int .i64 (wrap64 (Int.tmod (IntKind.u64.wrap (a0)) 5)), .int .i64 t127] rfl (by (try simp only [List.map_toArray, List.map_cons, List.map_nil]); first | done | rfl | (simp only [List.length_drop, List.length_take]; rfl)) ?_; (with_reducible refine (order_May.calls (wrap64 (Int.tmod (IntKind.u64.wrap (a0)) 5)) t127 t129 t130 _ A8.out).mono ?_); rintro e w' ⟨rfl, ⟨nd, rfl⟩⟩; refine ⟨_, rfl, ?_⟩) | ((with_reducible refine gate_callee (f := 22) rfl ?_); refine goesL_ (some 59) rfl rfl Try.func22 (by kernel_rfl) rfl #[.int .i64 t127] rfl (by (try simp only [List.map_toArray, List.map_cons, List.map_nil]); first | done | rfl | (simp only [List.length_drop, List.length_take]; rfl)) ?_; (with_reducible refine (order_Acquires.calls t127 t131 t132 _ A9.out).mono ?_); rintro e w' ⟨rfl, ⟨nd, rfl⟩⟩; refine ⟨_, rfl, ?_⟩) | ((with_reducible refine gate_callee (f := 23) rfl ?_); refine goesL_ (some 64) rfl rfl Try.func23 (by kernel_rfl) rfl #[.int .i64 t127] rfl (by (try simp only [List.map_toArray, List.map_cons, List.map_nil]); first | done | rfl | (simp only [List.length_drop, List.length_take]; rfl)) ?_; (with_reducible refine (order_Releases.calls t127 t133 t134 _ A10.out).mono ?_); rintro e w' ⟨rfl, ⟨nd, rfl⟩⟩; refine ⟨_, rfl, ?_⟩))
      (try simp only [Act.put, List.setIfInBounds_toArray, List.set_cons_zero, List.set_cons_succ])
      go_cut [96] (fun v96 wc => ∃ (kq : Nat) (x96_10 : Bool), v96 = .bool x96_10 ∧ Aside0 (locklesslaw02_OrderPlains.j0 kq (wrap64 (Int.tmod (IntKind.u64.wrap (a0)) 5)) (wrap64 (Int.tmod (IntKind.u64.wrap (a1)) 5)) t131 t133 x96_10 = some r) ∧ Aside0 (kq ≤ k) ∧ Aside0 (Below w.heap.size w wc))
      case first =>
        have H := HC11.out
        clear HC11
        by_cases c13 : t126 = 0
        · rw [if_pos c13] at H
          have c13b0 : (t126 == 0) = true := beq_iff_eq.mpr c13
          have c13b1 : (t126 != 0) = false := bne_eq_false_iff_eq.mpr c13
          clear c13
          (first | rw [c13b0] | (simp only [i64_w, i32_w]; rw [c13b0]) | skip)
          by_cases c14 : t128 = 0
          · rw [if_pos c14] at H
            have c14b0 : (t128 == 0) = true := beq_iff_eq.mpr c14
            have c14b1 : (t128 != 0) = false := bne_eq_false_iff_eq.mpr c14
            clear c14
            by_cases c15 : t130 = 0
            · rw [if_pos c15] at H
              have c15b0 : (t130 == 0) = true := beq_iff_eq.mpr c15
              have c15b1 : (t130 != 0) = false := bne_eq_false_iff_eq.mpr c15
              clear c15
              by_cases c16 : t132 = 0
              · rw [if_pos c16] at H
                have c16b0 : (t132 == 0) = true := beq_iff_eq.mpr c16
                have c16b1 : (t132 != 0) = false := bne_eq_false_iff_eq.mpr c16
                clear c16
                by_cases c17 : t134 = 0
                · rw [if_pos c17] at H
                  have c17b0 : (t134 == 0) = true := beq_iff_eq.mpr c17
                  have c17b1 : (t134 != 0) = false := bne_eq_false_iff_eq.mpr c17
                  clear c17
                  by_cases c18 : t129 = true
                  · subst c18
                    have H1 : (locklesslaw02_OrderPlains.j0 k (wrap64 (Int.tmod (IntKind.u64.wrap (a0)) 5)) (wrap64 (Int.tmod (IntKind.u64.wrap (a1)) 5)) t131 t133 (((wrap64 (Int.tmod (IntKind.u64.wrap (a1)) 5)) == 4) == (t127 == (wrap64 (Int.tmod (IntKind.u64.wrap (a1)) 5))))) = some r := by rw [if_pos rfl] at H; exact H
                    clear H
                    have H := H1
                    clear H1
                    have H' := Aside0.mk H
                    clear H
                    go_wp2
                    go_meet
                    case rel => exact ⟨_, ((((wrap64 (Int.tmod (IntKind.u64.wrap (a1)) 5)) == 4) == (t127 == (wrap64 (Int.tmod (IntKind.u64.wrap (a1)) 5))))), (by first | rfl | (simp; done) | (simp [*]; done)), H', ⟨by first | omega | exact Nat.le_refl _⟩, ⟨by repeat (first | (with_reducible first | exact HB.out | apply below_alloc | apply pw_below_drewN | apply below_drew1) | exact HB.out)⟩⟩
                  · replace c18 := Bool.eq_false_iff.mpr c18
                    subst c18
                    have H1 : (locklesslaw02_OrderPlains.j0 k (wrap64 (Int.tmod (IntKind.u64.wrap (a0)) 5)) (wrap64 (Int.tmod (IntKind.u64.wrap (a1)) 5)) t131 t133 true) = some r := by rw [if_neg (show ¬ (false = true) by decide)] at H; exact H
                    clear H
                    have H := H1
                    clear H1
                    have H' := Aside0.mk H
                    clear H
                    go_wp2
                    go_meet
                    case rel => exact ⟨_, (true), (by first | rfl | (simp; done) | (simp [*]; done)), H', ⟨by first | omega | exact Nat.le_refl _⟩, ⟨by repeat (first | (with_reducible first | exact HB.out | apply below_alloc | apply pw_below_drewN | apply below_drew1) | exact HB.out)⟩⟩
                · rw [if_neg c17] at H
                  have c17b0 : (t134 == 0) = false := beq_eq_false_iff_ne.mpr c17
                  have c17b1 : (t134 != 0) = true := bne_iff_ne.mpr c17
                  have H' := Aside0.mk H
                  clear H
                  go_wp2
                  go_meet
                  case rel => exact ⟨_, (true), (by first | rfl | (simp; done) | (simp [*]; done)), H', ⟨by first | omega | exact Nat.le_refl _⟩, ⟨by repeat (first | (with_reducible first | exact HB.out | apply below_alloc | apply pw_below_drewN | apply below_drew1) | exact HB.out)⟩⟩
              · rw [if_neg c16] at H
                have c16b0 : (t132 == 0) = false := beq_eq_false_iff_ne.mpr c16
                have c16b1 : (t132 != 0) = true := bne_iff_ne.mpr c16
                have H' := Aside0.mk H
                clear H
                go_wp2
                go_meet
                case rel => exact ⟨_, (true), (by first | rfl | (simp; done) | (simp [*]; done)), H', ⟨by first | omega | exact Nat.le_refl _⟩, ⟨by repeat (first | (with_reducible first | exact HB.out | apply below_alloc | apply pw_below_drewN | apply below_drew1) | exact HB.out)⟩⟩
            · rw [if_neg c15] at H
              have c15b0 : (t130 == 0) = false := beq_eq_false_iff_ne.mpr c15
              have c15b1 : (t130 != 0) = true := bne_iff_ne.mpr c15
              have H' := Aside0.mk H
              clear H
              go_wp2
              go_meet
              case rel => exact ⟨_, (true), (by first | rfl | (simp; done) | (simp [*]; done)), H', ⟨by first | omega | exact Nat.le_refl _⟩, ⟨by repeat (first | (with_reducible first | exact HB.out | apply below_alloc | apply pw_below_drewN | apply below_drew1) | exact HB.out)⟩⟩
          · rw [if_neg c14] at H
            have c14b0 : (t128 == 0) = false := beq_eq_false_iff_ne.mpr c14
            have c14b1 : (t128 != 0) = true := bne_iff_ne.mpr c14
            have H' := Aside0.mk H
            clear H
            go_wp2
            go_meet
            case rel => exact ⟨_, (true), (by first | rfl | (simp; done) | (simp [*]; done)), H', ⟨by first | omega | exact Nat.le_refl _⟩, ⟨by repeat (first | (with_reducible first | exact HB.out | apply below_alloc | apply pw_below_drewN | apply below_drew1) | exact HB.out)⟩⟩
        · rw [if_neg c13] at H
          have c13b0 : (t126 == 0) = false := beq_eq_false_iff_ne.mpr c13
          have c13b1 : (t126 != 0) = true := bne_iff_ne.mpr c13
          (first | rw [c13b0] | (simp only [i64_w, i32_w]; rw [c13b0]) | skip)
          have H' := Aside0.mk H
          clear H
          go_wp2
          go_meet
          case rel => exact ⟨_, (true), (by first | rfl | (simp; done) | (simp [*]; done)), H', ⟨by first | omega | exact Nat.le_refl _⟩, ⟨by repeat (first | (with_reducible first | exact HB.out | apply below_alloc | apply pw_below_drewN | apply below_drew1) | exact HB.out)⟩⟩
      case rest =>
        clear HC11
        try clear c1
        try clear c2
        try clear p2
        try clear c3
        try clear c4
        try clear p6
        try clear c7
        try clear c10
        try clear c12
        try clear c13
        try clear c13b0
        try clear c13b1
        try clear c14
        try clear c14b0
        try clear c14b1
        try clear c15
        try clear c15b0
        try clear c15b1
        try clear c16
        try clear c16b0
        try clear c16b1
        try clear c17
        try clear c17b0
        try clear c17b1
        try clear c18
        obtain ⟨kq, x96_10, rfl, HA, HJ10, HB⟩ := hcut
        cases kq with
        | zero => exact absurd HA.out (by simp [locklesslaw02_OrderPlains.j0])
        | succ kj10 =>
          have H := HA.out
          clear HA
          simp only [locklesslaw02_OrderPlains.j0] at H
          by_cases c19 : x96_10 = true
          · subst c19
            have H1 : (some false) = some r := by rw [if_pos rfl] at H; exact H
            clear H
            have H := H1
            clear H1
            obtain rfl := Option.some.inj H
            go_wp2
            go_ret
            exact ⟨by first | rfl | (simp [errW_none, errW_some] <;> rfl) | (simp [*, errW_none, errW_some] <;> rfl), by repeat (first | (with_reducible first | exact HB.out | apply below_alloc | apply pw_below_drewN | apply below_drew1) | exact HB.out)⟩
          · replace c19 := Bool.eq_false_iff.mpr c19
            subst c19
            have H1 : (if (wrap64 (Int.tmod (IntKind.u64.wrap (a1)) 5)) = 4 then (if (t131 == ((wrap64 (Int.tmod (IntKind.u64.wrap (a0)) 5)) != 1)) = true then (some (t133 == ((wrap64 (Int.tmod (IntKind.u64.wrap (a0)) 5)) != 0))) else (some false)) else (some true)) = some r := by rw [if_neg (show ¬ (false = true) by decide)] at H; exact H
            clear H
            have H := H1
            clear H1
            by_cases c20 : (wrap64 (Int.tmod (IntKind.u64.wrap (a1)) 5)) = 4
            · rw [if_pos c20] at H
              have c20b0 : ((wrap64 (Int.tmod (IntKind.u64.wrap (a1)) 5)) == 4) = true := beq_iff_eq.mpr c20
              have c20b1 : ((wrap64 (Int.tmod (IntKind.u64.wrap (a1)) 5)) != 4) = false := bne_eq_false_iff_eq.mpr c20
              clear c20
              by_cases c21 : (t131 == ((wrap64 (Int.tmod (IntKind.u64.wrap (a0)) 5)) != 1)) = true
              · rw [if_pos c21] at H
                have c21b0 : (t131 == ((wrap64 (Int.tmod (IntKind.u64.wrap (a0)) 5)) != 1)) = true := c21
                (try (have c21b1 : decide (t131 = ((wrap64 (Int.tmod (IntKind.u64.wrap (a0)) 5)) != 1)) = true := by simpa using c21))
                (try (have c21b2 : (t131 == ((wrap64 (Int.tmod (IntKind.u64.wrap (a0)) 5)) != 1)) = true := by simpa using c21))
                clear c21
                obtain rfl := Option.some.inj H
                go_wp2
                go_ret
                exact ⟨by first | rfl | (simp [errW_none, errW_some] <;> rfl) | (simp [*, errW_none, errW_some] <;> rfl), by repeat (first | (with_reducible first | exact HB.out | apply below_alloc | apply pw_below_drewN | apply below_drew1) | exact HB.out)⟩
              · rw [if_neg c21] at H
                have c21b0 : (t131 == ((wrap64 (Int.tmod (IntKind.u64.wrap (a0)) 5)) != 1)) = false := by simpa using c21
                (try (have c21b1 : decide (t131 = ((wrap64 (Int.tmod (IntKind.u64.wrap (a0)) 5)) != 1)) = false := by simpa using c21))
                (try (have c21b2 : (t131 == ((wrap64 (Int.tmod (IntKind.u64.wrap (a0)) 5)) != 1)) = false := by simpa using c21))
                (try (have c21b3 : ¬ (t131 = ((wrap64 (Int.tmod (IntKind.u64.wrap (a0)) 5)) != 1)) := by simpa using c21))
                clear c21
                obtain rfl := Option.some.inj H
                go_wp2
                go_ret
                exact ⟨by first | rfl | (simp [errW_none, errW_some] <;> rfl) | (simp [*, errW_none, errW_some] <;> rfl), by repeat (first | (with_reducible first | exact HB.out | apply below_alloc | apply pw_below_drewN | apply below_drew1) | exact HB.out)⟩
            · rw [if_neg c20] at H
              have c20b0 : ((wrap64 (Int.tmod (IntKind.u64.wrap (a1)) 5)) == 4) = false := beq_eq_false_iff_ne.mpr c20
              have c20b1 : ((wrap64 (Int.tmod (IntKind.u64.wrap (a1)) 5)) != 4) = true := bne_iff_ne.mpr c20
              obtain rfl := Option.some.inj H
              go_wp2
              go_ret
              exact ⟨by first | rfl | (simp [errW_none, errW_some] <;> rfl) | (simp [*, errW_none, errW_some] <;> rfl), by repeat (first | (with_reducible first | exact HB.out | apply below_alloc | apply pw_below_drewN | apply below_drew1) | exact HB.out)⟩
    · replace c7 := Bool.eq_false_iff.mpr c7
      subst c7
      have H1 : (if t126 = 0 then (if t127 = 0 then (some (t128 == 1)) else (some false)) else (some false)) = some r := by rw [if_neg (show ¬ (false = true) by decide)] at H; exact H
      clear H
      have H := H1
      clear H1
      by_cases c22 : t126 = 0
      · rw [if_pos c22] at H
        have c22b0 : (t126 == 0) = true := beq_iff_eq.mpr c22
        have c22b1 : (t126 != 0) = false := bne_eq_false_iff_eq.mpr c22
        clear c22
        by_cases c23 : t127 = 0
        · rw [if_pos c23] at H
          have c23b0 : (t127 == 0) = true := beq_iff_eq.mpr c23
          have c23b1 : (t127 != 0) = false := bne_eq_false_iff_eq.mpr c23
          clear c23
          obtain rfl := Option.some.inj H
          go_enter Try.func10, Try.ntmps10
          go_wp2_with (first | ((with_reducible refine gate_callee (f := 12) rfl ?_); refine goesL_ (some 17) rfl rfl Try.func12 (by kernel_rfl) rfl #[] rfl (by (try simp only [List.map_toArray, List.map_cons, List.map_nil]); first | done | rfl | (simp only [List.length_drop, List.length_take]; rfl)) ?_; (with_reducible refine (locklesslaw02_awake.calls k  true _ A3.out).mono ?_); rintro e w24 ⟨rfl, hb⟩; refine ⟨_, rfl, ?_⟩; have n0_ := Aside0.mk (below_step (by repeat (first | (with_reducible first | exact HB.out | apply below_alloc | apply pw_below_drewN | apply below_drew1) | exact HB.out)) hb); clear HB; have HB := n0_; clear n0_; (try clear hb); (try clear hb2); (try clear hk); (try clear hi)) | ((with_reducible refine gate_callee (f := 14) rfl ?_); refine goesL_ (some 30) rfl rfl Try.func14 (by kernel_rfl) rfl #[.int .i64 (wrap64 (Int.tmod (IntKind.u64.wrap (a0)) 5)), .int .i64 (wrap64 (Int.tmod (IntKind.u64.wrap (a1)) 5))] rfl (by (try simp only [List.map_toArray, List.map_cons, List.map_nil]); first | done | rfl | (simp only [List.length_drop, List.length_take]; rfl)) ?_; (with_reducible refine (order_May.calls (wrap64 (Int.tmod (IntKind.u64.wrap (a0)) 5)) (wrap64 (Int.tmod (IntKind.u64.wrap (a1)) 5)) false t126 _ A5.out).mono ?_); rintro e w' ⟨rfl, ⟨nd, rfl⟩⟩; refine ⟨_, rfl, ?_⟩) | ((with_reducible refine gate_callee (f := 36) rfl ?_); refine goesL_ (some 36) rfl rfl Try.func36 (by kernel_rfl) rfl #[.int .i64 (wrap64 (Int.tmod (IntKind.u64.wrap (a0)) 5)), .int .i64 (wrap64 (Int.tmod (IntKind.u64.wrap (a1)) 5))] rfl (by (try simp only [List.map_toArray, List.map_cons, List.map_nil]); first | done | rfl | (simp only [List.length_drop, List.length_take]; rfl)) ?_; (with_reducible refine (order_Plain.calls k (wrap64 (Int.tmod (IntKind.u64.wrap (a0)) 5)) (wrap64 (Int.tmod (IntKind.u64.wrap (a1)) 5)) t127 t128 _ A6.out).mono ?_); rintro e w' ⟨rfl, ⟨nd, rfl⟩⟩; refine ⟨_, rfl, ?_⟩))
          go_ret
          exact ⟨by first | rfl | (simp [errW_none, errW_some] <;> rfl) | (simp [*, errW_none, errW_some] <;> rfl), by repeat (first | (with_reducible first | exact HB.out | apply below_alloc | apply pw_below_drewN | apply below_drew1) | exact HB.out)⟩
        · rw [if_neg c23] at H
          have c23b0 : (t127 == 0) = false := beq_eq_false_iff_ne.mpr c23
          have c23b1 : (t127 != 0) = true := bne_iff_ne.mpr c23
          obtain rfl := Option.some.inj H
          go_enter Try.func10, Try.ntmps10
          go_wp2_with (first | ((with_reducible refine gate_callee (f := 12) rfl ?_); refine goesL_ (some 17) rfl rfl Try.func12 (by kernel_rfl) rfl #[] rfl (by (try simp only [List.map_toArray, List.map_cons, List.map_nil]); first | done | rfl | (simp only [List.length_drop, List.length_take]; rfl)) ?_; (with_reducible refine (locklesslaw02_awake.calls k  true _ A3.out).mono ?_); rintro e w25 ⟨rfl, hb⟩; refine ⟨_, rfl, ?_⟩; have n0_ := Aside0.mk (below_step (by repeat (first | (with_reducible first | exact HB.out | apply below_alloc | apply pw_below_drewN | apply below_drew1) | exact HB.out)) hb); clear HB; have HB := n0_; clear n0_; (try clear hb); (try clear hb2); (try clear hk); (try clear hi)) | ((with_reducible refine gate_callee (f := 14) rfl ?_); refine goesL_ (some 30) rfl rfl Try.func14 (by kernel_rfl) rfl #[.int .i64 (wrap64 (Int.tmod (IntKind.u64.wrap (a0)) 5)), .int .i64 (wrap64 (Int.tmod (IntKind.u64.wrap (a1)) 5))] rfl (by (try simp only [List.map_toArray, List.map_cons, List.map_nil]); first | done | rfl | (simp only [List.length_drop, List.length_take]; rfl)) ?_; (with_reducible refine (order_May.calls (wrap64 (Int.tmod (IntKind.u64.wrap (a0)) 5)) (wrap64 (Int.tmod (IntKind.u64.wrap (a1)) 5)) false t126 _ A5.out).mono ?_); rintro e w' ⟨rfl, ⟨nd, rfl⟩⟩; refine ⟨_, rfl, ?_⟩) | ((with_reducible refine gate_callee (f := 36) rfl ?_); refine goesL_ (some 36) rfl rfl Try.func36 (by kernel_rfl) rfl #[.int .i64 (wrap64 (Int.tmod (IntKind.u64.wrap (a0)) 5)), .int .i64 (wrap64 (Int.tmod (IntKind.u64.wrap (a1)) 5))] rfl (by (try simp only [List.map_toArray, List.map_cons, List.map_nil]); first | done | rfl | (simp only [List.length_drop, List.length_take]; rfl)) ?_; (with_reducible refine (order_Plain.calls k (wrap64 (Int.tmod (IntKind.u64.wrap (a0)) 5)) (wrap64 (Int.tmod (IntKind.u64.wrap (a1)) 5)) t127 t128 _ A6.out).mono ?_); rintro e w' ⟨rfl, ⟨nd, rfl⟩⟩; refine ⟨_, rfl, ?_⟩))
          go_ret
          exact ⟨by first | rfl | (simp [errW_none, errW_some] <;> rfl) | (simp [*, errW_none, errW_some] <;> rfl), by repeat (first | (with_reducible first | exact HB.out | apply below_alloc | apply pw_below_drewN | apply below_drew1) | exact HB.out)⟩
      · rw [if_neg c22] at H
        have c22b0 : (t126 == 0) = false := beq_eq_false_iff_ne.mpr c22
        have c22b1 : (t126 != 0) = true := bne_iff_ne.mpr c22
        obtain rfl := Option.some.inj H
        go_enter Try.func10, Try.ntmps10
        go_wp2_with (first | ((with_reducible refine gate_callee (f := 12) rfl ?_); refine goesL_ (some 17) rfl rfl Try.func12 (by kernel_rfl) rfl #[] rfl (by (try simp only [List.map_toArray, List.map_cons, List.map_nil]); first | done | rfl | (simp only [List.length_drop, List.length_take]; rfl)) ?_; (with_reducible refine (locklesslaw02_awake.calls k  true _ A3.out).mono ?_); rintro e w26 ⟨rfl, hb⟩; refine ⟨_, rfl, ?_⟩; have n0_ := Aside0.mk (below_step (by repeat (first | (with_reducible first | exact HB.out | apply below_alloc | apply pw_below_drewN | apply below_drew1) | exact HB.out)) hb); clear HB; have HB := n0_; clear n0_; (try clear hb); (try clear hb2); (try clear hk); (try clear hi)) | ((with_reducible refine gate_callee (f := 14) rfl ?_); refine goesL_ (some 30) rfl rfl Try.func14 (by kernel_rfl) rfl #[.int .i64 (wrap64 (Int.tmod (IntKind.u64.wrap (a0)) 5)), .int .i64 (wrap64 (Int.tmod (IntKind.u64.wrap (a1)) 5))] rfl (by (try simp only [List.map_toArray, List.map_cons, List.map_nil]); first | done | rfl | (simp only [List.length_drop, List.length_take]; rfl)) ?_; (with_reducible refine (order_May.calls (wrap64 (Int.tmod (IntKind.u64.wrap (a0)) 5)) (wrap64 (Int.tmod (IntKind.u64.wrap (a1)) 5)) false t126 _ A5.out).mono ?_); rintro e w' ⟨rfl, ⟨nd, rfl⟩⟩; refine ⟨_, rfl, ?_⟩) | ((with_reducible refine gate_callee (f := 36) rfl ?_); refine goesL_ (some 36) rfl rfl Try.func36 (by kernel_rfl) rfl #[.int .i64 (wrap64 (Int.tmod (IntKind.u64.wrap (a0)) 5)), .int .i64 (wrap64 (Int.tmod (IntKind.u64.wrap (a1)) 5))] rfl (by (try simp only [List.map_toArray, List.map_cons, List.map_nil]); first | done | rfl | (simp only [List.length_drop, List.length_take]; rfl)) ?_; (with_reducible refine (order_Plain.calls k (wrap64 (Int.tmod (IntKind.u64.wrap (a0)) 5)) (wrap64 (Int.tmod (IntKind.u64.wrap (a1)) 5)) t127 t128 _ A6.out).mono ?_); rintro e w' ⟨rfl, ⟨nd, rfl⟩⟩; refine ⟨_, rfl, ?_⟩))
        go_ret
        exact ⟨by first | rfl | (simp [errW_none, errW_some] <;> rfl) | (simp [*, errW_none, errW_some] <;> rfl), by repeat (first | (with_reducible first | exact HB.out | apply below_alloc | apply pw_below_drewN | apply below_drew1) | exact HB.out)⟩
  · replace c4 := Bool.eq_false_iff.mpr c4
    subst c4
    have H1 : (some false) = some r := by rw [if_neg (show ¬ (false = true) by decide)] at H; exact H
    clear H
    have H := H1
    clear H1
    obtain rfl := Option.some.inj H
    go_enter Try.func10, Try.ntmps10
    go_wp2_with (first | ((with_reducible refine gate_callee (f := 12) rfl ?_); refine goesL_ (some 17) rfl rfl Try.func12 (by kernel_rfl) rfl #[] rfl (by (try simp only [List.map_toArray, List.map_cons, List.map_nil]); first | done | rfl | (simp only [List.length_drop, List.length_take]; rfl)) ?_; (with_reducible refine (locklesslaw02_awake.calls k  false _ A3.out).mono ?_); rintro e w27 ⟨rfl, hb⟩; refine ⟨_, rfl, ?_⟩; have n0_ := Aside0.mk (below_step (by repeat (first | (with_reducible first | exact HB.out | apply below_alloc | apply pw_below_drewN | apply below_drew1) | exact HB.out)) hb); clear HB; have HB := n0_; clear n0_; (try clear hb); (try clear hb2); (try clear hk); (try clear hi)))
    go_ret
    exact ⟨by first | rfl | (simp [errW_none, errW_some] <;> rfl) | (simp [*, errW_none, errW_some] <;> rfl), by repeat (first | (with_reducible first | exact HB.out | apply below_alloc | apply pw_below_drewN | apply below_drew1) | exact HB.out)⟩

/-- THE ONE PURE STATEMENT of locklesslaw02_OrderPlains: yours. -/
def locklesslaw02_OrderPlains.Pure : Prop := ∀ (a0 : Int) (a1 : Int), (Lit.int .i64 a0).wf = true → (Lit.int .i64 a1).wf = true → ∃ k, locklesslaw02_OrderPlains.f k a0 a1 = some true
theorem locklesslaw02_OrderPlains.walk (P : locklesslaw02_OrderPlains.Pure) (a0 : Int) (a1 : Int) (w : World) (w0 : (Lit.int .i64 a0).wf = true) (w1 : (Lit.int .i64 a1).wf = true) :
    Calls Try.prog 10 #[.int .i64 a0, .int .i64 a1] w fun e w' => e = .returned (.bool true) ∧ Below w.heap.size w w' := by
  obtain ⟨k, h⟩ := P a0 a1 w0 w1
  refine (locklesslaw02_OrderPlains.calls k a0 a1 true w h).mono ?_
  rintro e w' ⟨rfl, hd⟩
  exact ⟨rfl, hd⟩

end Go.Proofs.Ytjiblcngjfbcmaa.POrderPlains
