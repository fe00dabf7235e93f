/- The document's One, walked, rule by rule: plain lemmas; no condition. -/
import Derived.Test.YtiialjmpfeopjaaGreatRfH
import Derived.Test.YtiialjmpfeopjaaGreatWTab
import Derived.Test.YtiialjmpfeopjaaGreatWFour
import Derived.Test.YtiialjmpfeopjaaGreatWQPut
import Derived.Test.YtiialjmpfeopjaaGreatWKept
import Derived.Test.YtiialjmpfeopjaaGreatWNEv
import Derived.Test.YtiialjmpfeopjaaGreatWMore
import Derived.BigQuiet
import Derived.Deep.QuietTactic
import Derived.Deep.RegionHeld3
import Derived.StillTailTactics
namespace Go.Proofs.YtiialjmpfeopjaaGreat.Sp
open Go.RowKit Go.Sort Go.Proofs.YtiialjmpfeopjaaGreatW.PrintWords Go.Proofs.YtiialjmpfeopjaaGreatW.PrintLast Go.Proofs.YtiialjmpfeopjaaGreatW.PrintMore
set_option linter.unusedVariables false
set_option linter.unusedSimpArgs false
set_option maxHeartbeats 8000000
set_option maxRecDepth 100000
def OneAt (r n : Int) (A : Option Addr) (c : Nat) (s : List Int) (op : ByteArray) (x y t : Int) (w : World) (res : Int) (l : List Int) : Prop :=
  Calls Tryz.prog 29 #[.int .i64 r, .int .i64 n, .slice A s.length c, .agg #[.string op, .int .i64 x, .int .i64 y], .int .i64 t] w fun e w' => ∃ v, e = .returned (.tuple #[v, .int .i64 res]) ∧ Own w' w.heap.size v l ∧ Below w.heap.size w w'
theorem one_p7 (n : Int) (A : Option Addr) (c : Nat) (s : List Int) (op : ByteArray) (x y t : Int) (w : World) (hr : Rd w A s) (hc : s.length ≤ c) (hl : s.length ≤ 1000) {res : Int} {l : List Int} (H : ∀ W, Rd W A s → Calls Tryz.prog 43 #[.slice A s.length c, .agg #[.string op, .int .i64 x, .int .i64 y]] W fun e w' => ∃ v, e = .returned (.tuple #[v, .int .i64 res]) ∧ Own w' W.heap.size v l ∧ Below W.heap.size W w') : OneAt 7 n A c s op x y t w res l := by
  unfold OneAt
  have b1 := al1w w (.cells #[.string op, .int .i64 x, .int .i64 y] 24 (0, 0))
  have hr1 : Rd (w.alloc (.cells #[.string op, .int .i64 x, .int .i64 y] 24 (0, 0))) A s := hr.below b1
  have B1 := Aside0.mk b1
  have hmx := hr.max
  have HS := Aside0.mk (H _ hr1)
  clear H hr hr1 hc hl b1
  go_enter Tryz.func29, Tryz.ntmps29
  go_wp2_with (first | (go_at_call 43; refine (HS.out).mono ?_; rintro e w2 ⟨v2, rfl, ho, hb⟩; have HO := Aside0.mk (ho.lower B1.out.size); have B2 := Aside0.mk (btrans B1.out hb); clear ho hb))
  go_ret2
  exact ⟨_, rfl, HO.out, B2.out⟩
theorem one_p8 (n : Int) (A : Option Addr) (c : Nat) (s : List Int) (op : ByteArray) (x y t : Int) (w : World) (hr : Rd w A s) (hc : s.length ≤ c) (hl : s.length ≤ 1000) {res : Int} {l : List Int} (H : ∀ W, Rd W A s → Calls Tryz.prog 43 #[.slice A s.length c, .agg #[.string op, .int .i64 x, .int .i64 y]] W fun e w' => ∃ v, e = .returned (.tuple #[v, .int .i64 res]) ∧ Own w' W.heap.size v l ∧ Below W.heap.size W w') : OneAt 8 n A c s op x y t w res l := by
  unfold OneAt
  have b1 := al1w w (.cells #[.string op, .int .i64 x, .int .i64 y] 24 (0, 0))
  have hr1 : Rd (w.alloc (.cells #[.string op, .int .i64 x, .int .i64 y] 24 (0, 0))) A s := hr.below b1
  have B1 := Aside0.mk b1
  have hmx := hr.max
  have HS := Aside0.mk (H _ hr1)
  clear H hr hr1 hc hl b1
  go_enter Tryz.func29, Tryz.ntmps29
  go_wp2_with (first | (go_at_call 43; refine (HS.out).mono ?_; rintro e w2 ⟨v2, rfl, ho, hb⟩; have HO := Aside0.mk (ho.lower B1.out.size); have B2 := Aside0.mk (btrans B1.out hb); clear ho hb))
  go_ret2
  exact ⟨_, rfl, HO.out, B2.out⟩
theorem one_p12 (n : Int) (A : Option Addr) (c : Nat) (s : List Int) (op : ByteArray) (x y t : Int) (w : World) (hr : Rd w A s) (hc : s.length ≤ c) (hl : s.length ≤ 1000) {res : Int} {l : List Int} (H : ∀ W, Rd W A s → Calls Tryz.prog 44 #[.slice A s.length c, .agg #[.string op, .int .i64 x, .int .i64 y]] W fun e w' => ∃ v, e = .returned (.tuple #[v, .int .i64 res]) ∧ Own w' W.heap.size v l ∧ Below W.heap.size W w') : OneAt 12 n A c s op x y t w res l := by
  unfold OneAt
  have b1 := al1w w (.cells #[.string op, .int .i64 x, .int .i64 y] 24 (0, 0))
  have hr1 : Rd (w.alloc (.cells #[.string op, .int .i64 x, .int .i64 y] 24 (0, 0))) A s := hr.below b1
  have B1 := Aside0.mk b1
  have hmx := hr.max
  have HS := Aside0.mk (H _ hr1)
  clear H hr hr1 hc hl b1
  go_enter Tryz.func29, Tryz.ntmps29
  go_wp2_with (first | (go_at_call 44; refine (HS.out).mono ?_; rintro e w2 ⟨v2, rfl, ho, hb⟩; have HO := Aside0.mk (ho.lower B1.out.size); have B2 := Aside0.mk (btrans B1.out hb); clear ho hb))
  go_ret2
  exact ⟨_, rfl, HO.out, B2.out⟩
theorem one_p13 (n : Int) (A : Option Addr) (c : Nat) (s : List Int) (op : ByteArray) (x y t : Int) (w : World) (hr : Rd w A s) (hc : s.length ≤ c) (hl : s.length ≤ 1000) {res : Int} {l : List Int} (H : ∀ W, Rd W A s → Calls Tryz.prog 45 #[.slice A s.length c, .agg #[.string op, .int .i64 x, .int .i64 y]] W fun e w' => ∃ v, e = .returned (.tuple #[v, .int .i64 res]) ∧ Own w' W.heap.size v l ∧ Below W.heap.size W w') : OneAt 13 n A c s op x y t w res l := by
  unfold OneAt
  have b1 := al1w w (.cells #[.string op, .int .i64 x, .int .i64 y] 24 (0, 0))
  have hr1 : Rd (w.alloc (.cells #[.string op, .int .i64 x, .int .i64 y] 24 (0, 0))) A s := hr.below b1
  have B1 := Aside0.mk b1
  have hmx := hr.max
  have HS := Aside0.mk (H _ hr1)
  clear H hr hr1 hc hl b1
  go_enter Tryz.func29, Tryz.ntmps29
  go_wp2_with (first | (go_at_call 45; refine (HS.out).mono ?_; rintro e w2 ⟨v2, rfl, ho, hb⟩; have HO := Aside0.mk (ho.lower B1.out.size); have B2 := Aside0.mk (btrans B1.out hb); clear ho hb))
  go_ret2
  exact ⟨_, rfl, HO.out, B2.out⟩
theorem one_p15 (n : Int) (A : Option Addr) (c : Nat) (s : List Int) (op : ByteArray) (x y t : Int) (w : World) (hr : Rd w A s) (hc : s.length ≤ c) (hl : s.length ≤ 1000) {res : Int} {l : List Int} (H : ∀ W, Rd W A s → Calls Tryz.prog 46 #[.slice A s.length c, .agg #[.string op, .int .i64 x, .int .i64 y]] W fun e w' => ∃ v, e = .returned (.tuple #[v, .int .i64 res]) ∧ Own w' W.heap.size v l ∧ Below W.heap.size W w') : OneAt 15 n A c s op x y t w res l := by
  unfold OneAt
  have b1 := al1w w (.cells #[.string op, .int .i64 x, .int .i64 y] 24 (0, 0))
  have hr1 : Rd (w.alloc (.cells #[.string op, .int .i64 x, .int .i64 y] 24 (0, 0))) A s := hr.below b1
  have B1 := Aside0.mk b1
  have hmx := hr.max
  have HS := Aside0.mk (H _ hr1)
  clear H hr hr1 hc hl b1
  go_enter Tryz.func29, Tryz.ntmps29
  go_wp2_with (first | (go_at_call 46; refine (HS.out).mono ?_; rintro e w2 ⟨v2, rfl, ho, hb⟩; have HO := Aside0.mk (ho.lower B1.out.size); have B2 := Aside0.mk (btrans B1.out hb); clear ho hb))
  go_ret2
  exact ⟨_, rfl, HO.out, B2.out⟩
theorem one_pop1 (n : Int) (A : Option Addr) (c : Nat) (s : List Int) (op : ByteArray) (x y t : Int) (w : World) (hr : Rd w A s) (hc : s.length ≤ c) (hl : s.length ≤ 1000) (q1 : (op.toList == [112, 117, 115, 104]) = false) (q2 : (op.toList == [101, 110, 113]) = false) (q3 : (op.toList == [112, 111, 112]) = true) : OneAt 1 n A c s op x y t w (takenR s ((s.length : Int) - 1)).1 (takenR s ((s.length : Int) - 1)).2 := by
  unfold OneAt
  have b1 := al1w w (.cells #[.string op, .int .i64 x, .int .i64 y] 24 (0, 0))
  have hr1 : Rd (w.alloc (.cells #[.string op, .int .i64 x, .int .i64 y] 24 (0, 0))) A s := hr.below b1
  have B1 := Aside0.mk b1
  have hmx := hr.max
  obtain ⟨m, hm⟩ : ∃ m : Int, m = (s.length : Int) - 1 := ⟨_, rfl⟩
  have hmw : IntKind.i64.wrap ((s.length : Int) - 1) = m := (IntWalk.i64_in _ (by omega)).trans hm.symm
  have HTK := Aside0.mk (ref_taken A c s m _ hr1 hc (by omega) (fun hne => ⟨by have := List.length_pos_iff.2 hne; omega, by omega⟩))
  rw [← hm]
  clear hr hr1 hc hl b1 hm
  go_enter Tryz.func29, Tryz.ntmps29
  go_wp2_with (first | (go_at_call 42; refine (HTK.out).mono ?_; rintro e w2 ⟨v2, rfl, ho, hb⟩; have HO := Aside0.mk (ho.lower B1.out.size); have B2 := Aside0.mk (btrans B1.out hb); clear ho hb))
  go_ret2
  exact ⟨_, rfl, HO.out, B2.out⟩
theorem one_front2 (n : Int) (A : Option Addr) (c : Nat) (s : List Int) (op : ByteArray) (x y t : Int) (w : World) (hr : Rd w A s) (hc : s.length ≤ c) (hl : s.length ≤ 1000) (q1 : (op.toList == [112, 117, 115, 104]) = false) (q2 : (op.toList == [101, 110, 113]) = false) (q3 : (op.toList == [112, 111, 112]) = false) : OneAt 2 n A c s op x y t w (takenR s 0).1 (takenR s 0).2 := by
  unfold OneAt
  have b1 := al1w w (.cells #[.string op, .int .i64 x, .int .i64 y] 24 (0, 0))
  have hr1 : Rd (w.alloc (.cells #[.string op, .int .i64 x, .int .i64 y] 24 (0, 0))) A s := hr.below b1
  have B1 := Aside0.mk b1
  have hmx := hr.max
  have HTK := Aside0.mk (ref_taken A c s 0 _ hr1 hc (by omega) (fun hne => ⟨by omega, by have := List.length_pos_iff.2 hne; omega⟩))
  clear hr hr1 hc hl b1
  go_enter Tryz.func29, Tryz.ntmps29
  go_wp2_with (first | (go_at_call 42; refine (HTK.out).mono ?_; rintro e w2 ⟨v2, rfl, ho, hb⟩; have HO := Aside0.mk (ho.lower B1.out.size); have B2 := Aside0.mk (btrans B1.out hb); clear ho hb))
  go_ret2
  exact ⟨_, rfl, HO.out, B2.out⟩
theorem one_front3 (n : Int) (A : Option Addr) (c : Nat) (s : List Int) (op : ByteArray) (x y t : Int) (w : World) (hr : Rd w A s) (hc : s.length ≤ c) (hl : s.length ≤ 1000) (q1 : (op.toList == [112, 117, 115, 104]) = false) (q2 : (op.toList == [101, 110, 113]) = false) (q3 : (op.toList == [112, 111, 112]) = false) : OneAt 3 n A c s op x y t w (takenR s 0).1 (takenR s 0).2 := by
  unfold OneAt
  have b1 := al1w w (.cells #[.string op, .int .i64 x, .int .i64 y] 24 (0, 0))
  have hr1 : Rd (w.alloc (.cells #[.string op, .int .i64 x, .int .i64 y] 24 (0, 0))) A s := hr.below b1
  have B1 := Aside0.mk b1
  have hmx := hr.max
  have HTK := Aside0.mk (ref_taken A c s 0 _ hr1 hc (by omega) (fun hne => ⟨by omega, by have := List.length_pos_iff.2 hne; omega⟩))
  clear hr hr1 hc hl b1
  go_enter Tryz.func29, Tryz.ntmps29
  go_wp2_with (first | (go_at_call 42; refine (HTK.out).mono ?_; rintro e w2 ⟨v2, rfl, ho, hb⟩; have HO := Aside0.mk (ho.lower B1.out.size); have B2 := Aside0.mk (btrans B1.out hb); clear ho hb))
  go_ret2
  exact ⟨_, rfl, HO.out, B2.out⟩
theorem one_pop4 (n : Int) (A : Option Addr) (c : Nat) (s : List Int) (op : ByteArray) (x y t : Int) (w : World) (hr : Rd w A s) (hc : s.length ≤ c) (hl : s.length ≤ 1000) (q1 : (op.toList == [112, 117, 115, 104]) = false) (q2 : (op.toList == [101, 110, 113]) = false) (q3 : (op.toList == [112, 111, 112]) = true) : OneAt 4 n A c s op x y t w (takenR s ((s.length : Int) - 1)).1 (takenR s ((s.length : Int) - 1)).2 := by
  unfold OneAt
  have b1 := al1w w (.cells #[.string op, .int .i64 x, .int .i64 y] 24 (0, 0))
  have hr1 : Rd (w.alloc (.cells #[.string op, .int .i64 x, .int .i64 y] 24 (0, 0))) A s := hr.below b1
  have B1 := Aside0.mk b1
  have hmx := hr.max
  obtain ⟨m, hm⟩ : ∃ m : Int, m = (s.length : Int) - 1 := ⟨_, rfl⟩
  have hmw : IntKind.i64.wrap ((s.length : Int) - 1) = m := (IntWalk.i64_in _ (by omega)).trans hm.symm
  have HTK := Aside0.mk (ref_taken A c s m _ hr1 hc (by omega) (fun hne => ⟨by have := List.length_pos_iff.2 hne; omega, by omega⟩))
  rw [← hm]
  clear hr hr1 hc hl b1 hm
  go_enter Tryz.func29, Tryz.ntmps29
  go_wp2_with (first | (go_at_call 42; refine (HTK.out).mono ?_; rintro e w2 ⟨v2, rfl, ho, hb⟩; have HO := Aside0.mk (ho.lower B1.out.size); have B2 := Aside0.mk (btrans B1.out hb); clear ho hb))
  go_ret2
  exact ⟨_, rfl, HO.out, B2.out⟩
theorem one_front4 (n : Int) (A : Option Addr) (c : Nat) (s : List Int) (op : ByteArray) (x y t : Int) (w : World) (hr : Rd w A s) (hc : s.length ≤ c) (hl : s.length ≤ 1000) (q1 : (op.toList == [112, 117, 115, 104]) = false) (q2 : (op.toList == [101, 110, 113]) = false) (q3 : (op.toList == [112, 111, 112]) = false) : OneAt 4 n A c s op x y t w (takenR s 0).1 (takenR s 0).2 := by
  unfold OneAt
  have b1 := al1w w (.cells #[.string op, .int .i64 x, .int .i64 y] 24 (0, 0))
  have hr1 : Rd (w.alloc (.cells #[.string op, .int .i64 x, .int .i64 y] 24 (0, 0))) A s := hr.below b1
  have B1 := Aside0.mk b1
  have hmx := hr.max
  have HTK := Aside0.mk (ref_taken A c s 0 _ hr1 hc (by omega) (fun hne => ⟨by omega, by have := List.length_pos_iff.2 hne; omega⟩))
  clear hr hr1 hc hl b1
  go_enter Tryz.func29, Tryz.ntmps29
  go_wp2_with (first | (go_at_call 42; refine (HTK.out).mono ?_; rintro e w2 ⟨v2, rfl, ho, hb⟩; have HO := Aside0.mk (ho.lower B1.out.size); have B2 := Aside0.mk (btrans B1.out hb); clear ho hb))
  go_ret2
  exact ⟨_, rfl, HO.out, B2.out⟩
theorem one_put5 (n : Int) (A : Option Addr) (c : Nat) (s : List Int) (op : ByteArray) (x y t : Int) (w : World) (hr : Rd w A s) (hc : s.length ≤ c) (hl : s.length ≤ 1000) (q1 : (op.toList == [112, 117, 116]) = true) (hs : s.Pairwise (· ≤ ·)) : OneAt 5 n A c s op x y t w 0 (insL s x) := by
  unfold OneAt
  have b1 := al1w w (.cells #[.string op, .int .i64 x, .int .i64 y] 24 (0, 0))
  have hr1 : Rd (w.alloc (.cells #[.string op, .int .i64 x, .int .i64 y] 24 (0, 0))) A s := hr.below b1
  have B1 := Aside0.mk b1
  have hmx := hr.max
  have HST := Aside0.mk (ref_sorted A c s x _ hr1 hc (by omega))
  have HIN := Aside0.mk (fun k (h : cntLe s x k) => cnt_ins hs h)
  clear hr hr1 hc hl b1
  go_enter Tryz.func29, Tryz.ntmps29
  go_wp2_with (first | (go_at_call 30; refine (HST.out).mono ?_; rintro e w2 ⟨v2, k, rfl, hk, ho, hb⟩; rw [HIN.out k hk] at ho; have HO := Aside0.mk (ho.lower B1.out.size); have B2 := Aside0.mk (btrans B1.out hb); clear ho hb hk))
  go_ret2
  exact ⟨_, rfl, HO.out, B2.out⟩
theorem one_least5 (n : Int) (A : Option Addr) (c : Nat) (s : List Int) (op : ByteArray) (x y t : Int) (w : World) (hr : Rd w A s) (hc : s.length ≤ c) (hl : s.length ≤ 1000) (q1 : (op.toList == [112, 117, 116]) = false) : OneAt 5 n A c s op x y t w (takenR s 0).1 (takenR s 0).2 := by
  unfold OneAt
  have b1 := al1w w (.cells #[.string op, .int .i64 x, .int .i64 y] 24 (0, 0))
  have hr1 : Rd (w.alloc (.cells #[.string op, .int .i64 x, .int .i64 y] 24 (0, 0))) A s := hr.below b1
  have B1 := Aside0.mk b1
  have hmx := hr.max
  have HTK := Aside0.mk (ref_taken A c s 0 _ hr1 hc (by omega) (fun hne => ⟨by omega, by have := List.length_pos_iff.2 hne; omega⟩))
  clear hr hr1 hc hl b1
  go_enter Tryz.func29, Tryz.ntmps29
  go_wp2_with (first | (go_at_call 42; refine (HTK.out).mono ?_; rintro e w2 ⟨v2, rfl, ho, hb⟩; have HO := Aside0.mk (ho.lower B1.out.size); have B2 := Aside0.mk (btrans B1.out hb); clear ho hb))
  go_ret2
  exact ⟨_, rfl, HO.out, B2.out⟩
theorem one_put6 (n : Int) (A : Option Addr) (c : Nat) (s : List Int) (op : ByteArray) (x y t : Int) (w : World) (hr : Rd w A s) (hc : s.length ≤ c) (hl : s.length ≤ 1000) (q1 : (op.toList == [112, 117, 116]) = true) (hs : s.Pairwise (· ≤ ·)) : OneAt 6 n A c s op x y t w 0 (insL s x) := by
  unfold OneAt
  have b1 := al1w w (.cells #[.string op, .int .i64 x, .int .i64 y] 24 (0, 0))
  have hr1 : Rd (w.alloc (.cells #[.string op, .int .i64 x, .int .i64 y] 24 (0, 0))) A s := hr.below b1
  have B1 := Aside0.mk b1
  have hmx := hr.max
  have HST := Aside0.mk (ref_sorted A c s x _ hr1 hc (by omega))
  have HIN := Aside0.mk (fun k (h : cntLe s x k) => cnt_ins hs h)
  clear hr hr1 hc hl b1
  go_enter Tryz.func29, Tryz.ntmps29
  go_wp2_with (first | (go_at_call 30; refine (HST.out).mono ?_; rintro e w2 ⟨v2, k, rfl, hk, ho, hb⟩; rw [HIN.out k hk] at ho; have HO := Aside0.mk (ho.lower B1.out.size); have B2 := Aside0.mk (btrans B1.out hb); clear ho hb hk))
  go_ret2
  exact ⟨_, rfl, HO.out, B2.out⟩
theorem one_least6 (n : Int) (A : Option Addr) (c : Nat) (s : List Int) (op : ByteArray) (x y t : Int) (w : World) (hr : Rd w A s) (hc : s.length ≤ c) (hl : s.length ≤ 1000) (q1 : (op.toList == [112, 117, 116]) = false) : OneAt 6 n A c s op x y t w (takenR s 0).1 (takenR s 0).2 := by
  unfold OneAt
  have b1 := al1w w (.cells #[.string op, .int .i64 x, .int .i64 y] 24 (0, 0))
  have hr1 : Rd (w.alloc (.cells #[.string op, .int .i64 x, .int .i64 y] 24 (0, 0))) A s := hr.below b1
  have B1 := Aside0.mk b1
  have hmx := hr.max
  have HTK := Aside0.mk (ref_taken A c s 0 _ hr1 hc (by omega) (fun hne => ⟨by omega, by have := List.length_pos_iff.2 hne; omega⟩))
  clear hr hr1 hc hl b1
  go_enter Tryz.func29, Tryz.ntmps29
  go_wp2_with (first | (go_at_call 42; refine (HTK.out).mono ?_; rintro e w2 ⟨v2, rfl, ho, hb⟩; have HO := Aside0.mk (ho.lower B1.out.size); have B2 := Aside0.mk (btrans B1.out hb); clear ho hb))
  go_ret2
  exact ⟨_, rfl, HO.out, B2.out⟩
theorem one_full3 (n : Int) (A : Option Addr) (c : Nat) (s : List Int) (op : ByteArray) (x y t : Int) (w : World) (hr : Rd w A s) (hc : s.length ≤ c) (hl : s.length ≤ 1000) (q1 : (op.toList == [112, 117, 115, 104]) = false) (q2 : (op.toList == [101, 110, 113]) = true) (hn : n ≤ (s.length : Int)) : OneAt 3 n A c s op x y t w (-2) s := by
  unfold OneAt
  have b1 := al1w w (.cells #[.string op, .int .i64 x, .int .i64 y] 24 (0, 0))
  have hr1 : Rd (w.alloc (.cells #[.string op, .int .i64 x, .int .i64 y] 24 (0, 0))) A s := hr.below b1
  have B1 := Aside0.mk b1
  have hmx := hr.max
  have HCL := Aside0.mk (ref_clone A c s _ hr1 (by omega))
  clear hr hr1 hc hl b1
  go_enter Tryz.func29, Tryz.ntmps29
  go_wp2_with (first | (go_at_call 41; refine (HCL.out).mono ?_; rintro e w2 ⟨v2, rfl, ho, hb⟩; have HO := Aside0.mk (ho.lower B1.out.size); have B2 := Aside0.mk (btrans B1.out hb); clear ho hb))
  go_ret2
  exact ⟨_, rfl, HO.out, B2.out⟩
def T11 : Bool × List (List Nat × List Nat) := (true, [([], []), ([0], [0]), ([], []), ([2], [2]), ([3], [3]), ([1, 4, 1], [1, 4]), ([5, 5, 0, 1, 2, 3, 4, 5], [5]), ([6, 0, 1, 2, 3, 4, 5, 6], [])])
def B11 : List Nat := [0, 1, 0, 4, 12, 31, 63, 127]
theorem tab11 : rtab .any (opsOf Tryz.f29 11) = T11 := by kernel_rfl
theorem bits11 : waitsOk T11.2 B11 = true := by kernel_rfl
theorem one_push (r : Int) (hr4 : r = 1 ∨ r = 2 ∨ r = 3 ∨ r = 4) (n : Int) (A : Option Addr) (c : Nat) (s : List Int) (op : ByteArray) (x y t : Int) (w : World) (hr : Rd w A s) (hc : s.length ≤ c) (hl : s.length ≤ 1000) (q : (op.toList == [112, 117, 115, 104]) = true ∨ ((op.toList == [112, 117, 115, 104]) = false ∧ (op.toList == [101, 110, 113]) = true)) (hn : r = 3 → (s.length : Int) < n) : OneAt r n A c s op x y t w 0 (s ++ [x]) := by
  unfold OneAt
  have b1 := al1w w (.cells #[.string op, .int .i64 x, .int .i64 y] 24 (0, 0))
  have hr1 : Rd (w.alloc (.cells #[.string op, .int .i64 x, .int .i64 y] 24 (0, 0))) A s := hr.below b1
  have B1 := Aside0.mk b1
  have hmx := hr.max
  have HCL := Aside0.mk (fun W (h : Rd W A s) => ref_clone A c s W h (by omega))
  have HR := Aside0.mk hr
  have n1 := heap_alloc_new w (.cells #[.string op, .int .i64 x, .int .i64 y] 24 (0, 0))
  have BK0 := Aside0.mk n1
  obtain ⟨y332, hy332⟩ : ∃ y_ : List Int, y_ = [x] := ⟨_, rfl⟩
  obtain ⟨y335, hy335⟩ : ∃ y_ : List Int, y_ = s ++ y332 := ⟨_, rfl⟩
  have LMc22 := Aside0.mk (show s.length + y332.length < 17592186044416 from by rw [hy332]; simp only [List.length_cons, List.length_nil]; omega)
  have Ny332 := Aside0.mk hy332
  have Ny335 := Aside0.mk hy335
  rw [show s ++ [x] = y335 from by rw [hy335, hy332]]
  clear hr hr1 hc hl b1 n1 hy332 hy335
  rcases hr4 with rfl | rfl | rfl | rfl <;> rcases q with q1 | ⟨q1, q2⟩ <;> (first | (have hn2 := hn rfl; clear hn) | clear hn)
  all_goals
    go_enter Tryz.func29, Tryz.ntmps29
    go_wp2
    generalize (w.alloc (.cells #[.string op, .int .i64 x, .int .i64 y] 24 (0, 0))) = W2 at *
    have BK := Aside0.mk (blk_drew BK0.out)
    have HB := Aside0.mk (below_drew1 B1.out)
    clear B1 BK0
    refine start_ (n := 8) (S := fun w' => w'.cell? ⟨w.heap.size, 0, none⟩ = some (.string op) ∧ w'.cell? ⟨w.heap.size, 1, none⟩ = some (.int .i64 x) ∧ w'.cell? ⟨w.heap.size, 2, none⟩ = some (.int .i64 y)) (ds := []) #[false, false, false, false, false, false, false, false] (by kernel_rfl) rfl rfl ⟨(blk_cell BK.out 0).trans rfl, (blk_cell BK.out 1).trans rfl, (blk_cell BK.out 2).trans rfl⟩ (fun hHeld => ?_); refine with_tabW tab11 bits11 (fun HT_ HW_ => ?_)
    generalize W2.drew = w23 at BK HB hHeld ⊢
    refine pure_ (i := 0) (N := some 34) (v := ?_) (a' := ?_) #[true, false, false, false, false, false, false, false] rfl rfl (any_of HT_.out (by kernel_rfl)) (fun _ _ _ h => h) (Or.inl ⟨by rfl, ?_⟩) ?_ ?_
    rotate_left
    · intro w'
      go_simp
      with_reducible rfl
    rotate_left
    · simp only [Act.put, List.setIfInBounds_toArray, List.set_cons_zero, List.set_cons_succ, i64_w, i32_w]
      rfl
    refine pure_ (i := 2) (N := some 36) (v := ?_) (a' := ?_) #[true, false, true, false, false, false, false, false] rfl rfl (any_of HT_.out (by kernel_rfl)) (fun _ _ _ h => h) (Or.inl ⟨by rfl, ?_⟩) ?_ ?_
    rotate_left
    · intro w'
      go_simp
      with_reducible rfl
    rotate_left
    · simp only [Act.put, List.setIfInBounds_toArray, List.set_cons_zero, List.set_cons_succ, i64_w, i32_w]
      rfl
    refine take_ (i := 3) (N := some 37) (v := ?_) (a' := ?_) #[true, false, true, true, false, false, false, false] rfl rfl (take_ofW HT_.out HW_.out (by kernel_rfl)) (fun _ _ _ h => h) (Or.inl ⟨by rfl, ?_⟩) hHeld ?_ ?_
    rotate_left
    · rintro w' ⟨s0, s1, s2⟩
      go_simp
      with_reducible rfl
    rotate_left
    · simp only [Act.put, List.setIfInBounds_toArray, List.set_cons_zero, List.set_cons_succ, i64_w, i32_w]
      rfl
    refine join_ (σ := Value × Value) 3 #[true, true, true, true, true, false, false, false] (fun s_ => [(35, s_.1), (38, s_.2)]) (fun s_ w' => (w'.cell? ⟨w.heap.size, 0, none⟩ = some (.string op) ∧ w'.cell? ⟨w.heap.size, 1, none⟩ = some (.int .i64 x) ∧ w'.cell? ⟨w.heap.size, 2, none⟩ = some (.int .i64 y)) ∧ (Kd.R (Kd.int .i64) 3 w' w.heap.size (fun k_ => some k_ ≠ (s_.2 : Value).ownBlock) s_.1 s) ∧ (Kd.R (Kd.int .i64) 3 w' w.heap.size (fun k_ => some k_ ≠ (s_.1 : Value).ownBlock) s_.2 y332) ∧ (w'.heap[w.heap.size]? = some (.cells #[.string op, .int .i64 x, .int .i64 y] 24 (0, 0))) ∧ (Below w.heap.size w w')) ?_ ?_
    rotate_left
    · intro hCont
      refine two_ (i := 1) (j := 4) (Ni := some 35) (Nj := some 38) #[true, true, true, true, false, false, false, false] #[true, false, true, true, true, false, false, false] rfl rfl rfl rfl (two_of HT_.out (by kernel_rfl)) (by decide) (by decide) (fun K hK => ?_) (fun K hK => ?_)
      · skip
        refine goes_ Tryz.func41 (by kernel_rfl) rfl #[.slice A s.length c] (by rfl) rfl rfl (by (try simp only [List.map_toArray, List.map_cons, List.map_nil]); first | done | rfl | (simp only [List.length_drop, List.length_take]; rfl)) ?_
        refine (HCL.out _ ?side1).mono ?_
        (case side1 => repeat (first | exact (Kd.C_below HR.out HB.out) | (with_reducible refine Kd.C_alloc ?_ _) | (with_reducible refine Kd.C_drewN ?_ _) | (with_reducible refine Kd.C_drew ?_)))
        rintro e w24 ⟨v330, rfl, ho0_, hb⟩; have ho0 := ho0_.R; clear ho0_
        refine ⟨_, rfl, ?_⟩
        have n0_ := Aside0.mk (Kd.R_lower ho0 (below_size (by repeat (first | (with_reducible first | exact HB.out | apply below_alloc | apply pw_below_drewN | apply below_drew1 | refine below_set ?_ GE.out) | exact HB.out))))
        have n1_ := Aside0.mk (blk_below (g := w.heap.size) (o := .cells #[.string op, .int .i64 x, .int .i64 y] 24 (0, 0)) (by (with_reducible repeat (first | refine blk_drewN ?_ _ | refine blk_drew ?_ | refine blk_alloc ?_ _)); exact BK.out) hb)
        have n2_ := Aside0.mk (below_step (by repeat (first | (with_reducible first | exact HB.out | apply below_alloc | apply pw_below_drewN | apply below_drew1 | refine below_set ?_ GE.out) | exact HB.out)) hb)
        clear BK
        clear HB
        have HO331 := n0_
        have BK := n1_
        have HB := n2_
        clear n0_ n1_ n2_
        (try clear hb)
        (try clear hb2)
        (try clear hk)
        (try clear hi)
        (try clear ho0)
        refine hK.out _ _ ⟨(blk_cell BK.out 0).trans rfl, (blk_cell BK.out 1).trans rfl, (blk_cell BK.out 2).trans rfl⟩ (fun hHeld => ?_)
        clear hK K
        refine norm_ (a' := ?_) ?_ ?_
        rotate_left
        · show Act.put _ (some 35) _ = _
          simp only [Act.put, List.setIfInBounds_toArray, List.set_cons_zero, List.set_cons_succ, i64_w, i32_w]
          rfl
        refine one_ (i := 4) (N := some 38) #[true, true, true, true, true, false, false, false] rfl rfl (one_of HT_.out (by kernel_rfl)) (by decide) (fun K hK => ?_)
        refine Kd.R_lit_step (Kd.int .i64) _ 3 ?hg (N := 38) ?hd (xs := ([x] : List Int)) (inner := [.int .i64 x]) (ok := fun _ => True) (okp := fun _ => True) ?hr ?hp (fun _ hk => hk) trivial (Below.refl _ _) (Nat.le_refl _) (by simp) ?_; (case hd => rfl); (case hg => rfl); (case hr => first | (go_simp; done) | (go_simp; rfl)); (case hp => exact (Reps.one (show Kd.M (Kd.int .i64) _ _ _ x [.int .i64 x] from rfl) (Reps.none _ _)))
        intro v333 w25 ho26 hb hg_ hnew_
        clear hg_ hnew_
        (first | rw [← Ny332.out] at ho26 | (simp only [Int.reduceToNat] at ho26; rw [← Ny332.out] at ho26))
        have n0_ := Aside0.mk (Kd.R_elder' (by (with_reducible repeat (first | apply Kd.R_alloc | apply Kd.R_drewN | apply Kd.R_drew)); exact HO331.out) (Kd.R_base ho26) hb)
        have n1_ := Aside0.mk (Kd.R_lower (Kd.R_new' ho26 (Kd.R_lt (by (with_reducible repeat (first | apply Kd.R_alloc | apply Kd.R_drewN | apply Kd.R_drew)); exact HO331.out))) (below_size (by repeat (first | (with_reducible first | exact HB.out | apply below_alloc | apply pw_below_drewN | apply below_drew1 | refine below_set ?_ GE.out) | exact HB.out))))
        have n2_ := Aside0.mk (blk_below (g := w.heap.size) (o := .cells #[.string op, .int .i64 x, .int .i64 y] 24 (0, 0)) (by (with_reducible repeat (first | refine blk_drewN ?_ _ | refine blk_drew ?_ | refine blk_alloc ?_ _)); exact BK.out) hb)
        have n3_ := Aside0.mk (below_step (by repeat (first | (with_reducible first | exact HB.out | apply below_alloc | apply pw_below_drewN | apply below_drew1 | refine below_set ?_ GE.out) | exact HB.out)) hb)
        clear HO331
        clear BK
        clear HB
        have HO331 := n0_
        have HO334 := n1_
        have BK := n2_
        have HB := n3_
        clear n0_ n1_ n2_ n3_
        clear hb ho26
        refine hK.out _ _ ⟨(blk_cell BK.out 0).trans rfl, (blk_cell BK.out 1).trans rfl, (blk_cell BK.out 2).trans rfl⟩ (fun hHeld => ?_)
        clear hK K
        refine norm_ (a' := ?_) ?_ ?_
        rotate_left
        · show Act.put _ (some 38) _ = _
          simp only [Act.put, List.setIfInBounds_toArray, List.set_cons_zero, List.set_cons_succ, i64_w, i32_w]
          rfl
        exact norm_ (by simp only [putAll, Act.put, List.setIfInBounds_toArray, List.set_cons_zero, List.set_cons_succ]) (hCont (v330, v333) _ ⟨hHeld, (by (with_reducible repeat (first | apply Kd.R_alloc | apply Kd.R_drewN | apply Kd.R_drew)); exact Kd.R_mono HO331.out (fun _ hk => hk.2)), (by (with_reducible repeat (first | apply Kd.R_alloc | apply Kd.R_drewN | apply Kd.R_drew)); exact Kd.R_mono HO334.out (fun _ hk => hk.2)), (by (with_reducible repeat (first | refine blk_drewN ?_ _ | refine blk_drew ?_ | refine blk_alloc ?_ _)); exact BK.out), (by repeat (first | (with_reducible first | exact HB.out | apply below_alloc | apply pw_below_drewN | apply below_drew1 | refine below_set ?_ GE.out) | exact HB.out))⟩)
      · skip
        refine Kd.R_lit_step (Kd.int .i64) _ 3 ?hg (N := 38) ?hd (xs := ([x] : List Int)) (inner := [.int .i64 x]) (ok := fun _ => True) (okp := fun _ => True) ?hr ?hp (fun _ hk => hk) trivial (Below.refl _ _) (Nat.le_refl _) (by simp) ?_; (case hd => rfl); (case hg => rfl); (case hr => first | (go_simp; done) | (go_simp; rfl)); (case hp => exact (Reps.one (show Kd.M (Kd.int .i64) _ _ _ x [.int .i64 x] from rfl) (Reps.none _ _)))
        intro v333 w24 ho25 hb hg_ hnew_
        clear hg_ hnew_
        (first | rw [← Ny332.out] at ho25 | (simp only [Int.reduceToNat] at ho25; rw [← Ny332.out] at ho25))
        have n0_ := Aside0.mk (Kd.R_lower ho25 (below_size (by repeat (first | (with_reducible first | exact HB.out | apply below_alloc | apply pw_below_drewN | apply below_drew1 | refine below_set ?_ GE.out) | exact HB.out))))
        have n1_ := Aside0.mk (blk_below (g := w.heap.size) (o := .cells #[.string op, .int .i64 x, .int .i64 y] 24 (0, 0)) (by (with_reducible repeat (first | refine blk_drewN ?_ _ | refine blk_drew ?_ | refine blk_alloc ?_ _)); exact BK.out) hb)
        have n2_ := Aside0.mk (below_step (by repeat (first | (with_reducible first | exact HB.out | apply below_alloc | apply pw_below_drewN | apply below_drew1 | refine below_set ?_ GE.out) | exact HB.out)) hb)
        clear BK
        clear HB
        have HO334 := n0_
        have BK := n1_
        have HB := n2_
        clear n0_ n1_ n2_
        clear hb ho25
        refine hK.out _ _ ⟨(blk_cell BK.out 0).trans rfl, (blk_cell BK.out 1).trans rfl, (blk_cell BK.out 2).trans rfl⟩ (fun hHeld => ?_)
        clear hK K
        refine norm_ (a' := ?_) ?_ ?_
        rotate_left
        · show Act.put _ (some 38) _ = _
          simp only [Act.put, List.setIfInBounds_toArray, List.set_cons_zero, List.set_cons_succ, i64_w, i32_w]
          rfl
        refine one_ (i := 1) (N := some 35) #[true, true, true, true, true, false, false, false] rfl rfl (one_of HT_.out (by kernel_rfl)) (by decide) (fun K hK => ?_)
        refine goes_ Tryz.func41 (by kernel_rfl) rfl #[.slice A s.length c] (by rfl) rfl rfl (by (try simp only [List.map_toArray, List.map_cons, List.map_nil]); first | done | rfl | (simp only [List.length_drop, List.length_take]; rfl)) ?_
        refine (HCL.out _ ?side1).mono ?_
        (case side1 => repeat (first | exact (Kd.C_below HR.out HB.out) | (with_reducible refine Kd.C_alloc ?_ _) | (with_reducible refine Kd.C_drewN ?_ _) | (with_reducible refine Kd.C_drew ?_)))
        rintro e w26 ⟨v330, rfl, ho0_, hb⟩; have ho0 := ho0_.R; clear ho0_
        refine ⟨_, rfl, ?_⟩
        have n0_ := Aside0.mk (Kd.R_elder' (by (with_reducible repeat (first | apply Kd.R_alloc | apply Kd.R_drewN | apply Kd.R_drew)); exact HO334.out) (Kd.R_base ho0) hb)
        have n1_ := Aside0.mk (Kd.R_lower (Kd.R_new' ho0 (Kd.R_lt (by (with_reducible repeat (first | apply Kd.R_alloc | apply Kd.R_drewN | apply Kd.R_drew)); exact HO334.out))) (below_size (by repeat (first | (with_reducible first | exact HB.out | apply below_alloc | apply pw_below_drewN | apply below_drew1 | refine below_set ?_ GE.out) | exact HB.out))))
        have n2_ := Aside0.mk (blk_below (g := w.heap.size) (o := .cells #[.string op, .int .i64 x, .int .i64 y] 24 (0, 0)) (by (with_reducible repeat (first | refine blk_drewN ?_ _ | refine blk_drew ?_ | refine blk_alloc ?_ _)); exact BK.out) hb)
        have n3_ := Aside0.mk (below_step (by repeat (first | (with_reducible first | exact HB.out | apply below_alloc | apply pw_below_drewN | apply below_drew1 | refine below_set ?_ GE.out) | exact HB.out)) hb)
        clear HO334
        clear BK
        clear HB
        have HO334 := n0_
        have HO331 := n1_
        have BK := n2_
        have HB := n3_
        clear n0_ n1_ n2_ n3_
        (try clear hb)
        (try clear hb2)
        (try clear hk)
        (try clear hi)
        (try clear ho0)
        refine hK.out _ _ ⟨(blk_cell BK.out 0).trans rfl, (blk_cell BK.out 1).trans rfl, (blk_cell BK.out 2).trans rfl⟩ (fun hHeld => ?_)
        clear hK K
        refine norm_ (a' := ?_) ?_ ?_
        rotate_left
        · show Act.put _ (some 35) _ = _
          simp only [Act.put, List.setIfInBounds_toArray, List.set_cons_zero, List.set_cons_succ, i64_w, i32_w]
          rfl
        exact norm_ (by simp only [putAll, Act.put, List.setIfInBounds_toArray, List.set_cons_zero, List.set_cons_succ]) (hCont (v330, v333) _ ⟨hHeld, (by (with_reducible repeat (first | apply Kd.R_alloc | apply Kd.R_drewN | apply Kd.R_drew)); exact Kd.R_mono HO331.out (fun _ hk => hk.2)), (by (with_reducible repeat (first | apply Kd.R_alloc | apply Kd.R_drewN | apply Kd.R_drew)); exact Kd.R_mono HO334.out (fun _ hk => hk.2)), (by (with_reducible repeat (first | refine blk_drewN ?_ _ | refine blk_drew ?_ | refine blk_alloc ?_ _)); exact BK.out), (by repeat (first | (with_reducible first | exact HB.out | apply below_alloc | apply pw_below_drewN | apply below_drew1 | refine below_set ?_ GE.out) | exact HB.out))⟩)
    rintro ⟨v330, v333⟩ w27 ⟨hS_, h0_, h1_, h2_, h3_⟩
    have n0_ : Aside0 (Kd.R (Kd.int .i64) 3 w27 w.heap.size (fun k_ => some k_ ≠ (v333 : Value).ownBlock) v330 s) := ⟨h0_⟩
    have n1_ : Aside0 (Kd.R (Kd.int .i64) 3 w27 w.heap.size (fun k_ => some k_ ≠ (v330 : Value).ownBlock) v333 y332) := ⟨h1_⟩
    have n2_ : Aside0 (w27.heap[w.heap.size]? = some (.cells #[.string op, .int .i64 x, .int .i64 y] 24 (0, 0))) := ⟨h2_⟩
    have n3_ : Aside0 (Below w.heap.size w w27) := ⟨h3_⟩
    clear BK
    clear HB
    clear h0_ h1_ h2_ h3_
    have HO331 := n0_
    have HO334 := n1_
    have BK := n2_
    have HB := n3_
    clear n0_ n1_ n2_ n3_
    have hHeld : w27.cell? ⟨w.heap.size, 0, none⟩ = some (.string op) ∧ w27.cell? ⟨w.heap.size, 1, none⟩ = some (.int .i64 x) ∧ w27.cell? ⟨w.heap.size, 2, none⟩ = some (.int .i64 y) := hS_
    obtain ⟨Ao29, co29, eo29⟩ := Kd.R_slice HO334.out
    (first | subst eo29 | (injection eo29 with f1_ f2_ f3_; have f4_ := f1_.symm; have f5_ := f3_.symm; clear f1_ f2_ f3_; subst f4_; subst f5_))
    refine norm_ (a' := ?_) ?_ ?_
    rotate_left
    · simp only [putAll, Act.put, List.setIfInBounds_toArray, List.set_cons_zero, List.set_cons_succ]
      rfl
    refine one_ (i := 5) (N := some 39) #[true, true, true, true, true, true, false, false] rfl rfl (one_of HT_.out (by kernel_rfl)) (by decide) (fun K hK => ?_)
    refine Kd.R_append_rows_step (Kd.int .i64) (w0 := w) w.heap.size (by rfl) (.tmp 35) (.tmp 38) 22 3 (.int .i64 0) 8 rfl Tryz.underlying22 info_int rfl (by decide) (by omega) v330 s y332 _ _ _ (fun k_ => some k_ ≠ (.slice Ao29 y332.length co29 : Value).ownBlock) (fun _ => False) rfl rfl ?aO ?aR (fun _ _ h => h) (fun _ h => h.elim) ?aF ?aB ?aS ?aL ?_
    (case aR => repeat (first | exact (Kd.R_reads' HO334.out).2.2 | (with_reducible refine Kd.C_alloc ?_ _) | (with_reducible refine Kd.C_drewN ?_ _) | (with_reducible refine Kd.C_drew ?_)))
    (case aB => exact (by repeat (first | (with_reducible first | exact HB.out | apply below_alloc | apply pw_below_drewN | apply below_drew1 | refine below_set ?_ GE.out) | exact HB.out)))
    (case aF => exact (fun k_ hk => Kd.fresh' (Kd.R_lt (by (with_reducible repeat (first | apply Kd.R_alloc | apply Kd.R_drewN | apply Kd.R_drew)); exact HO334.out)) k_ hk))
    (case aO => exact (by (with_reducible repeat (first | apply Kd.R_alloc | apply Kd.R_drewN | apply Kd.R_drew)); exact HO331.out))
    (case aS => exact (below_size (by repeat (first | (with_reducible first | exact HB.out | apply below_alloc | apply pw_below_drewN | apply below_drew1 | refine below_set ?_ GE.out) | exact HB.out))))
    (case aL => have := LMc22.out; omega)
    intro v336 w28 ho hb hg hat
    rw [← Ny335.out] at ho
    have n0_ := Aside0.mk (blk_grown (g := w.heap.size) (o := .cells #[.string op, .int .i64 x, .int .i64 y] 24 (0, 0)) (by (with_reducible repeat (first | refine blk_drewN ?_ _ | refine blk_drew ?_ | refine blk_alloc ?_ _)); exact BK.out) hg (Kd.R_ne HO331.out BK.out (by decide)))
    have n1_ := Aside0.mk (Kd.R_after (ok := (fun _ => True)) (by (with_reducible repeat (first | apply Kd.R_alloc | apply Kd.R_drewN | apply Kd.R_drew)); exact Kd.R_mono HO334.out (fun _ hk => ⟨trivial, hk⟩)) hg hat)
    have n2_ := Aside0.mk (hb)
    have n3_ := Aside0.mk (ho)
    clear BK
    clear HO334
    clear HB
    clear HO331
    have BK := n0_
    have HO334 := n1_
    have HB := n2_
    have HO337 := n3_
    clear n0_ n1_ n2_ n3_
    clear ho hb hg hat
    refine hK.out _ _ ⟨(blk_cell BK.out 0).trans rfl, (blk_cell BK.out 1).trans rfl, (blk_cell BK.out 2).trans rfl⟩ (fun hHeld => ?_)
    clear hK K
    refine norm_ (a' := ?_) ?_ ?_
    rotate_left
    · show Act.put _ (some 39) _ = _
      simp only [Act.put, List.setIfInBounds_toArray, List.set_cons_zero, List.set_cons_succ, i64_w, i32_w]
      rfl
    refine pure_ (i := 6) (N := some 10) (v := ?_) (a' := ?_) #[true, true, true, true, true, true, true, false] rfl rfl (any_of HT_.out (by kernel_rfl)) (fun _ _ _ h => h) (Or.inl ⟨by rfl, ?_⟩) ?_ ?_
    rotate_left
    · intro w'
      go_simp
      with_reducible rfl
    rotate_left
    · simp only [Act.put, List.setIfInBounds_toArray, List.set_cons_zero, List.set_cons_succ, i64_w, i32_w]
      rfl
    refine pure_ (i := 7) (N := some 11) (v := ?_) (a' := ?_) #[true, true, true, true, true, true, true, true] rfl rfl (any_of HT_.out (by kernel_rfl)) (fun _ _ _ h => h) (Or.inl ⟨by rfl, ?_⟩) ?_ ?_
    rotate_left
    · intro w'
      go_simp
      with_reducible rfl
    rotate_left
    · simp only [Act.put, List.setIfInBounds_toArray, List.set_cons_zero, List.set_cons_succ, i64_w, i32_w]
      rfl
    refine done_ (done_of HT_.out (by kernel_rfl)) ?_
    try go_wp2
    go_ret2
    exact ⟨_, rfl, Own.of_R (Kd.R_mono HO337.out (fun _ hk => trivial)), HB.out⟩
theorem one_write (n : Int) (A : Option Addr) (c : Nat) (s : List Int) (op : ByteArray) (x y t : Int) (w : World) (hr : Rd w A s) (hc : s.length ≤ c) (hl : s.length ≤ 1000) (q1 : (op.toList == [119, 114, 105, 116, 101]) = true) : OneAt 10 n A c s op x y t w 0 [x] := by
  unfold OneAt
  have b1 := al1w w (.cells #[.string op, .int .i64 x, .int .i64 y] 24 (0, 0))
  have hr1 : Rd (w.alloc (.cells #[.string op, .int .i64 x, .int .i64 y] 24 (0, 0))) A s := hr.below b1
  have B1 := Aside0.mk b1
  have hmx := hr.max
  clear hr hr1 hc hl b1
  go_enter Tryz.func29, Tryz.ntmps29
  go_wp2_with (first | ((with_reducible refine gate_dst (N := 82) rfl ?_); refine Kd.R_lit (Kd.int .i64) _ 3 ?hg (N := 82) ?hd (xs := ([x] : List Int)) (inner := [.int .i64 (x)]) (ok := fun _ => True) (okp := fun _ => True) ?hr ?hp (fun _ hk => hk) trivial (Below.refl _ _) (Nat.le_refl _) (by simp) ?_; (case hd => rfl); (case hg => rfl); (case hr => first | (go_simp; done) | (go_simp; rfl)); (case hp => exact (Reps.one (show Kd.M (Kd.int .i64) _ _ _ (x) [.int .i64 (x)] from rfl) (Reps.none _ _))); intro vl wl ho_ hb_ hg_ hnew_; clear hg_ hnew_; have HO := Aside0.mk (Own.of_R (Kd.R_lower ho_ (show w.heap.size ≤ _ from B1.out.size))); have B2 := Aside0.mk (B1.out.trans (hb_.mono B1.out.size)); clear hb_ ho_))
  go_ret2
  exact ⟨_, rfl, HO.out, B2.out⟩
theorem one_read (n : Int) (A : Option Addr) (c : Nat) (s : List Int) (op : ByteArray) (x y t : Int) (w : World) (hr : Rd w A s) (hc : s.length ≤ c) (hl : s.length ≤ 1000) (q1 : (op.toList == [119, 114, 105, 116, 101]) = false) (h1 : 0 < s.length) (hz : 0 ≤ s.getD 0 0 ∧ s.getD 0 0 ≤ 900) : OneAt 10 n A c s op x y t w (1001 * s.getD 0 0 + 1) s := by
  unfold OneAt
  have b1 := al1w w (.cells #[.string op, .int .i64 x, .int .i64 y] 24 (0, 0))
  have hr1 : Rd (w.alloc (.cells #[.string op, .int .i64 x, .int .i64 y] 24 (0, 0))) A s := hr.below b1
  have B1 := Aside0.mk b1
  have hmx := hr.max
  have HCL := Aside0.mk (fun W (h : Rd W A s) => ref_clone A c s W h (by omega))
  have n1 := heap_alloc_new w (.cells #[.string op, .int .i64 x, .int .i64 y] 24 (0, 0))
  have k1 := Go.Lib.cell_of_heap n1 0
  have k2 := Go.Lib.cell_of_heap n1 1
  simp only [List.getElem?_toArray, List.getElem?_cons_succ, List.getElem?_cons_zero] at k1 k2
  obtain ⟨ad, rfl, c0⟩ := hr1.at 0 (by omega)
  rw [show ad.add 0 = ad from by simp [Addr.add]] at c0
  generalize s.getD 0 0 = z at *
  have hl0 : (0 : Int) < (s.length : Int) := by omega
  have hl0n : 0 < s.length := by omega
  skip
  have w1 : IntKind.i64.wrap (1001 * z) = 1001 * z := IntWalk.i64_in _ (by omega)
  have w2 : IntKind.i64.wrap (1001 * z + 1) = 1001 * z + 1 := IntWalk.i64_in _ (by omega)
  have HR1 := Aside0.mk hr1
  clear hr hr1 hc hl b1 n1
  go_enter Tryz.func29, Tryz.ntmps29
  go_wp2
  generalize (w.alloc (.cells #[.string op, .int .i64 x, .int .i64 y] 24 (0, 0))) = W2 at *
  have d0 : W2.drew.cell? ad = some (.int .i64 z) := c0
  skip
  go_region_held3 (fun X => X.cell? ad = some (.int .i64 z)) (first | go_keep | exact d0 | exact f0) (first | (go_at_call 41; refine (HCL.out _ (Kd.C_drew HR1.out)).mono ?_; rintro e w2 ⟨v2, rfl, ho, hb⟩; have HO := Aside0.mk (Own.lower ho (show w.heap.size ≤ _ from B1.out.size)); have B2 := Aside0.mk (show Below w.heap.size w w2 from (below_drew1 B1.out).trans (hb.mono B1.out.size)); have f0 := (hb.cell (World.block_lt_of_cell? _ _ d0)).trans d0; clear ho hb))
  all_goals
    go_wp2
    go_ret2
    exact ⟨_, rfl, HO.out, B2.out⟩
theorem one_scan (n : Int) (A : Option Addr) (c : Nat) (s : List Int) (op : ByteArray) (x y t : Int) (w : World) (hr : Rd w A s) (hc : s.length ≤ c) (hl : s.length ≤ 1000) (q1 : (op.toList == [117, 112, 100, 97, 116, 101]) = false) (h1 : 1 < s.length) (hz : 0 ≤ s.getD 0 0 ∧ s.getD 0 0 ≤ 900) (hz1 : 0 ≤ s.getD 1 0 ∧ s.getD 1 0 ≤ 900) : OneAt 11 n A c s op x y t w (1000 * s.getD 0 0 + s.getD 1 0) s := by
  unfold OneAt
  have b1 := al1w w (.cells #[.string op, .int .i64 x, .int .i64 y] 24 (0, 0))
  have hr1 : Rd (w.alloc (.cells #[.string op, .int .i64 x, .int .i64 y] 24 (0, 0))) A s := hr.below b1
  have B1 := Aside0.mk b1
  have hmx := hr.max
  have HCL := Aside0.mk (fun W (h : Rd W A s) => ref_clone A c s W h (by omega))
  have n1 := heap_alloc_new w (.cells #[.string op, .int .i64 x, .int .i64 y] 24 (0, 0))
  have k1 := Go.Lib.cell_of_heap n1 0
  have k2 := Go.Lib.cell_of_heap n1 1
  simp only [List.getElem?_toArray, List.getElem?_cons_succ, List.getElem?_cons_zero] at k1 k2
  obtain ⟨ad, rfl, c0⟩ := hr1.at 0 (by omega)
  rw [show ad.add 0 = ad from by simp [Addr.add]] at c0
  generalize s.getD 0 0 = z at *
  obtain ⟨ad', e', c1⟩ := hr1.at 1 (by omega)
  injection e' with e'
  subst e'
  rw [show ad.add 1 = ⟨ad.block, ad.off + 1, none⟩ from by simp [Addr.add]] at c1
  generalize s.getD 1 0 = z1 at *
  have hl0 : (0 : Int) < (s.length : Int) := by omega
  have hl0n : 0 < s.length := by omega
  have hl1 : (1 : Int) < (s.length : Int) := by omega
  have w1 : IntKind.i64.wrap (1000 * z) = 1000 * z := IntWalk.i64_in _ (by omega)
  have w2 : IntKind.i64.wrap (1000 * z + z1) = 1000 * z + z1 := IntWalk.i64_in _ (by omega)
  have HR1 := Aside0.mk hr1
  clear hr hr1 hc hl b1 n1
  go_enter Tryz.func29, Tryz.ntmps29
  go_wp2
  generalize (w.alloc (.cells #[.string op, .int .i64 x, .int .i64 y] 24 (0, 0))) = W2 at *
  have d0 : W2.drew.cell? ad = some (.int .i64 z) := c0
  have d1 : W2.drew.cell? ⟨ad.block, ad.off + 1, none⟩ = some (.int .i64 z1) := c1
  go_region_held3 (fun X => X.cell? ad = some (.int .i64 z) ∧ X.cell? ⟨ad.block, ad.off + 1, none⟩ = some (.int .i64 z1)) (first | go_keep | exact ⟨d0, d1⟩ | exact ⟨f0, f1⟩) (first | (go_at_call 41; refine (HCL.out _ (Kd.C_drew HR1.out)).mono ?_; rintro e w2 ⟨v2, rfl, ho, hb⟩; have HO := Aside0.mk (Own.lower ho (show w.heap.size ≤ _ from B1.out.size)); have B2 := Aside0.mk (show Below w.heap.size w w2 from (below_drew1 B1.out).trans (hb.mono B1.out.size)); have f0 := (hb.cell (World.block_lt_of_cell? _ _ d0)).trans d0; have f1 := (hb.cell (World.block_lt_of_cell? _ _ d1)).trans d1; clear ho hb))
  all_goals
    go_wp2
    go_ret2
    exact ⟨_, rfl, HO.out, B2.out⟩
theorem one_get14 (n : Int) (A : Option Addr) (c : Nat) (s : List Int) (op : ByteArray) (x y t : Int) (w : World) (hr : Rd w A s) (hc : s.length ≤ c) (hl : s.length ≤ 1000) (q1 : (op.toList == [97, 100, 100]) = false) (h1 : 0 < s.length) : OneAt 14 n A c s op x y t w (s.getD 0 0) s := by
  unfold OneAt
  have b1 := al1w w (.cells #[.string op, .int .i64 x, .int .i64 y] 24 (0, 0))
  have hr1 : Rd (w.alloc (.cells #[.string op, .int .i64 x, .int .i64 y] 24 (0, 0))) A s := hr.below b1
  have B1 := Aside0.mk b1
  have hmx := hr.max
  have HCL := Aside0.mk (fun W (h : Rd W A s) => ref_clone A c s W h (by omega))
  have n1 := heap_alloc_new w (.cells #[.string op, .int .i64 x, .int .i64 y] 24 (0, 0))
  have k1 := Go.Lib.cell_of_heap n1 0
  have k2 := Go.Lib.cell_of_heap n1 1
  simp only [List.getElem?_toArray, List.getElem?_cons_succ, List.getElem?_cons_zero] at k1 k2
  obtain ⟨ad, rfl, c0⟩ := hr1.at 0 (by omega)
  rw [show ad.add 0 = ad from by simp [Addr.add]] at c0
  generalize s.getD 0 0 = z at *
  have hl0 : (0 : Int) < (s.length : Int) := by omega
  have hl0n : 0 < s.length := by omega
  skip
  have HR1 := Aside0.mk hr1
  clear hr hr1 hc hl b1 n1
  go_enter Tryz.func29, Tryz.ntmps29
  go_wp2
  generalize (w.alloc (.cells #[.string op, .int .i64 x, .int .i64 y] 24 (0, 0))) = W2 at *
  have d0 : W2.drew.cell? ad = some (.int .i64 z) := c0
  skip
  go_region_held3 (fun X => X.cell? ad = some (.int .i64 z)) (first | go_keep | exact d0 | exact f0) (first | (go_at_call 41; refine (HCL.out _ (Kd.C_drew HR1.out)).mono ?_; rintro e w2 ⟨v2, rfl, ho, hb⟩; have HO := Aside0.mk (Own.lower ho (show w.heap.size ≤ _ from B1.out.size)); have B2 := Aside0.mk (show Below w.heap.size w w2 from (below_drew1 B1.out).trans (hb.mono B1.out.size)); have f0 := (hb.cell (World.block_lt_of_cell? _ _ d0)).trans d0; clear ho hb))
  all_goals
    go_wp2
    go_ret2
    exact ⟨_, rfl, HO.out, B2.out⟩
theorem one_get16 (n : Int) (A : Option Addr) (c : Nat) (s : List Int) (op : ByteArray) (x y t : Int) (w : World) (hr : Rd w A s) (hc : s.length ≤ c) (hl : s.length ≤ 1000) (q1 : (op.toList == [97, 100, 100]) = false) (h1 : 0 < s.length) : OneAt 16 n A c s op x y t w (s.getD 0 0) s := by
  unfold OneAt
  have b1 := al1w w (.cells #[.string op, .int .i64 x, .int .i64 y] 24 (0, 0))
  have hr1 : Rd (w.alloc (.cells #[.string op, .int .i64 x, .int .i64 y] 24 (0, 0))) A s := hr.below b1
  have B1 := Aside0.mk b1
  have hmx := hr.max
  have HCL := Aside0.mk (fun W (h : Rd W A s) => ref_clone A c s W h (by omega))
  have n1 := heap_alloc_new w (.cells #[.string op, .int .i64 x, .int .i64 y] 24 (0, 0))
  have k1 := Go.Lib.cell_of_heap n1 0
  have k2 := Go.Lib.cell_of_heap n1 1
  simp only [List.getElem?_toArray, List.getElem?_cons_succ, List.getElem?_cons_zero] at k1 k2
  obtain ⟨ad, rfl, c0⟩ := hr1.at 0 (by omega)
  rw [show ad.add 0 = ad from by simp [Addr.add]] at c0
  generalize s.getD 0 0 = z at *
  have hl0 : (0 : Int) < (s.length : Int) := by omega
  have hl0n : 0 < s.length := by omega
  skip
  have HR1 := Aside0.mk hr1
  clear hr hr1 hc hl b1 n1
  go_enter Tryz.func29, Tryz.ntmps29
  go_wp2
  generalize (w.alloc (.cells #[.string op, .int .i64 x, .int .i64 y] 24 (0, 0))) = W2 at *
  have d0 : W2.drew.cell? ad = some (.int .i64 z) := c0
  skip
  go_region_held3 (fun X => X.cell? ad = some (.int .i64 z)) (first | go_keep | exact d0 | exact f0) (first | (go_at_call 41; refine (HCL.out _ (Kd.C_drew HR1.out)).mono ?_; rintro e w2 ⟨v2, rfl, ho, hb⟩; have HO := Aside0.mk (Own.lower ho (show w.heap.size ≤ _ from B1.out.size)); have B2 := Aside0.mk (show Below w.heap.size w w2 from (below_drew1 B1.out).trans (hb.mono B1.out.size)); have f0 := (hb.cell (World.block_lt_of_cell? _ _ d0)).trans d0; clear ho hb))
  all_goals
    go_wp2
    go_ret2
    exact ⟨_, rfl, HO.out, B2.out⟩
theorem one_add14 (n : Int) (A : Option Addr) (c : Nat) (s : List Int) (op : ByteArray) (x y t : Int) (w : World) (hr : Rd w A s) (hc : s.length ≤ c) (hl : s.length ≤ 1000) (q1 : (op.toList == [97, 100, 100]) = true) (h1 : 0 < s.length) (hz : -2000000 ≤ s.getD 0 0 ∧ s.getD 0 0 ≤ 2000000) (hx : -1000 ≤ x ∧ x ≤ 1000) : OneAt 14 n A c s op x y t w 0 [s.getD 0 0 + x] := by
  unfold OneAt
  have b1 := al1w w (.cells #[.string op, .int .i64 x, .int .i64 y] 24 (0, 0))
  have hr1 : Rd (w.alloc (.cells #[.string op, .int .i64 x, .int .i64 y] 24 (0, 0))) A s := hr.below b1
  have B1 := Aside0.mk b1
  have hmx := hr.max
  have n1 := heap_alloc_new w (.cells #[.string op, .int .i64 x, .int .i64 y] 24 (0, 0))
  have k1 := Go.Lib.cell_of_heap n1 0
  have k2 := Go.Lib.cell_of_heap n1 1
  simp only [List.getElem?_toArray, List.getElem?_cons_succ, List.getElem?_cons_zero] at k1 k2
  obtain ⟨ad, rfl, c0⟩ := hr1.at 0 (by omega)
  rw [show ad.add 0 = ad from by simp [Addr.add]] at c0
  generalize s.getD 0 0 = z at *
  have hl0 : (0 : Int) < (s.length : Int) := by omega
  have hl0n : 0 < s.length := by omega
  have w1 : IntKind.i64.wrap (z + x) = z + x := IntWalk.i64_in _ (by omega)
  clear hr hr1 hc hl b1 n1
  go_enter Tryz.func29, Tryz.ntmps29
  go_wp2
  generalize (w.alloc (.cells #[.string op, .int .i64 x, .int .i64 y] 24 (0, 0))) = W2 at *
  have q0 : ∀ d, ({ heap := W2.heap, tape := W2.tape, drawn := d, os := W2.os, output := W2.output } : World).cell? ad = some (.int .i64 z) := fun _ => c0
  have q2 : ∀ d, ({ heap := W2.heap, tape := W2.tape, drawn := d, os := W2.os, output := W2.output } : World).cell? ⟨w.heap.size, 1, none⟩ = some (.int .i64 x) := fun _ => k2
  clear c0 k1 k2
  go_still_tail 6, (by kernel_rfl)
  change wpList _ _ _ _ _ W2.drew
  go_wp2_with (first | ((with_reducible refine gate_dst (N := 138) rfl ?_); refine Kd.R_lit (Kd.int .i64) _ 3 ?hg (N := 138) ?hd (xs := ([z + x] : List Int)) (inner := [.int .i64 (z + x)]) (ok := fun _ => True) (okp := fun _ => True) ?hr ?hp (fun _ hk => hk) trivial (Below.refl _ _) (Nat.le_refl _) (by simp) ?_; (case hd => rfl); (case hg => rfl); (case hr => first | (go_simp; done) | (go_simp; rfl)); (case hp => exact (Reps.one (show Kd.M (Kd.int .i64) _ _ _ (z + x) [.int .i64 (z + x)] from rfl) (Reps.none _ _))); intro vl wl ho_ hb_ hg_ hnew_; clear hg_ hnew_; have HO := Aside0.mk (Own.of_R (Kd.R_lower ho_ (show w.heap.size ≤ _ from B1.out.size))); have B2 := Aside0.mk ((below_drew1 B1.out).trans (hb_.mono B1.out.size)); (first | (have f0 := (hb_.cell (World.block_lt_of_cell? _ _ d0)).trans d0) | skip); clear hb_ ho_))
  go_ret2
  exact ⟨_, rfl, HO.out, B2.out⟩
theorem one_add16 (n : Int) (A : Option Addr) (c : Nat) (s : List Int) (op : ByteArray) (x y t : Int) (w : World) (hr : Rd w A s) (hc : s.length ≤ c) (hl : s.length ≤ 1000) (q1 : (op.toList == [97, 100, 100]) = true) (h1 : 0 < s.length) (hz : -2000000 ≤ s.getD 0 0 ∧ s.getD 0 0 ≤ 2000000) (hx : -1000 ≤ x ∧ x ≤ 1000) : OneAt 16 n A c s op x y t w (s.getD 0 0) [s.getD 0 0 + x] := by
  unfold OneAt
  have b1 := al1w w (.cells #[.string op, .int .i64 x, .int .i64 y] 24 (0, 0))
  have hr1 : Rd (w.alloc (.cells #[.string op, .int .i64 x, .int .i64 y] 24 (0, 0))) A s := hr.below b1
  have B1 := Aside0.mk b1
  have hmx := hr.max
  have n1 := heap_alloc_new w (.cells #[.string op, .int .i64 x, .int .i64 y] 24 (0, 0))
  have k1 := Go.Lib.cell_of_heap n1 0
  have k2 := Go.Lib.cell_of_heap n1 1
  simp only [List.getElem?_toArray, List.getElem?_cons_succ, List.getElem?_cons_zero] at k1 k2
  obtain ⟨ad, rfl, c0⟩ := hr1.at 0 (by omega)
  rw [show ad.add 0 = ad from by simp [Addr.add]] at c0
  generalize s.getD 0 0 = z at *
  have hl0 : (0 : Int) < (s.length : Int) := by omega
  have hl0n : 0 < s.length := by omega
  have w1 : IntKind.i64.wrap (z + x) = z + x := IntWalk.i64_in _ (by omega)
  clear hr hr1 hc hl b1 n1
  go_enter Tryz.func29, Tryz.ntmps29
  go_wp2
  generalize (w.alloc (.cells #[.string op, .int .i64 x, .int .i64 y] 24 (0, 0))) = W2 at *
  have d0 : W2.drew.cell? ad = some (.int .i64 z) := c0
  have d1 : W2.drew.cell? ⟨w.heap.size, 1, none⟩ = some (.int .i64 x) := k2
  go_region_held3 (fun X => X.cell? ad = some (.int .i64 z) ∧ X.cell? ⟨w.heap.size, 1, none⟩ = some (.int .i64 x)) (first | go_keep | exact ⟨d0, d1⟩ | exact ⟨f0, f1⟩) (first | ((with_reducible refine gate_dst (N := 160) rfl ?_); refine Kd.R_lit (Kd.int .i64) _ 3 ?hg (N := 160) ?hd (xs := ([z + x] : List Int)) (inner := [.int .i64 (z + x)]) (ok := fun _ => True) (okp := fun _ => True) ?hr ?hp (fun _ hk => hk) trivial (Below.refl _ _) (Nat.le_refl _) (by simp) ?_; (case hd => rfl); (case hg => rfl); (case hr => first | (go_simp; done) | (go_simp; rfl)); (case hp => exact (Reps.one (show Kd.M (Kd.int .i64) _ _ _ (z + x) [.int .i64 (z + x)] from rfl) (Reps.none _ _))); intro vl wl ho_ hb_ hg_ hnew_; clear hg_ hnew_; have HO := Aside0.mk (Own.of_R (Kd.R_lower ho_ (show w.heap.size ≤ _ from B1.out.size))); have B2 := Aside0.mk ((below_drew1 B1.out).trans (hb_.mono B1.out.size)); (first | (have f0 := (hb_.cell (World.block_lt_of_cell? _ _ d0)).trans d0) | skip); clear hb_ ho_))
  all_goals
    go_wp2
    go_ret2
    exact ⟨_, rfl, Own.drew_ (own_one' W2 w.heap.size (z + x) rfl B1.out.size), below_drew1 (B1.out.alloc B1.out.size _)⟩
theorem own_parts1 {w : World} {base n c : Nat} {A : Option Addr} {s : List Int} (h : Own w base (.slice A n c) s) (hp : 0 < s.length) : ∃ b cur, A = some ⟨b, 0, none⟩ ∧ base ≤ b ∧ w.heap[b]? = some (.cells cur 3 (0, 0)) ∧ cur.toList.take s.length = nums .i64 s := by
  rcases h.parts with ⟨_, e⟩ | ⟨b, cap, cur, e, h1, h2, _, _, _, h6⟩
  · rw [e] at hp; exact absurd hp (by simp)
  · injection e with e1 e2 e3
    exact ⟨b, cur, e1, h1, h2, h6⟩
theorem one_update (n : Int) (A : Option Addr) (c : Nat) (s : List Int) (op : ByteArray) (x y t : Int) (w : World) (hr : Rd w A s) (hc : s.length ≤ c) (hl : s.length ≤ 1000) (q1 : (op.toList == [117, 112, 100, 97, 116, 101]) = true) (ht : 0 ≤ t ∧ t < s.length) : OneAt 11 n A c s op x y t w 0 (s.set t.toNat x) := by
  unfold OneAt
  have b1 := al1w w (.cells #[.string op, .int .i64 x, .int .i64 y] 24 (0, 0))
  have hr1 : Rd (w.alloc (.cells #[.string op, .int .i64 x, .int .i64 y] 24 (0, 0))) A s := hr.below b1
  have B1 := Aside0.mk b1
  have hmx := hr.max
  have HCL := Aside0.mk (ref_clone A c s _ hr1 (by omega))
  have n1 := heap_alloc_new w (.cells #[.string op, .int .i64 x, .int .i64 y] 24 (0, 0))
  have N1 := Aside0.mk n1
  have HT := Aside0.mk ht
  obtain ⟨tn, htn⟩ : ∃ k : Nat, t = (k : Int) := ⟨t.toNat, by omega⟩
  subst htn
  rw [Int.toNat_natCast]
  have htl : tn < s.length := by omega
  have hti : (tn : Int) < (s.length : Int) := by omega
  clear hr hr1 hc hl b1 n1 ht
  go_enter Tryz.func29, Tryz.ntmps29
  go_wp2_with (first | (go_at_call 41; refine (HCL.out).mono ?_; rintro e w2 ⟨v2, rfl, ho, hb⟩; obtain ⟨A2, c2, rfl⟩ := ho.slice; have HO := Aside0.mk (ho.lower B1.out.size); have B2 := Aside0.mk (btrans B1.out hb); have n2 := (hb.block _ (blk_lt N1.out)).trans N1.out; have k2 := Go.Lib.cell_of_heap n2 1; simp only [List.getElem?_toArray, List.getElem?_cons_succ, List.getElem?_cons_zero] at k2; obtain ⟨bv, cur, e2, h1, h2, h6⟩ := own_parts1 HO.out (Nat.lt_of_le_of_lt (Nat.zero_le _) htl); subst e2; have hfz := blk_frozen h2 tn; have hcl := row_cell h2 h6 tn htl; have HSET := Aside0.mk (own_set HO.out tn x); have HSB := Aside0.mk (B2.out.setCell (p := ⟨bv, tn, none⟩) h1 (.int .i64 x)); clear h1 h2 h6 ho hb n2))
  go_ret2
  exact ⟨_, rfl, HSET.out, HSB.out⟩
end Go.Proofs.YtiialjmpfeopjaaGreat.Sp
