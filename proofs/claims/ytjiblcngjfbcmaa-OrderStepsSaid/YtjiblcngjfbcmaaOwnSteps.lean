/- What is next weaker is below, may be had, has nothing between, and reaches all that is weaker: the walk of OrderSteps itself; no condition. -/
import Derived.Test.YtjiblcngjfbcmaaPOrderStepsx2
import Derived.KernelRfl
namespace Go.Proofs.Ytjiblcngjfbcmaa.OwnSteps
open Go.RowKit Go.Proofs.Ytjiblcngjfbcmaa.POrderSteps Go.Proofs.YtjiblcngjfbcmaaW.PrintWords Go.Proofs.YtjiblcngjfbcmaaW.PrintLast Go.Proofs.YtjiblcngjfbcmaaW.PrintMore
set_option linter.unusedVariables false
set_option linter.unusedSimpArgs false

def lb (x y : Int) : Bool := (locklesslaw02_least.f x y).getD false
theorem isO_some (x : Int) : ∃ b, order_isOrder.f x = some b := by unfold order_isOrder.f; split <;> exact ⟨_, rfl⟩
theorem bits_some (x : Int) : ∃ b, order_bits.f x = some b := by unfold order_bits.f; split <;> exact ⟨_, rfl⟩
theorem covers_some (x y : Int) : ∃ b, order_covers.f x y = some b := by
  obtain ⟨a, ha⟩ := bits_some x
  obtain ⟨b, hb⟩ := bits_some y
  unfold order_covers.f
  rw [ha, hb]
  exact ⟨_, rfl⟩
theorem atLeast_some (x y : Int) : ∃ b, order_AtLeast.f x y = some b := by
  obtain ⟨a, ha⟩ := isO_some x
  obtain ⟨b, hb⟩ := isO_some y
  obtain ⟨c, hc⟩ := covers_some x y
  unfold order_AtLeast.f
  rw [ha, hb, hc]
  simp only [Option.bind_some]
  split
  · split <;> exact ⟨_, rfl⟩
  · exact ⟨_, rfl⟩
theorem least_some (x y : Int) : ∃ b, locklesslaw02_least.f x y = some b := by
  obtain ⟨a, ha⟩ := atLeast_some x y
  unfold locklesslaw02_least.f
  rw [ha]
  simp only [Option.bind_some]
  split <;> exact ⟨_, rfl⟩
theorem least_any (x y : Int) (w : World) : Calls Try.prog 21 #[.int .i64 x, .int .i64 y] w fun e w' => e = .returned (.bool (lb x y)) ∧ ∃ n, w' = w.drewN n := by
  obtain ⟨b, h⟩ := least_some x y
  have e : lb x y = b := by unfold lb; rw [h]; rfl
  rw [e]
  exact (locklesslaw02_least.calls x y b w h).mono fun e w' ⟨h1, h2⟩ => ⟨h1, h2.out⟩
theorem awake_any (w : World) : Calls Try.prog 12 #[] w fun e w' => e = .returned (.bool true) ∧ Below w.heap.size w w' :=
  locklesslaw02_awake.calls 40 true w (by kernel_rfl)

theorem tmod_range (a m : Int) (hm : 0 < m) (hm2 : m < 100) : 0 ≤ wrap64 (Int.tmod (IntKind.u64.wrap a) m) ∧ wrap64 (Int.tmod (IntKind.u64.wrap a) m) < m := by
  have h0 : 0 ≤ IntKind.u64.wrap a := by
    simp only [IntKind.wrap, IntKind.signed, IntKind.bits, Bool.false_and]
    exact Int.emod_nonneg _ (by decide)
  rw [Int.tmod_eq_emod_of_nonneg h0]
  have h1 := Int.emod_nonneg (IntKind.u64.wrap a) (Int.ne_of_gt hm)
  have h2 := Int.emod_lt_of_pos (IntKind.u64.wrap a) hm
  unfold wrap64
  omega

def V (a : Int) : Prop := 0 ≤ a ∧ a < 5
theorem all5 (P : Int → Prop) (h0 : P 0) (h1 : P 1) (h2 : P 2) (h3 : P 3) (h4 : P 4) : ∀ x, V x → P x := fun x h => by
  obtain ⟨ha, hb⟩ := h
  obtain rfl | rfl | rfl | rfl | rfl : x = 0 ∨ x = 1 ∨ x = 2 ∨ x = 3 ∨ x = 4 := by omega
  all_goals assumption
theorem five3 (P : Int → Int → Int → Bool) (h : ([0, 1, 2, 3, 4] : List Int).all (fun x => ([0, 1, 2, 3, 4] : List Int).all fun y => ([0, 1, 2, 3, 4] : List Int).all fun z => P x y z) = true) (x y z : Int) (hx : V x) (hy : V y) (hz : V z) : P x y z = true := by
  have m : ∀ u, V u → u ∈ ([0, 1, 2, 3, 4] : List Int) := fun u hu => by obtain ⟨ha, hb⟩ := hu; simp; omega
  exact List.all_eq_true.1 (List.all_eq_true.1 (List.all_eq_true.1 h x (m x hx)) y (m y hy)) z (m z hz)
theorem lb_refl (x : Int) (hx : V x) : lb x x = true := five3 (fun x _ _ => lb x x) (by decide +kernel) x x x hx hx hx
theorem lb_zero (x : Int) (hx : V x) : lb x 0 = true := five3 (fun x _ _ => lb x 0) (by decide +kernel) x x x hx hx hx
theorem lb_four (x : Int) (hx : V x) : lb 4 x = true := five3 (fun x _ _ => lb 4 x) (by decide +kernel) x x x hx hx hx
theorem lb_anti (x y : Int) (hx : V x) (hy : V y) (h1 : lb x y = true) (h2 : lb y x = true) : x = y := by
  have := five3 (fun x y _ => !(lb x y && lb y x) || x == y) (by decide +kernel) x y y hx hy hy
  simpa [h1, h2] using this
theorem lb_trans (x y z : Int) (hx : V x) (hy : V y) (hz : V z) (h1 : lb x y = true) (h2 : lb y z = true) : lb x z = true := by
  have := five3 (fun x y z => !(lb x y && lb y z) || lb x z) (by decide +kernel) x y z hx hy hz
  simpa [h1, h2] using this
theorem lb_12 : lb 1 2 = false := by decide +kernel
theorem lb_21 : lb 2 1 = false := by decide +kernel

theorem quiet_add {P : Program} {f : FuncId} {args : Array Value} {w : World} {a n : Nat} {v : Value}
    (h : Calls P f args (w.drewN (a + n)) fun e w' => e = .returned v ∧ ∃ m, w' = (w.drewN (a + n)).drewN m) :
    Calls P f args (w.drewN (a + n)) fun e w'' => e = .returned v ∧ ∃ m, w'' = w.drewN (a + m) :=
  h.mono fun _ _ ⟨he, m, hm⟩ => ⟨he, n + m, by rw [hm, World.drewN_drewN, Nat.add_assoc]⟩
def K6 (a : Int) : Prop := 0 ≤ a ∧ a < 6
theorem each (P : Int → Int → Int → Bool) (h : ([0, 1, 2, 3, 4, 5] : List Int).all (fun x => ([0, 1, 2, 3, 4] : List Int).all fun y => ([0, 1, 2, 3, 4] : List Int).all fun z => P x y z) = true) (x y z : Int) (hx : K6 x) (hy : V y) (hz : V z) : P x y z = true := by
  have m : ∀ u, V u → u ∈ ([0, 1, 2, 3, 4] : List Int) := fun u hu => by obtain ⟨ha, hb⟩ := hu; simp; omega
  have m6 : ∀ u, K6 u → u ∈ ([0, 1, 2, 3, 4, 5] : List Int) := fun u hu => by obtain ⟨ha, hb⟩ := hu; simp; omega
  exact List.all_eq_true.1 (List.all_eq_true.1 (List.all_eq_true.1 h x (m6 x hx)) y (m y hy)) z (m z hz)
def mb (k x : Int) : Bool := ((order_May.f k x).getD (false, 0)).1
theorem may_eq (k x : Int) (hk : K6 k) (hx : V x) : order_May.f k x = some (mb k x, 0) := by
  have := each (fun k x _ => decide (order_May.f k x = some (mb k x, 0))) (by decide +kernel) k x x hk hx hx
  simpa using this
theorem may_any (k x : Int) (hk : K6 k) (hx : V x) (w : World) : Calls Try.prog 14 #[.int .i64 k, .int .i64 x] w fun e w' => e = .returned (.tuple #[.bool (mb k x), .int .i64 0]) ∧ ∃ n, w' = w.drewN n :=
  (order_May.calls k x _ _ w (may_eq k x hk hx)).mono fun e w' ⟨h1, h2⟩ => ⟨h1, h2.out⟩
def wl (k x : Int) : List Int := ((order_Weaker.f 99 k x).getD ([], 0)).1
def we (k x : Int) : Int := ((order_Weaker.f 99 k x).getD ([], 0)).2
theorem weaker_eq (k x : Int) (hk : K6 k) (hx : V x) : order_Weaker.f 99 k x = some (wl k x, we k x) := by
  have := each (fun k x _ => decide (order_Weaker.f 99 k x = some (wl k x, we k x))) (by decide +kernel) k x x hk hx hx
  simpa using this
theorem weaker_any (k x : Int) (hk : K6 k) (hx : V x) (w : World) : Calls Try.prog 35 #[.int .i64 k, .int .i64 x] w fun e w' => ∃ v : Value, e = .returned (.tuple #[v, .int .i64 (we k x)]) ∧ Kd.R (Kd.int .i64) 3 w' w.heap.size (fun _ => True) v (wl k x) ∧ Below w.heap.size w w' :=
  order_Weaker.calls 99 k x _ _ w (weaker_eq k x hk hx)
theorem no_list (k x : Int) (hk : K6 k) (hx : V x) (h : mb k x = false) : wl k x = [] ∧ we k x = 1 := by
  have := each (fun k x _ => mb k x || decide (wl k x = [] ∧ we k x = 1)) (by decide +kernel) k x x hk hx hx
  simpa [h] using this
theorem yes_list (k x : Int) (hk : K6 k) (hx : V x) (h : mb k x = true) : we k x = 0 ∧ (wl k x).length ≤ 2 := by
  have := each (fun k x _ => !mb k x || decide (we k x = 0 ∧ (wl k x).length ≤ 2)) (by decide +kernel) k x x hk hx hx
  simpa [h] using this
/-- What the law asks of the i-th of the next weaker orders. -/
def okAt (k x y : Int) (i : Nat) : Bool :=
  let p := rd (wl k x) i
  decide (0 ≤ p ∧ p < 5) && mb k p && !(p == x) && lb x p && (decide (i = 0) || decide (rd (wl k x) ((i : Int) - 1) < p)) && (!(mb k y && !(x == y) && lb x y) || (y == p) || !(lb y p))
theorem ok_at (k x y : Int) (hk : K6 k) (hx : V x) (hy : V y) (i : Nat) (hi : i < (wl k x).length) : okAt k x y i = true := by
  have := each (fun k x y => (List.range (wl k x).length).all (okAt k x y)) (by decide +kernel) k x y hk hx hy
  exact List.all_eq_true.1 this i (List.mem_range.2 hi)
theorem ok_over (k x y : Int) (hk : K6 k) (hx : V x) (hy : V y) (h1 : mb k x = true) (h : (mb k y && !(x == y) && lb x y) = true) : (wl k x).any (fun p => lb p y) = true := by
  have := each (fun k x y => !mb k x || !(mb k y && !(x == y) && lb x y) || (wl k x).any (fun p => lb p y)) (by decide +kernel) k x y hk hx hy
  rw [h1, h] at this
  simpa using this
theorem any_take (l : List Int) (f : Int → Bool) (k : Nat) (h : k < l.length) : (l.take (k + 1)).any f = ((l.take k).any f || f (rd l k)) := by
  rw [List.take_succ_eq_append_getElem h, List.any_append]
  simp [rd, h]

set_option maxHeartbeats 8000000 in
set_option maxRecDepth 100000 in
theorem steps_any (a0 a1 a2 : Int) (w : World) : Calls Try.prog 9 #[.int .i64 a0, .int .i64 a1, .int .i64 a2] w fun e w' => e = .returned (.bool true) ∧ Below w.heap.size w w' := by
  have v0 : K6 _ := tmod_range a0 6 (by decide) (by decide)
  have v1 : V _ := tmod_range a1 5 (by decide) (by decide)
  have v2 : V _ := tmod_range a2 5 (by decide) (by decide)
  obtain ⟨k, hk⟩ : ∃ k, k = wrap64 (Int.tmod (IntKind.u64.wrap a0) 6) := ⟨_, rfl⟩
  obtain ⟨x, hx⟩ : ∃ x, x = wrap64 (Int.tmod (IntKind.u64.wrap a1) 5) := ⟨_, rfl⟩
  obtain ⟨y, hy⟩ : ∃ y, y = wrap64 (Int.tmod (IntKind.u64.wrap a2) 5) := ⟨_, rfl⟩
  rw [← hk] at v0
  rw [← hx] at v1
  rw [← hy] at v2
  replace hk := hk.symm
  replace hx := hx.symm
  replace hy := hy.symm
  cases hm : mb k x with
  | false =>
    obtain ⟨e1, e2⟩ := no_list k x v0 v1 hm
    have hw := weaker_any k x v0 v1
    rw [e1, e2] at hw
    have ha := may_any k x v0 v1
    rw [hm] at ha
    clear hm e1 e2
    go_enter Try.func9, Try.ntmps9
    go_wp2_with (first | (go_at_call 12; refine (awake_any _).mono ?_; rintro e w1 ⟨rfl, hb⟩) | (go_at_call 14; refine (ha _).mono ?_; rintro e w2 ⟨rfl, ⟨nd, rfl⟩⟩) | (go_at_call 35; refine (hw _).mono ?_; rintro e w3 ⟨v, rfl, ho, hb3⟩; obtain ⟨A1, c1, rfl, _, _⟩ := Kd.R_reads ho))
    all_goals (go_ret; exact ⟨rfl, by have h3 := below_then (pw_below_drewN hb nd) (by simpa using hb.size) hb3; repeat (first | exact h3 | apply pw_below_drewN | apply below_drew1)⟩)
  | true =>
    obtain ⟨e2, e3⟩ := yes_list k x v0 v1 hm
    have hw := weaker_any k x v0 v1
    rw [e2] at hw
    have ha := may_any k x v0 v1
    rw [hm] at ha
    have HL := Aside0.mk e3
    have HM := Aside0.mk hm
    obtain ⟨l, hl⟩ : ∃ l, l = wl k x := ⟨_, rfl⟩
    rw [← hl] at hw
    have HE := Aside0.mk hl
    have may2 := may_any k y v0 v2
    have V0 := Aside0.mk v0
    have V1 := Aside0.mk v1
    have V2 := Aside0.mk v2
    clear hm e2 e3 hl v0 v1 v2
    have key : ∀ bl : Bool, bl = (mb k y && !(x == y) && lb x y) → Calls Try.prog 9 #[.int .i64 a0, .int .i64 a1, .int .i64 a2] w fun e w' => e = .returned (.bool true) ∧ Below w.heap.size w w' := by
      intro bl hbl
      have HBL := Aside0.mk hbl
      clear hbl
      have lxy := least_any x y
      cases h1 : mb k y with
      | false =>
        rw [h1] at may2 HBL
        obtain rfl : bl = false := HBL.out
        clear h1
        go_enter Try.func9, Try.ntmps9
        go_wp2_with (first | (go_at_call 12; refine (awake_any _).mono ?_; rintro e w1 ⟨rfl, hb⟩) | (go_at_call 14; (with_reducible refine (ha _).mono ?_); rintro e w2 ⟨rfl, ⟨nd, rfl⟩⟩) | (go_at_call 14; (with_reducible refine (may2 _).mono ?_); rintro e w2 ⟨rfl, ⟨nd2, rfl⟩⟩) | (go_at_call 35; refine (hw _).mono ?_; rintro e w3 ⟨v, rfl, ho, hb3⟩; obtain ⟨A1, c1, rfl, hlc, HRC⟩ := Kd.R_reads ho) | (go_at_call 21; (with_reducible refine (lxy _).mono ?_); rintro e w4 ⟨rfl, ⟨nd3, rfl⟩⟩))
        have hbel : Below w.heap.size w w3 := below_then (pw_below_drewN hb nd) (by simpa using hb.size) hb3
        have HBW := Aside0.mk hbel
        have HC := Aside0.mk HRC
        clear hb hb3 hbel HRC ho hw ha may2 lxy
        have hmax := Kd.C_max HC.out
        go_loopg [17, 18] l.length (fun gg v17 v18 w' => ∃ (kk : Nat) (o : Bool) (q : Nat), kk ≤ l.length ∧ l.length - kk ≤ gg ∧ v18 = .int .i64 kk ∧ v17 = .bool o ∧ w' = w3.drewN q ∧ Aside0 (o = (l.take kk).any (fun p => lb p y)))
        case atStart => exact ⟨0, false, _, by omega, by omega, rfl, rfl, rfl, ⟨rfl⟩⟩
        case round =>
          obtain ⟨kk, o, q, hkk, hg, rfl, rfl, rfl, HO⟩ := hrel
          by_cases hlt : kk < l.length
          · have hok := ok_at k x y V0.out V1.out V2.out kk (by rw [← HE.out]; exact hlt)
            unfold okAt at hok
            rw [← HE.out] at hok
            have hat := any_take l (fun p => lb p y) kk hlt
            rw [← HO.out] at hat
            obtain ⟨ad, rfl, hcell⟩ := Kd.at_int HC.out (kk : Int) (by omega) (by omega)
            simp only [Int.toNat_natCast] at hcell
            obtain ⟨p, hp⟩ : ∃ p, p = rd l kk := ⟨_, rfl⟩
            rw [← hp] at hok hcell hat
            simp only [Bool.and_eq_true, Bool.or_eq_true, Bool.not_eq_true', decide_eq_true_eq, beq_eq_false_iff_ne] at hok
            obtain ⟨⟨⟨⟨⟨hV, hmp⟩, hpx⟩, hxp⟩, hord⟩, hbe⟩ := hok
            have f1 : (p == x) = false := by simpa using hpx
            have f2 : (p != x) = true := by simpa using hpx
            have mayp : ∀ w, Calls Try.prog 14 #[.int .i64 k, .int .i64 p] w fun e w' => e = .returned (.tuple #[.bool true, .int .i64 0]) ∧ ∃ n, w' = w.drewN n := fun w => by
              have := may_any k p V0.out hV w
              rw [hmp] at this
              exact this
            have lxp : ∀ w, Calls Try.prog 21 #[.int .i64 x, .int .i64 p] w fun e w' => e = .returned (.bool true) ∧ ∃ n, w' = w.drewN n := fun w => by
              have := least_any x p w
              rw [hxp] at this
              exact this
            have HAT := Aside0.mk hat
            have HORD := Aside0.mk hord
            have HBE := Aside0.mk hbe
            clear hp hpx hxp hmp hV hat hord hbe
            have fin : ∀ b : Bool, b = (o || lb p y) → b = (l.take (kk + 1)).any (fun p => lb p y) := fun b hb => by rw [hb, HAT.out]
            have FIN := Aside0.mk fin
            clear fin
            obtain ⟨z, hz⟩ : ∃ z, z = lb p y := ⟨_, rfl⟩
            have lpy : ∀ w, Calls Try.prog 21 #[.int .i64 p, .int .i64 y] w fun e w' => e = .returned (.bool z) ∧ ∃ n, w' = w.drewN n := fun w => by
              have := least_any p y w
              rw [← hz] at this
              exact this
            have FZ : Aside0 (∀ b : Bool, b = (o || z) → b = (l.take (kk + 1)).any (fun p => lb p y)) := ⟨fun b hb => FIN.out b (by rw [hb, hz])⟩
            clear FIN hz
            have lyp := least_any y p
            by_cases h0 : kk = 0
            · have f3 : decide (0 < kk) = false := decide_eq_false (by omega)
              have f4 : kk ≤ 0 := by omega
              have H0 := Aside0.mk h0
              clear h0 HORD
              cases o with
              | true =>
                go_wp2_with (first | (go_at_call 14; (with_reducible refine (mayp _).mono ?_); rintro e w2 ⟨rfl, ⟨nd2, rfl⟩⟩) | (go_at_call 21; (with_reducible refine (lxp _).mono ?_); rintro e w2 ⟨rfl, ⟨nd2, rfl⟩⟩) | (go_at_call 21; (with_reducible refine (lpy _).mono ?_); rintro e w2 ⟨rfl, ⟨nd2, rfl⟩⟩) | (go_at_call 21; (with_reducible refine (lyp _).mono ?_); rintro e w2 ⟨rfl, ⟨nd2, rfl⟩⟩))
                go_quiet ((first | (go_at_call 14; exact Calls.quiet_of (mayp _)) | (go_at_call 14; exact quiet_add (mayp _)) | (go_at_call 21; exact Calls.quiet_of (lxp _)) | (go_at_call 21; exact quiet_add (lxp _))))
                go_wp2_with (first | (go_at_call 14; (with_reducible refine (mayp _).mono ?_); rintro e w2 ⟨rfl, ⟨nd2, rfl⟩⟩) | (go_at_call 21; (with_reducible refine (lxp _).mono ?_); rintro e w2 ⟨rfl, ⟨nd2, rfl⟩⟩) | (go_at_call 21; (with_reducible refine (lpy _).mono ?_); rintro e w2 ⟨rfl, ⟨nd2, rfl⟩⟩) | (go_at_call 21; (with_reducible refine (lyp _).mono ?_); rintro e w2 ⟨rfl, ⟨nd2, rfl⟩⟩))
                go_roundg (l.length - (kk + 1))
                case measure => omega
                case rel => exact ⟨kk + 1, _, _, by omega, by omega, by go_num, rfl, rfl, ⟨FZ.out _ (by simp)⟩⟩
              | false =>
                go_wp2_with (first | (go_at_call 14; (with_reducible refine (mayp _).mono ?_); rintro e w2 ⟨rfl, ⟨nd2, rfl⟩⟩) | (go_at_call 21; (with_reducible refine (lxp _).mono ?_); rintro e w2 ⟨rfl, ⟨nd2, rfl⟩⟩) | (go_at_call 21; (with_reducible refine (lpy _).mono ?_); rintro e w2 ⟨rfl, ⟨nd2, rfl⟩⟩) | (go_at_call 21; (with_reducible refine (lyp _).mono ?_); rintro e w2 ⟨rfl, ⟨nd2, rfl⟩⟩))
                go_quiet ((first | (go_at_call 14; exact Calls.quiet_of (mayp _)) | (go_at_call 14; exact quiet_add (mayp _)) | (go_at_call 21; exact Calls.quiet_of (lxp _)) | (go_at_call 21; exact quiet_add (lxp _))))
                go_wp2_with (first | (go_at_call 14; (with_reducible refine (mayp _).mono ?_); rintro e w2 ⟨rfl, ⟨nd2, rfl⟩⟩) | (go_at_call 21; (with_reducible refine (lxp _).mono ?_); rintro e w2 ⟨rfl, ⟨nd2, rfl⟩⟩) | (go_at_call 21; (with_reducible refine (lpy _).mono ?_); rintro e w2 ⟨rfl, ⟨nd2, rfl⟩⟩) | (go_at_call 21; (with_reducible refine (lyp _).mono ?_); rintro e w2 ⟨rfl, ⟨nd2, rfl⟩⟩))
                go_roundg (l.length - (kk + 1))
                case measure => omega
                case rel => exact ⟨kk + 1, _, _, by omega, by omega, by go_num, rfl, rfl, ⟨FZ.out _ (by simp)⟩⟩
            · obtain ⟨ad2, e2, hcell2⟩ := Kd.at_int HC.out ((kk - 1 : Nat) : Int) (by omega) (by omega)
              obtain rfl : ad = ad2 := by simpa using e2
              simp only [Int.toNat_natCast] at hcell2
              have hq : rd l ((kk - 1 : Nat) : Int) < p := by
                rcases HORD.out with g | g
                · exact absurd g h0
                · rwa [show ((kk - 1 : Nat) : Int) = (kk : Int) - 1 by omega]
              generalize rd l ((kk - 1 : Nat) : Int) = pq at hq hcell2
              have hk1 : ((kk : Int) - 1) = ((kk - 1 : Nat) : Int) := by omega
              have f3 : decide (p ≤ pq) = false := decide_eq_false (by omega)
              have hpos : 0 < kk := by omega
              clear hq h0
              cases o with
              | true =>
                go_wp2_with (first | (go_at_call 14; (with_reducible refine (mayp _).mono ?_); rintro e w2 ⟨rfl, ⟨nd2, rfl⟩⟩) | (go_at_call 21; (with_reducible refine (lxp _).mono ?_); rintro e w2 ⟨rfl, ⟨nd2, rfl⟩⟩) | (go_at_call 21; (with_reducible refine (lpy _).mono ?_); rintro e w2 ⟨rfl, ⟨nd2, rfl⟩⟩) | (go_at_call 21; (with_reducible refine (lyp _).mono ?_); rintro e w2 ⟨rfl, ⟨nd2, rfl⟩⟩))
                go_quiet ((first | (go_at_call 14; exact Calls.quiet_of (mayp _)) | (go_at_call 14; exact quiet_add (mayp _)) | (go_at_call 21; exact Calls.quiet_of (lxp _)) | (go_at_call 21; exact quiet_add (lxp _))))
                go_wp2_with (first | (go_at_call 14; (with_reducible refine (mayp _).mono ?_); rintro e w2 ⟨rfl, ⟨nd2, rfl⟩⟩) | (go_at_call 21; (with_reducible refine (lxp _).mono ?_); rintro e w2 ⟨rfl, ⟨nd2, rfl⟩⟩) | (go_at_call 21; (with_reducible refine (lpy _).mono ?_); rintro e w2 ⟨rfl, ⟨nd2, rfl⟩⟩) | (go_at_call 21; (with_reducible refine (lyp _).mono ?_); rintro e w2 ⟨rfl, ⟨nd2, rfl⟩⟩))
                go_roundg (l.length - (kk + 1))
                case measure => omega
                case rel => exact ⟨kk + 1, _, _, by omega, by omega, by go_num, rfl, rfl, ⟨FZ.out _ (by simp)⟩⟩
              | false =>
                go_wp2_with (first | (go_at_call 14; (with_reducible refine (mayp _).mono ?_); rintro e w2 ⟨rfl, ⟨nd2, rfl⟩⟩) | (go_at_call 21; (with_reducible refine (lxp _).mono ?_); rintro e w2 ⟨rfl, ⟨nd2, rfl⟩⟩) | (go_at_call 21; (with_reducible refine (lpy _).mono ?_); rintro e w2 ⟨rfl, ⟨nd2, rfl⟩⟩) | (go_at_call 21; (with_reducible refine (lyp _).mono ?_); rintro e w2 ⟨rfl, ⟨nd2, rfl⟩⟩))
                go_quiet ((first | (go_at_call 14; exact Calls.quiet_of (mayp _)) | (go_at_call 14; exact quiet_add (mayp _)) | (go_at_call 21; exact Calls.quiet_of (lxp _)) | (go_at_call 21; exact quiet_add (lxp _))))
                go_wp2_with (first | (go_at_call 14; (with_reducible refine (mayp _).mono ?_); rintro e w2 ⟨rfl, ⟨nd2, rfl⟩⟩) | (go_at_call 21; (with_reducible refine (lxp _).mono ?_); rintro e w2 ⟨rfl, ⟨nd2, rfl⟩⟩) | (go_at_call 21; (with_reducible refine (lpy _).mono ?_); rintro e w2 ⟨rfl, ⟨nd2, rfl⟩⟩) | (go_at_call 21; (with_reducible refine (lyp _).mono ?_); rintro e w2 ⟨rfl, ⟨nd2, rfl⟩⟩))
                go_roundg (l.length - (kk + 1))
                case measure => omega
                case rel => exact ⟨kk + 1, _, _, by omega, by omega, by go_num, rfl, rfl, ⟨FZ.out _ (by simp)⟩⟩
          · have : kk = l.length := by omega
            subst this
            have hend := HO.out
            rw [List.take_length] at hend
            have HEND := Aside0.mk hend
            clear hend
            go_wp2
            all_goals (go_ret; exact ⟨rfl, by have h3 := HBW.out; repeat (first | exact h3 | apply pw_below_drewN | apply below_drew1)⟩)
      | true =>
        rcases (show (x == y) = true ∨ (x == y) = false by cases (x == y) <;> simp) with g0 | g0
        · have g1 : (x != y) = false := by simpa using g0
          rw [h1] at may2
          clear h1 HBL
          go_enter Try.func9, Try.ntmps9
          go_wp2_with (first | (go_at_call 12; refine (awake_any _).mono ?_; rintro e w1 ⟨rfl, hb⟩) | (go_at_call 14; (with_reducible refine (ha _).mono ?_); rintro e w2 ⟨rfl, ⟨nd, rfl⟩⟩) | (go_at_call 14; (with_reducible refine (may2 _).mono ?_); rintro e w2 ⟨rfl, ⟨nd2, rfl⟩⟩) | (go_at_call 35; refine (hw _).mono ?_; rintro e w3 ⟨v, rfl, ho, hb3⟩; obtain ⟨A1, c1, rfl, hlc, HRC⟩ := Kd.R_reads ho) | (go_at_call 21; (with_reducible refine (lxy _).mono ?_); rintro e w4 ⟨rfl, ⟨nd3, rfl⟩⟩))
          have hbel : Below w.heap.size w w3 := below_then (pw_below_drewN hb nd) (by simpa using hb.size) hb3
          have HBW := Aside0.mk hbel
          have HC := Aside0.mk HRC
          clear hb hb3 hbel HRC ho hw ha may2 lxy
          have hmax := Kd.C_max HC.out
          go_loopg [17, 18] l.length (fun gg v17 v18 w' => ∃ (kk : Nat) (o : Bool) (q : Nat), kk ≤ l.length ∧ l.length - kk ≤ gg ∧ v18 = .int .i64 kk ∧ v17 = .bool o ∧ w' = w3.drewN q ∧ Aside0 (o = (l.take kk).any (fun p => lb p y)))
          case atStart => exact ⟨0, false, _, by omega, by omega, rfl, rfl, rfl, ⟨rfl⟩⟩
          case round =>
            obtain ⟨kk, o, q, hkk, hg, rfl, rfl, rfl, HO⟩ := hrel
            by_cases hlt : kk < l.length
            · have hok := ok_at k x y V0.out V1.out V2.out kk (by rw [← HE.out]; exact hlt)
              unfold okAt at hok
              rw [← HE.out] at hok
              have hat := any_take l (fun p => lb p y) kk hlt
              rw [← HO.out] at hat
              obtain ⟨ad, rfl, hcell⟩ := Kd.at_int HC.out (kk : Int) (by omega) (by omega)
              simp only [Int.toNat_natCast] at hcell
              obtain ⟨p, hp⟩ : ∃ p, p = rd l kk := ⟨_, rfl⟩
              rw [← hp] at hok hcell hat
              simp only [Bool.and_eq_true, Bool.or_eq_true, Bool.not_eq_true', decide_eq_true_eq, beq_eq_false_iff_ne] at hok
              obtain ⟨⟨⟨⟨⟨hV, hmp⟩, hpx⟩, hxp⟩, hord⟩, hbe⟩ := hok
              have f1 : (p == x) = false := by simpa using hpx
              have f2 : (p != x) = true := by simpa using hpx
              have mayp : ∀ w, Calls Try.prog 14 #[.int .i64 k, .int .i64 p] w fun e w' => e = .returned (.tuple #[.bool true, .int .i64 0]) ∧ ∃ n, w' = w.drewN n := fun w => by
                have := may_any k p V0.out hV w
                rw [hmp] at this
                exact this
              have lxp : ∀ w, Calls Try.prog 21 #[.int .i64 x, .int .i64 p] w fun e w' => e = .returned (.bool true) ∧ ∃ n, w' = w.drewN n := fun w => by
                have := least_any x p w
                rw [hxp] at this
                exact this
              have HAT := Aside0.mk hat
              have HORD := Aside0.mk hord
              have HBE := Aside0.mk hbe
              clear hp hpx hxp hmp hV hat hord hbe
              have fin : ∀ b : Bool, b = (o || lb p y) → b = (l.take (kk + 1)).any (fun p => lb p y) := fun b hb => by rw [hb, HAT.out]
              have FIN := Aside0.mk fin
              clear fin
              obtain ⟨z, hz⟩ : ∃ z, z = lb p y := ⟨_, rfl⟩
              have lpy : ∀ w, Calls Try.prog 21 #[.int .i64 p, .int .i64 y] w fun e w' => e = .returned (.bool z) ∧ ∃ n, w' = w.drewN n := fun w => by
                have := least_any p y w
                rw [← hz] at this
                exact this
              have FZ : Aside0 (∀ b : Bool, b = (o || z) → b = (l.take (kk + 1)).any (fun p => lb p y)) := ⟨fun b hb => FIN.out b (by rw [hb, hz])⟩
              clear FIN hz
              have lyp := least_any y p
              by_cases h0 : kk = 0
              · have f3 : decide (0 < kk) = false := decide_eq_false (by omega)
                have f4 : kk ≤ 0 := by omega
                have H0 := Aside0.mk h0
                clear h0 HORD
                cases o with
                | true =>
                  go_wp2_with (first | (go_at_call 14; (with_reducible refine (mayp _).mono ?_); rintro e w2 ⟨rfl, ⟨nd2, rfl⟩⟩) | (go_at_call 21; (with_reducible refine (lxp _).mono ?_); rintro e w2 ⟨rfl, ⟨nd2, rfl⟩⟩) | (go_at_call 21; (with_reducible refine (lpy _).mono ?_); rintro e w2 ⟨rfl, ⟨nd2, rfl⟩⟩) | (go_at_call 21; (with_reducible refine (lyp _).mono ?_); rintro e w2 ⟨rfl, ⟨nd2, rfl⟩⟩))
                  go_quiet ((first | (go_at_call 14; exact Calls.quiet_of (mayp _)) | (go_at_call 14; exact quiet_add (mayp _)) | (go_at_call 21; exact Calls.quiet_of (lxp _)) | (go_at_call 21; exact quiet_add (lxp _))))
                  go_wp2_with (first | (go_at_call 14; (with_reducible refine (mayp _).mono ?_); rintro e w2 ⟨rfl, ⟨nd2, rfl⟩⟩) | (go_at_call 21; (with_reducible refine (lxp _).mono ?_); rintro e w2 ⟨rfl, ⟨nd2, rfl⟩⟩) | (go_at_call 21; (with_reducible refine (lpy _).mono ?_); rintro e w2 ⟨rfl, ⟨nd2, rfl⟩⟩) | (go_at_call 21; (with_reducible refine (lyp _).mono ?_); rintro e w2 ⟨rfl, ⟨nd2, rfl⟩⟩))
                  go_roundg (l.length - (kk + 1))
                  case measure => omega
                  case rel => exact ⟨kk + 1, _, _, by omega, by omega, by go_num, rfl, rfl, ⟨FZ.out _ (by simp)⟩⟩
                | false =>
                  go_wp2_with (first | (go_at_call 14; (with_reducible refine (mayp _).mono ?_); rintro e w2 ⟨rfl, ⟨nd2, rfl⟩⟩) | (go_at_call 21; (with_reducible refine (lxp _).mono ?_); rintro e w2 ⟨rfl, ⟨nd2, rfl⟩⟩) | (go_at_call 21; (with_reducible refine (lpy _).mono ?_); rintro e w2 ⟨rfl, ⟨nd2, rfl⟩⟩) | (go_at_call 21; (with_reducible refine (lyp _).mono ?_); rintro e w2 ⟨rfl, ⟨nd2, rfl⟩⟩))
                  go_quiet ((first | (go_at_call 14; exact Calls.quiet_of (mayp _)) | (go_at_call 14; exact quiet_add (mayp _)) | (go_at_call 21; exact Calls.quiet_of (lxp _)) | (go_at_call 21; exact quiet_add (lxp _))))
                  go_wp2_with (first | (go_at_call 14; (with_reducible refine (mayp _).mono ?_); rintro e w2 ⟨rfl, ⟨nd2, rfl⟩⟩) | (go_at_call 21; (with_reducible refine (lxp _).mono ?_); rintro e w2 ⟨rfl, ⟨nd2, rfl⟩⟩) | (go_at_call 21; (with_reducible refine (lpy _).mono ?_); rintro e w2 ⟨rfl, ⟨nd2, rfl⟩⟩) | (go_at_call 21; (with_reducible refine (lyp _).mono ?_); rintro e w2 ⟨rfl, ⟨nd2, rfl⟩⟩))
                  go_roundg (l.length - (kk + 1))
                  case measure => omega
                  case rel => exact ⟨kk + 1, _, _, by omega, by omega, by go_num, rfl, rfl, ⟨FZ.out _ (by simp)⟩⟩
              · obtain ⟨ad2, e2, hcell2⟩ := Kd.at_int HC.out ((kk - 1 : Nat) : Int) (by omega) (by omega)
                obtain rfl : ad = ad2 := by simpa using e2
                simp only [Int.toNat_natCast] at hcell2
                have hq : rd l ((kk - 1 : Nat) : Int) < p := by
                  rcases HORD.out with g | g
                  · exact absurd g h0
                  · rwa [show ((kk - 1 : Nat) : Int) = (kk : Int) - 1 by omega]
                generalize rd l ((kk - 1 : Nat) : Int) = pq at hq hcell2
                have hk1 : ((kk : Int) - 1) = ((kk - 1 : Nat) : Int) := by omega
                have f3 : decide (p ≤ pq) = false := decide_eq_false (by omega)
                have hpos : 0 < kk := by omega
                clear hq h0
                cases o with
                | true =>
                  go_wp2_with (first | (go_at_call 14; (with_reducible refine (mayp _).mono ?_); rintro e w2 ⟨rfl, ⟨nd2, rfl⟩⟩) | (go_at_call 21; (with_reducible refine (lxp _).mono ?_); rintro e w2 ⟨rfl, ⟨nd2, rfl⟩⟩) | (go_at_call 21; (with_reducible refine (lpy _).mono ?_); rintro e w2 ⟨rfl, ⟨nd2, rfl⟩⟩) | (go_at_call 21; (with_reducible refine (lyp _).mono ?_); rintro e w2 ⟨rfl, ⟨nd2, rfl⟩⟩))
                  go_quiet ((first | (go_at_call 14; exact Calls.quiet_of (mayp _)) | (go_at_call 14; exact quiet_add (mayp _)) | (go_at_call 21; exact Calls.quiet_of (lxp _)) | (go_at_call 21; exact quiet_add (lxp _))))
                  go_wp2_with (first | (go_at_call 14; (with_reducible refine (mayp _).mono ?_); rintro e w2 ⟨rfl, ⟨nd2, rfl⟩⟩) | (go_at_call 21; (with_reducible refine (lxp _).mono ?_); rintro e w2 ⟨rfl, ⟨nd2, rfl⟩⟩) | (go_at_call 21; (with_reducible refine (lpy _).mono ?_); rintro e w2 ⟨rfl, ⟨nd2, rfl⟩⟩) | (go_at_call 21; (with_reducible refine (lyp _).mono ?_); rintro e w2 ⟨rfl, ⟨nd2, rfl⟩⟩))
                  go_roundg (l.length - (kk + 1))
                  case measure => omega
                  case rel => exact ⟨kk + 1, _, _, by omega, by omega, by go_num, rfl, rfl, ⟨FZ.out _ (by simp)⟩⟩
                | false =>
                  go_wp2_with (first | (go_at_call 14; (with_reducible refine (mayp _).mono ?_); rintro e w2 ⟨rfl, ⟨nd2, rfl⟩⟩) | (go_at_call 21; (with_reducible refine (lxp _).mono ?_); rintro e w2 ⟨rfl, ⟨nd2, rfl⟩⟩) | (go_at_call 21; (with_reducible refine (lpy _).mono ?_); rintro e w2 ⟨rfl, ⟨nd2, rfl⟩⟩) | (go_at_call 21; (with_reducible refine (lyp _).mono ?_); rintro e w2 ⟨rfl, ⟨nd2, rfl⟩⟩))
                  go_quiet ((first | (go_at_call 14; exact Calls.quiet_of (mayp _)) | (go_at_call 14; exact quiet_add (mayp _)) | (go_at_call 21; exact Calls.quiet_of (lxp _)) | (go_at_call 21; exact quiet_add (lxp _))))
                  go_wp2_with (first | (go_at_call 14; (with_reducible refine (mayp _).mono ?_); rintro e w2 ⟨rfl, ⟨nd2, rfl⟩⟩) | (go_at_call 21; (with_reducible refine (lxp _).mono ?_); rintro e w2 ⟨rfl, ⟨nd2, rfl⟩⟩) | (go_at_call 21; (with_reducible refine (lpy _).mono ?_); rintro e w2 ⟨rfl, ⟨nd2, rfl⟩⟩) | (go_at_call 21; (with_reducible refine (lyp _).mono ?_); rintro e w2 ⟨rfl, ⟨nd2, rfl⟩⟩))
                  go_roundg (l.length - (kk + 1))
                  case measure => omega
                  case rel => exact ⟨kk + 1, _, _, by omega, by omega, by go_num, rfl, rfl, ⟨FZ.out _ (by simp)⟩⟩
            · have : kk = l.length := by omega
              subst this
              have hend := HO.out
              rw [List.take_length] at hend
              have HEND := Aside0.mk hend
              clear hend
              go_wp2
              all_goals (go_ret; exact ⟨rfl, by have h3 := HBW.out; repeat (first | exact h3 | apply pw_below_drewN | apply below_drew1)⟩)
        · have g1 : (x != y) = true := by simpa using g0
          cases h2 : lb x y with
          | false =>
            rw [h1] at may2
            rw [h2] at lxy
            clear h1 h2 HBL
            go_enter Try.func9, Try.ntmps9
            go_wp2_with (first | (go_at_call 12; refine (awake_any _).mono ?_; rintro e w1 ⟨rfl, hb⟩) | (go_at_call 14; (with_reducible refine (ha _).mono ?_); rintro e w2 ⟨rfl, ⟨nd, rfl⟩⟩) | (go_at_call 14; (with_reducible refine (may2 _).mono ?_); rintro e w2 ⟨rfl, ⟨nd2, rfl⟩⟩) | (go_at_call 35; refine (hw _).mono ?_; rintro e w3 ⟨v, rfl, ho, hb3⟩; obtain ⟨A1, c1, rfl, hlc, HRC⟩ := Kd.R_reads ho) | (go_at_call 21; (with_reducible refine (lxy _).mono ?_); rintro e w4 ⟨rfl, ⟨nd3, rfl⟩⟩))
            have hbel : Below w.heap.size w w3 := below_then (pw_below_drewN hb nd) (by simpa using hb.size) hb3
            have HBW := Aside0.mk hbel
            have HC := Aside0.mk HRC
            clear hb hb3 hbel HRC ho hw ha may2 lxy
            have hmax := Kd.C_max HC.out
            go_loopg [17, 18] l.length (fun gg v17 v18 w' => ∃ (kk : Nat) (o : Bool) (q : Nat), kk ≤ l.length ∧ l.length - kk ≤ gg ∧ v18 = .int .i64 kk ∧ v17 = .bool o ∧ w' = w3.drewN q ∧ Aside0 (o = (l.take kk).any (fun p => lb p y)))
            case atStart => exact ⟨0, false, _, by omega, by omega, rfl, rfl, rfl, ⟨rfl⟩⟩
            case round =>
              obtain ⟨kk, o, q, hkk, hg, rfl, rfl, rfl, HO⟩ := hrel
              by_cases hlt : kk < l.length
              · have hok := ok_at k x y V0.out V1.out V2.out kk (by rw [← HE.out]; exact hlt)
                unfold okAt at hok
                rw [← HE.out] at hok
                have hat := any_take l (fun p => lb p y) kk hlt
                rw [← HO.out] at hat
                obtain ⟨ad, rfl, hcell⟩ := Kd.at_int HC.out (kk : Int) (by omega) (by omega)
                simp only [Int.toNat_natCast] at hcell
                obtain ⟨p, hp⟩ : ∃ p, p = rd l kk := ⟨_, rfl⟩
                rw [← hp] at hok hcell hat
                simp only [Bool.and_eq_true, Bool.or_eq_true, Bool.not_eq_true', decide_eq_true_eq, beq_eq_false_iff_ne] at hok
                obtain ⟨⟨⟨⟨⟨hV, hmp⟩, hpx⟩, hxp⟩, hord⟩, hbe⟩ := hok
                have f1 : (p == x) = false := by simpa using hpx
                have f2 : (p != x) = true := by simpa using hpx
                have mayp : ∀ w, Calls Try.prog 14 #[.int .i64 k, .int .i64 p] w fun e w' => e = .returned (.tuple #[.bool true, .int .i64 0]) ∧ ∃ n, w' = w.drewN n := fun w => by
                  have := may_any k p V0.out hV w
                  rw [hmp] at this
                  exact this
                have lxp : ∀ w, Calls Try.prog 21 #[.int .i64 x, .int .i64 p] w fun e w' => e = .returned (.bool true) ∧ ∃ n, w' = w.drewN n := fun w => by
                  have := least_any x p w
                  rw [hxp] at this
                  exact this
                have HAT := Aside0.mk hat
                have HORD := Aside0.mk hord
                have HBE := Aside0.mk hbe
                clear hp hpx hxp hmp hV hat hord hbe
                have fin : ∀ b : Bool, b = (o || lb p y) → b = (l.take (kk + 1)).any (fun p => lb p y) := fun b hb => by rw [hb, HAT.out]
                have FIN := Aside0.mk fin
                clear fin
                obtain ⟨z, hz⟩ : ∃ z, z = lb p y := ⟨_, rfl⟩
                have lpy : ∀ w, Calls Try.prog 21 #[.int .i64 p, .int .i64 y] w fun e w' => e = .returned (.bool z) ∧ ∃ n, w' = w.drewN n := fun w => by
                  have := least_any p y w
                  rw [← hz] at this
                  exact this
                have FZ : Aside0 (∀ b : Bool, b = (o || z) → b = (l.take (kk + 1)).any (fun p => lb p y)) := ⟨fun b hb => FIN.out b (by rw [hb, hz])⟩
                clear FIN hz
                have lyp := least_any y p
                by_cases h0 : kk = 0
                · have f3 : decide (0 < kk) = false := decide_eq_false (by omega)
                  have f4 : kk ≤ 0 := by omega
                  have H0 := Aside0.mk h0
                  clear h0 HORD
                  cases o with
                  | true =>
                    go_wp2_with (first | (go_at_call 14; (with_reducible refine (mayp _).mono ?_); rintro e w2 ⟨rfl, ⟨nd2, rfl⟩⟩) | (go_at_call 21; (with_reducible refine (lxp _).mono ?_); rintro e w2 ⟨rfl, ⟨nd2, rfl⟩⟩) | (go_at_call 21; (with_reducible refine (lpy _).mono ?_); rintro e w2 ⟨rfl, ⟨nd2, rfl⟩⟩) | (go_at_call 21; (with_reducible refine (lyp _).mono ?_); rintro e w2 ⟨rfl, ⟨nd2, rfl⟩⟩))
                    go_quiet ((first | (go_at_call 14; exact Calls.quiet_of (mayp _)) | (go_at_call 14; exact quiet_add (mayp _)) | (go_at_call 21; exact Calls.quiet_of (lxp _)) | (go_at_call 21; exact quiet_add (lxp _))))
                    go_wp2_with (first | (go_at_call 14; (with_reducible refine (mayp _).mono ?_); rintro e w2 ⟨rfl, ⟨nd2, rfl⟩⟩) | (go_at_call 21; (with_reducible refine (lxp _).mono ?_); rintro e w2 ⟨rfl, ⟨nd2, rfl⟩⟩) | (go_at_call 21; (with_reducible refine (lpy _).mono ?_); rintro e w2 ⟨rfl, ⟨nd2, rfl⟩⟩) | (go_at_call 21; (with_reducible refine (lyp _).mono ?_); rintro e w2 ⟨rfl, ⟨nd2, rfl⟩⟩))
                    go_roundg (l.length - (kk + 1))
                    case measure => omega
                    case rel => exact ⟨kk + 1, _, _, by omega, by omega, by go_num, rfl, rfl, ⟨FZ.out _ (by simp)⟩⟩
                  | false =>
                    go_wp2_with (first | (go_at_call 14; (with_reducible refine (mayp _).mono ?_); rintro e w2 ⟨rfl, ⟨nd2, rfl⟩⟩) | (go_at_call 21; (with_reducible refine (lxp _).mono ?_); rintro e w2 ⟨rfl, ⟨nd2, rfl⟩⟩) | (go_at_call 21; (with_reducible refine (lpy _).mono ?_); rintro e w2 ⟨rfl, ⟨nd2, rfl⟩⟩) | (go_at_call 21; (with_reducible refine (lyp _).mono ?_); rintro e w2 ⟨rfl, ⟨nd2, rfl⟩⟩))
                    go_quiet ((first | (go_at_call 14; exact Calls.quiet_of (mayp _)) | (go_at_call 14; exact quiet_add (mayp _)) | (go_at_call 21; exact Calls.quiet_of (lxp _)) | (go_at_call 21; exact quiet_add (lxp _))))
                    go_wp2_with (first | (go_at_call 14; (with_reducible refine (mayp _).mono ?_); rintro e w2 ⟨rfl, ⟨nd2, rfl⟩⟩) | (go_at_call 21; (with_reducible refine (lxp _).mono ?_); rintro e w2 ⟨rfl, ⟨nd2, rfl⟩⟩) | (go_at_call 21; (with_reducible refine (lpy _).mono ?_); rintro e w2 ⟨rfl, ⟨nd2, rfl⟩⟩) | (go_at_call 21; (with_reducible refine (lyp _).mono ?_); rintro e w2 ⟨rfl, ⟨nd2, rfl⟩⟩))
                    go_roundg (l.length - (kk + 1))
                    case measure => omega
                    case rel => exact ⟨kk + 1, _, _, by omega, by omega, by go_num, rfl, rfl, ⟨FZ.out _ (by simp)⟩⟩
                · obtain ⟨ad2, e2, hcell2⟩ := Kd.at_int HC.out ((kk - 1 : Nat) : Int) (by omega) (by omega)
                  obtain rfl : ad = ad2 := by simpa using e2
                  simp only [Int.toNat_natCast] at hcell2
                  have hq : rd l ((kk - 1 : Nat) : Int) < p := by
                    rcases HORD.out with g | g
                    · exact absurd g h0
                    · rwa [show ((kk - 1 : Nat) : Int) = (kk : Int) - 1 by omega]
                  generalize rd l ((kk - 1 : Nat) : Int) = pq at hq hcell2
                  have hk1 : ((kk : Int) - 1) = ((kk - 1 : Nat) : Int) := by omega
                  have f3 : decide (p ≤ pq) = false := decide_eq_false (by omega)
                  have hpos : 0 < kk := by omega
                  clear hq h0
                  cases o with
                  | true =>
                    go_wp2_with (first | (go_at_call 14; (with_reducible refine (mayp _).mono ?_); rintro e w2 ⟨rfl, ⟨nd2, rfl⟩⟩) | (go_at_call 21; (with_reducible refine (lxp _).mono ?_); rintro e w2 ⟨rfl, ⟨nd2, rfl⟩⟩) | (go_at_call 21; (with_reducible refine (lpy _).mono ?_); rintro e w2 ⟨rfl, ⟨nd2, rfl⟩⟩) | (go_at_call 21; (with_reducible refine (lyp _).mono ?_); rintro e w2 ⟨rfl, ⟨nd2, rfl⟩⟩))
                    go_quiet ((first | (go_at_call 14; exact Calls.quiet_of (mayp _)) | (go_at_call 14; exact quiet_add (mayp _)) | (go_at_call 21; exact Calls.quiet_of (lxp _)) | (go_at_call 21; exact quiet_add (lxp _))))
                    go_wp2_with (first | (go_at_call 14; (with_reducible refine (mayp _).mono ?_); rintro e w2 ⟨rfl, ⟨nd2, rfl⟩⟩) | (go_at_call 21; (with_reducible refine (lxp _).mono ?_); rintro e w2 ⟨rfl, ⟨nd2, rfl⟩⟩) | (go_at_call 21; (with_reducible refine (lpy _).mono ?_); rintro e w2 ⟨rfl, ⟨nd2, rfl⟩⟩) | (go_at_call 21; (with_reducible refine (lyp _).mono ?_); rintro e w2 ⟨rfl, ⟨nd2, rfl⟩⟩))
                    go_roundg (l.length - (kk + 1))
                    case measure => omega
                    case rel => exact ⟨kk + 1, _, _, by omega, by omega, by go_num, rfl, rfl, ⟨FZ.out _ (by simp)⟩⟩
                  | false =>
                    go_wp2_with (first | (go_at_call 14; (with_reducible refine (mayp _).mono ?_); rintro e w2 ⟨rfl, ⟨nd2, rfl⟩⟩) | (go_at_call 21; (with_reducible refine (lxp _).mono ?_); rintro e w2 ⟨rfl, ⟨nd2, rfl⟩⟩) | (go_at_call 21; (with_reducible refine (lpy _).mono ?_); rintro e w2 ⟨rfl, ⟨nd2, rfl⟩⟩) | (go_at_call 21; (with_reducible refine (lyp _).mono ?_); rintro e w2 ⟨rfl, ⟨nd2, rfl⟩⟩))
                    go_quiet ((first | (go_at_call 14; exact Calls.quiet_of (mayp _)) | (go_at_call 14; exact quiet_add (mayp _)) | (go_at_call 21; exact Calls.quiet_of (lxp _)) | (go_at_call 21; exact quiet_add (lxp _))))
                    go_wp2_with (first | (go_at_call 14; (with_reducible refine (mayp _).mono ?_); rintro e w2 ⟨rfl, ⟨nd2, rfl⟩⟩) | (go_at_call 21; (with_reducible refine (lxp _).mono ?_); rintro e w2 ⟨rfl, ⟨nd2, rfl⟩⟩) | (go_at_call 21; (with_reducible refine (lpy _).mono ?_); rintro e w2 ⟨rfl, ⟨nd2, rfl⟩⟩) | (go_at_call 21; (with_reducible refine (lyp _).mono ?_); rintro e w2 ⟨rfl, ⟨nd2, rfl⟩⟩))
                    go_roundg (l.length - (kk + 1))
                    case measure => omega
                    case rel => exact ⟨kk + 1, _, _, by omega, by omega, by go_num, rfl, rfl, ⟨FZ.out _ (by simp)⟩⟩
              · have : kk = l.length := by omega
                subst this
                have hend := HO.out
                rw [List.take_length] at hend
                have HEND := Aside0.mk hend
                clear hend
                go_wp2
                all_goals (go_ret; exact ⟨rfl, by have h3 := HBW.out; repeat (first | exact h3 | apply pw_below_drewN | apply below_drew1)⟩)
          | true =>
            have HBL2 : Aside0 ((mb k y && !(x == y) && lb x y) = true) := ⟨by rw [h1, g0, h2]; rfl⟩
            rw [h1] at may2
            rw [h2] at lxy
            clear h1 h2 HBL
            go_enter Try.func9, Try.ntmps9
            go_wp2_with (first | (go_at_call 12; refine (awake_any _).mono ?_; rintro e w1 ⟨rfl, hb⟩) | (go_at_call 14; (with_reducible refine (ha _).mono ?_); rintro e w2 ⟨rfl, ⟨nd, rfl⟩⟩) | (go_at_call 14; (with_reducible refine (may2 _).mono ?_); rintro e w2 ⟨rfl, ⟨nd2, rfl⟩⟩) | (go_at_call 35; refine (hw _).mono ?_; rintro e w3 ⟨v, rfl, ho, hb3⟩; obtain ⟨A1, c1, rfl, hlc, HRC⟩ := Kd.R_reads ho) | (go_at_call 21; (with_reducible refine (lxy _).mono ?_); rintro e w4 ⟨rfl, ⟨nd3, rfl⟩⟩))
            have hbel : Below w.heap.size w w3 := below_then (pw_below_drewN hb nd) (by simpa using hb.size) hb3
            have HBW := Aside0.mk hbel
            have HC := Aside0.mk HRC
            clear hb hb3 hbel HRC ho hw ha may2 lxy
            have hmax := Kd.C_max HC.out
            go_loopg [17, 18] l.length (fun gg v17 v18 w' => ∃ (kk : Nat) (o : Bool) (q : Nat), kk ≤ l.length ∧ l.length - kk ≤ gg ∧ v18 = .int .i64 kk ∧ v17 = .bool o ∧ w' = w3.drewN q ∧ Aside0 (o = (l.take kk).any (fun p => lb p y)))
            case atStart => exact ⟨0, false, _, by omega, by omega, rfl, rfl, rfl, ⟨rfl⟩⟩
            case round =>
              obtain ⟨kk, o, q, hkk, hg, rfl, rfl, rfl, HO⟩ := hrel
              by_cases hlt : kk < l.length
              · have hok := ok_at k x y V0.out V1.out V2.out kk (by rw [← HE.out]; exact hlt)
                unfold okAt at hok
                rw [← HE.out] at hok
                have hat := any_take l (fun p => lb p y) kk hlt
                rw [← HO.out] at hat
                obtain ⟨ad, rfl, hcell⟩ := Kd.at_int HC.out (kk : Int) (by omega) (by omega)
                simp only [Int.toNat_natCast] at hcell
                obtain ⟨p, hp⟩ : ∃ p, p = rd l kk := ⟨_, rfl⟩
                rw [← hp] at hok hcell hat
                simp only [Bool.and_eq_true, Bool.or_eq_true, Bool.not_eq_true', decide_eq_true_eq, beq_eq_false_iff_ne] at hok
                obtain ⟨⟨⟨⟨⟨hV, hmp⟩, hpx⟩, hxp⟩, hord⟩, hbe⟩ := hok
                have f1 : (p == x) = false := by simpa using hpx
                have f2 : (p != x) = true := by simpa using hpx
                have mayp : ∀ w, Calls Try.prog 14 #[.int .i64 k, .int .i64 p] w fun e w' => e = .returned (.tuple #[.bool true, .int .i64 0]) ∧ ∃ n, w' = w.drewN n := fun w => by
                  have := may_any k p V0.out hV w
                  rw [hmp] at this
                  exact this
                have lxp : ∀ w, Calls Try.prog 21 #[.int .i64 x, .int .i64 p] w fun e w' => e = .returned (.bool true) ∧ ∃ n, w' = w.drewN n := fun w => by
                  have := least_any x p w
                  rw [hxp] at this
                  exact this
                have HAT := Aside0.mk hat
                have HORD := Aside0.mk hord
                have HBE := Aside0.mk hbe
                clear hp hpx hxp hmp hV hat hord hbe
                have fin : ∀ b : Bool, b = (o || lb p y) → b = (l.take (kk + 1)).any (fun p => lb p y) := fun b hb => by rw [hb, HAT.out]
                have FIN := Aside0.mk fin
                clear fin
                obtain ⟨z, hz⟩ : ∃ z, z = lb p y := ⟨_, rfl⟩
                have lpy : ∀ w, Calls Try.prog 21 #[.int .i64 p, .int .i64 y] w fun e w' => e = .returned (.bool z) ∧ ∃ n, w' = w.drewN n := fun w => by
                  have := least_any p y w
                  rw [← hz] at this
                  exact this
                have FZ : Aside0 (∀ b : Bool, b = (o || z) → b = (l.take (kk + 1)).any (fun p => lb p y)) := ⟨fun b hb => FIN.out b (by rw [hb, hz])⟩
                clear FIN hz
                rcases (show (y == p) = true ∨ (y == p) = false by cases (y == p) <;> simp) with g | g
                · have g2 : (y != p) = false := by simpa using g
                  have lyp := least_any y p
                  by_cases h0 : kk = 0
                  · have f3 : decide (0 < kk) = false := decide_eq_false (by omega)
                    have f4 : kk ≤ 0 := by omega
                    have H0 := Aside0.mk h0
                    clear h0 HORD
                    cases o with
                    | true =>
                      go_wp2_with (first | (go_at_call 14; (with_reducible refine (mayp _).mono ?_); rintro e w2 ⟨rfl, ⟨nd2, rfl⟩⟩) | (go_at_call 21; (with_reducible refine (lxp _).mono ?_); rintro e w2 ⟨rfl, ⟨nd2, rfl⟩⟩) | (go_at_call 21; (with_reducible refine (lpy _).mono ?_); rintro e w2 ⟨rfl, ⟨nd2, rfl⟩⟩) | (go_at_call 21; (with_reducible refine (lyp _).mono ?_); rintro e w2 ⟨rfl, ⟨nd2, rfl⟩⟩))
                      go_quiet ((first | (go_at_call 14; exact Calls.quiet_of (mayp _)) | (go_at_call 14; exact quiet_add (mayp _)) | (go_at_call 21; exact Calls.quiet_of (lxp _)) | (go_at_call 21; exact quiet_add (lxp _))))
                      go_wp2_with (first | (go_at_call 14; (with_reducible refine (mayp _).mono ?_); rintro e w2 ⟨rfl, ⟨nd2, rfl⟩⟩) | (go_at_call 21; (with_reducible refine (lxp _).mono ?_); rintro e w2 ⟨rfl, ⟨nd2, rfl⟩⟩) | (go_at_call 21; (with_reducible refine (lpy _).mono ?_); rintro e w2 ⟨rfl, ⟨nd2, rfl⟩⟩) | (go_at_call 21; (with_reducible refine (lyp _).mono ?_); rintro e w2 ⟨rfl, ⟨nd2, rfl⟩⟩))
                      go_roundg (l.length - (kk + 1))
                      case measure => omega
                      case rel => exact ⟨kk + 1, _, _, by omega, by omega, by go_num, rfl, rfl, ⟨FZ.out _ (by simp)⟩⟩
                    | false =>
                      go_wp2_with (first | (go_at_call 14; (with_reducible refine (mayp _).mono ?_); rintro e w2 ⟨rfl, ⟨nd2, rfl⟩⟩) | (go_at_call 21; (with_reducible refine (lxp _).mono ?_); rintro e w2 ⟨rfl, ⟨nd2, rfl⟩⟩) | (go_at_call 21; (with_reducible refine (lpy _).mono ?_); rintro e w2 ⟨rfl, ⟨nd2, rfl⟩⟩) | (go_at_call 21; (with_reducible refine (lyp _).mono ?_); rintro e w2 ⟨rfl, ⟨nd2, rfl⟩⟩))
                      go_quiet ((first | (go_at_call 14; exact Calls.quiet_of (mayp _)) | (go_at_call 14; exact quiet_add (mayp _)) | (go_at_call 21; exact Calls.quiet_of (lxp _)) | (go_at_call 21; exact quiet_add (lxp _))))
                      go_wp2_with (first | (go_at_call 14; (with_reducible refine (mayp _).mono ?_); rintro e w2 ⟨rfl, ⟨nd2, rfl⟩⟩) | (go_at_call 21; (with_reducible refine (lxp _).mono ?_); rintro e w2 ⟨rfl, ⟨nd2, rfl⟩⟩) | (go_at_call 21; (with_reducible refine (lpy _).mono ?_); rintro e w2 ⟨rfl, ⟨nd2, rfl⟩⟩) | (go_at_call 21; (with_reducible refine (lyp _).mono ?_); rintro e w2 ⟨rfl, ⟨nd2, rfl⟩⟩))
                      go_roundg (l.length - (kk + 1))
                      case measure => omega
                      case rel => exact ⟨kk + 1, _, _, by omega, by omega, by go_num, rfl, rfl, ⟨FZ.out _ (by simp)⟩⟩
                  · obtain ⟨ad2, e2, hcell2⟩ := Kd.at_int HC.out ((kk - 1 : Nat) : Int) (by omega) (by omega)
                    obtain rfl : ad = ad2 := by simpa using e2
                    simp only [Int.toNat_natCast] at hcell2
                    have hq : rd l ((kk - 1 : Nat) : Int) < p := by
                      rcases HORD.out with g | g
                      · exact absurd g h0
                      · rwa [show ((kk - 1 : Nat) : Int) = (kk : Int) - 1 by omega]
                    generalize rd l ((kk - 1 : Nat) : Int) = pq at hq hcell2
                    have hk1 : ((kk : Int) - 1) = ((kk - 1 : Nat) : Int) := by omega
                    have f3 : decide (p ≤ pq) = false := decide_eq_false (by omega)
                    have hpos : 0 < kk := by omega
                    clear hq h0
                    cases o with
                    | true =>
                      go_wp2_with (first | (go_at_call 14; (with_reducible refine (mayp _).mono ?_); rintro e w2 ⟨rfl, ⟨nd2, rfl⟩⟩) | (go_at_call 21; (with_reducible refine (lxp _).mono ?_); rintro e w2 ⟨rfl, ⟨nd2, rfl⟩⟩) | (go_at_call 21; (with_reducible refine (lpy _).mono ?_); rintro e w2 ⟨rfl, ⟨nd2, rfl⟩⟩) | (go_at_call 21; (with_reducible refine (lyp _).mono ?_); rintro e w2 ⟨rfl, ⟨nd2, rfl⟩⟩))
                      go_quiet ((first | (go_at_call 14; exact Calls.quiet_of (mayp _)) | (go_at_call 14; exact quiet_add (mayp _)) | (go_at_call 21; exact Calls.quiet_of (lxp _)) | (go_at_call 21; exact quiet_add (lxp _))))
                      go_wp2_with (first | (go_at_call 14; (with_reducible refine (mayp _).mono ?_); rintro e w2 ⟨rfl, ⟨nd2, rfl⟩⟩) | (go_at_call 21; (with_reducible refine (lxp _).mono ?_); rintro e w2 ⟨rfl, ⟨nd2, rfl⟩⟩) | (go_at_call 21; (with_reducible refine (lpy _).mono ?_); rintro e w2 ⟨rfl, ⟨nd2, rfl⟩⟩) | (go_at_call 21; (with_reducible refine (lyp _).mono ?_); rintro e w2 ⟨rfl, ⟨nd2, rfl⟩⟩))
                      go_roundg (l.length - (kk + 1))
                      case measure => omega
                      case rel => exact ⟨kk + 1, _, _, by omega, by omega, by go_num, rfl, rfl, ⟨FZ.out _ (by simp)⟩⟩
                    | false =>
                      go_wp2_with (first | (go_at_call 14; (with_reducible refine (mayp _).mono ?_); rintro e w2 ⟨rfl, ⟨nd2, rfl⟩⟩) | (go_at_call 21; (with_reducible refine (lxp _).mono ?_); rintro e w2 ⟨rfl, ⟨nd2, rfl⟩⟩) | (go_at_call 21; (with_reducible refine (lpy _).mono ?_); rintro e w2 ⟨rfl, ⟨nd2, rfl⟩⟩) | (go_at_call 21; (with_reducible refine (lyp _).mono ?_); rintro e w2 ⟨rfl, ⟨nd2, rfl⟩⟩))
                      go_quiet ((first | (go_at_call 14; exact Calls.quiet_of (mayp _)) | (go_at_call 14; exact quiet_add (mayp _)) | (go_at_call 21; exact Calls.quiet_of (lxp _)) | (go_at_call 21; exact quiet_add (lxp _))))
                      go_wp2_with (first | (go_at_call 14; (with_reducible refine (mayp _).mono ?_); rintro e w2 ⟨rfl, ⟨nd2, rfl⟩⟩) | (go_at_call 21; (with_reducible refine (lxp _).mono ?_); rintro e w2 ⟨rfl, ⟨nd2, rfl⟩⟩) | (go_at_call 21; (with_reducible refine (lpy _).mono ?_); rintro e w2 ⟨rfl, ⟨nd2, rfl⟩⟩) | (go_at_call 21; (with_reducible refine (lyp _).mono ?_); rintro e w2 ⟨rfl, ⟨nd2, rfl⟩⟩))
                      go_roundg (l.length - (kk + 1))
                      case measure => omega
                      case rel => exact ⟨kk + 1, _, _, by omega, by omega, by go_num, rfl, rfl, ⟨FZ.out _ (by simp)⟩⟩
                · have g2 : (y != p) = true := by simpa using g
                  have hyp : lb y p = false := by
                    rcases HBE.out with (h | h) | h
                    · exact absurd h (fun hh => by rw [hh] at HBL2; exact absurd HBL2.out (by decide))
                    · exact absurd (by simpa using h) (by simpa using g)
                    · exact h
                  have lyp : ∀ w, Calls Try.prog 21 #[.int .i64 y, .int .i64 p] w fun e w' => e = .returned (.bool false) ∧ ∃ n, w' = w.drewN n := fun w => by
                    have := least_any y p w
                    rw [hyp] at this
                    exact this
                  clear hyp
                  by_cases h0 : kk = 0
                  · have f3 : decide (0 < kk) = false := decide_eq_false (by omega)
                    have f4 : kk ≤ 0 := by omega
                    have H0 := Aside0.mk h0
                    clear h0 HORD
                    cases o with
                    | true =>
                      go_wp2_with (first | (go_at_call 14; (with_reducible refine (mayp _).mono ?_); rintro e w2 ⟨rfl, ⟨nd2, rfl⟩⟩) | (go_at_call 21; (with_reducible refine (lxp _).mono ?_); rintro e w2 ⟨rfl, ⟨nd2, rfl⟩⟩) | (go_at_call 21; (with_reducible refine (lpy _).mono ?_); rintro e w2 ⟨rfl, ⟨nd2, rfl⟩⟩) | (go_at_call 21; (with_reducible refine (lyp _).mono ?_); rintro e w2 ⟨rfl, ⟨nd2, rfl⟩⟩))
                      go_quiet ((first | (go_at_call 14; exact Calls.quiet_of (mayp _)) | (go_at_call 14; exact quiet_add (mayp _)) | (go_at_call 21; exact Calls.quiet_of (lxp _)) | (go_at_call 21; exact quiet_add (lxp _))))
                      go_wp2_with (first | (go_at_call 14; (with_reducible refine (mayp _).mono ?_); rintro e w2 ⟨rfl, ⟨nd2, rfl⟩⟩) | (go_at_call 21; (with_reducible refine (lxp _).mono ?_); rintro e w2 ⟨rfl, ⟨nd2, rfl⟩⟩) | (go_at_call 21; (with_reducible refine (lpy _).mono ?_); rintro e w2 ⟨rfl, ⟨nd2, rfl⟩⟩) | (go_at_call 21; (with_reducible refine (lyp _).mono ?_); rintro e w2 ⟨rfl, ⟨nd2, rfl⟩⟩))
                      go_roundg (l.length - (kk + 1))
                      case measure => omega
                      case rel => exact ⟨kk + 1, _, _, by omega, by omega, by go_num, rfl, rfl, ⟨FZ.out _ (by simp)⟩⟩
                    | false =>
                      go_wp2_with (first | (go_at_call 14; (with_reducible refine (mayp _).mono ?_); rintro e w2 ⟨rfl, ⟨nd2, rfl⟩⟩) | (go_at_call 21; (with_reducible refine (lxp _).mono ?_); rintro e w2 ⟨rfl, ⟨nd2, rfl⟩⟩) | (go_at_call 21; (with_reducible refine (lpy _).mono ?_); rintro e w2 ⟨rfl, ⟨nd2, rfl⟩⟩) | (go_at_call 21; (with_reducible refine (lyp _).mono ?_); rintro e w2 ⟨rfl, ⟨nd2, rfl⟩⟩))
                      go_quiet ((first | (go_at_call 14; exact Calls.quiet_of (mayp _)) | (go_at_call 14; exact quiet_add (mayp _)) | (go_at_call 21; exact Calls.quiet_of (lxp _)) | (go_at_call 21; exact quiet_add (lxp _))))
                      go_wp2_with (first | (go_at_call 14; (with_reducible refine (mayp _).mono ?_); rintro e w2 ⟨rfl, ⟨nd2, rfl⟩⟩) | (go_at_call 21; (with_reducible refine (lxp _).mono ?_); rintro e w2 ⟨rfl, ⟨nd2, rfl⟩⟩) | (go_at_call 21; (with_reducible refine (lpy _).mono ?_); rintro e w2 ⟨rfl, ⟨nd2, rfl⟩⟩) | (go_at_call 21; (with_reducible refine (lyp _).mono ?_); rintro e w2 ⟨rfl, ⟨nd2, rfl⟩⟩))
                      go_roundg (l.length - (kk + 1))
                      case measure => omega
                      case rel => exact ⟨kk + 1, _, _, by omega, by omega, by go_num, rfl, rfl, ⟨FZ.out _ (by simp)⟩⟩
                  · obtain ⟨ad2, e2, hcell2⟩ := Kd.at_int HC.out ((kk - 1 : Nat) : Int) (by omega) (by omega)
                    obtain rfl : ad = ad2 := by simpa using e2
                    simp only [Int.toNat_natCast] at hcell2
                    have hq : rd l ((kk - 1 : Nat) : Int) < p := by
                      rcases HORD.out with g | g
                      · exact absurd g h0
                      · rwa [show ((kk - 1 : Nat) : Int) = (kk : Int) - 1 by omega]
                    generalize rd l ((kk - 1 : Nat) : Int) = pq at hq hcell2
                    have hk1 : ((kk : Int) - 1) = ((kk - 1 : Nat) : Int) := by omega
                    have f3 : decide (p ≤ pq) = false := decide_eq_false (by omega)
                    have hpos : 0 < kk := by omega
                    clear hq h0
                    cases o with
                    | true =>
                      go_wp2_with (first | (go_at_call 14; (with_reducible refine (mayp _).mono ?_); rintro e w2 ⟨rfl, ⟨nd2, rfl⟩⟩) | (go_at_call 21; (with_reducible refine (lxp _).mono ?_); rintro e w2 ⟨rfl, ⟨nd2, rfl⟩⟩) | (go_at_call 21; (with_reducible refine (lpy _).mono ?_); rintro e w2 ⟨rfl, ⟨nd2, rfl⟩⟩) | (go_at_call 21; (with_reducible refine (lyp _).mono ?_); rintro e w2 ⟨rfl, ⟨nd2, rfl⟩⟩))
                      go_quiet ((first | (go_at_call 14; exact Calls.quiet_of (mayp _)) | (go_at_call 14; exact quiet_add (mayp _)) | (go_at_call 21; exact Calls.quiet_of (lxp _)) | (go_at_call 21; exact quiet_add (lxp _))))
                      go_wp2_with (first | (go_at_call 14; (with_reducible refine (mayp _).mono ?_); rintro e w2 ⟨rfl, ⟨nd2, rfl⟩⟩) | (go_at_call 21; (with_reducible refine (lxp _).mono ?_); rintro e w2 ⟨rfl, ⟨nd2, rfl⟩⟩) | (go_at_call 21; (with_reducible refine (lpy _).mono ?_); rintro e w2 ⟨rfl, ⟨nd2, rfl⟩⟩) | (go_at_call 21; (with_reducible refine (lyp _).mono ?_); rintro e w2 ⟨rfl, ⟨nd2, rfl⟩⟩))
                      go_roundg (l.length - (kk + 1))
                      case measure => omega
                      case rel => exact ⟨kk + 1, _, _, by omega, by omega, by go_num, rfl, rfl, ⟨FZ.out _ (by simp)⟩⟩
                    | false =>
                      go_wp2_with (first | (go_at_call 14; (with_reducible refine (mayp _).mono ?_); rintro e w2 ⟨rfl, ⟨nd2, rfl⟩⟩) | (go_at_call 21; (with_reducible refine (lxp _).mono ?_); rintro e w2 ⟨rfl, ⟨nd2, rfl⟩⟩) | (go_at_call 21; (with_reducible refine (lpy _).mono ?_); rintro e w2 ⟨rfl, ⟨nd2, rfl⟩⟩) | (go_at_call 21; (with_reducible refine (lyp _).mono ?_); rintro e w2 ⟨rfl, ⟨nd2, rfl⟩⟩))
                      go_quiet ((first | (go_at_call 14; exact Calls.quiet_of (mayp _)) | (go_at_call 14; exact quiet_add (mayp _)) | (go_at_call 21; exact Calls.quiet_of (lxp _)) | (go_at_call 21; exact quiet_add (lxp _))))
                      go_wp2_with (first | (go_at_call 14; (with_reducible refine (mayp _).mono ?_); rintro e w2 ⟨rfl, ⟨nd2, rfl⟩⟩) | (go_at_call 21; (with_reducible refine (lxp _).mono ?_); rintro e w2 ⟨rfl, ⟨nd2, rfl⟩⟩) | (go_at_call 21; (with_reducible refine (lpy _).mono ?_); rintro e w2 ⟨rfl, ⟨nd2, rfl⟩⟩) | (go_at_call 21; (with_reducible refine (lyp _).mono ?_); rintro e w2 ⟨rfl, ⟨nd2, rfl⟩⟩))
                      go_roundg (l.length - (kk + 1))
                      case measure => omega
                      case rel => exact ⟨kk + 1, _, _, by omega, by omega, by go_num, rfl, rfl, ⟨FZ.out _ (by simp)⟩⟩
              · have : kk = l.length := by omega
                subst this
                have hend := HO.out
                rw [List.take_length] at hend
                have HEND := Aside0.mk hend
                clear hend
                obtain rfl : o = true := by rw [HEND.out, HE.out]; exact ok_over k x y V0.out V1.out V2.out HM.out HBL2.out
                go_wp2
                all_goals (go_ret; exact ⟨rfl, by have h3 := HBW.out; repeat (first | exact h3 | apply pw_below_drewN | apply below_drew1)⟩)
    exact key _ rfl
theorem steps_walk (a0 a1 a2 : Int) (w : World) (w0 : (Lit.int .i64 a0).wf = true) (w1 : (Lit.int .i64 a1).wf = true) (w2 : (Lit.int .i64 a2).wf = true) : Calls Try.prog 9 #[.int .i64 a0, .int .i64 a1, .int .i64 a2] w fun e w' => e = .returned (.bool true) ∧ Below w.heap.size w w' :=
  steps_any a0 a1 a2 w
end Go.Proofs.Ytjiblcngjfbcmaa.OwnSteps
