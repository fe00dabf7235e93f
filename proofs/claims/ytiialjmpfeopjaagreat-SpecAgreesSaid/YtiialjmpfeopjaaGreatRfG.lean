/- The document's deeds of sets, of unions and of pairs, walked: plain lemmas; no condition. -/
import Derived.Test.YtiialjmpfeopjaaGreatSm2
import Derived.Test.YtiialjmpfeopjaaGreatRfF
import Derived.BigQuiet
import Derived.Deep.QuietTactic
import Derived.Deep.RegionHeld3
namespace Go.Proofs.YtiialjmpfeopjaaGreat.Sp
open Go.RowKit Go.Sort Go.Proofs.YtiialjmpfeopjaaGreatW.PrintWords Go.Proofs.YtiialjmpfeopjaaGreatW.PrintLast Go.Proofs.YtiialjmpfeopjaaGreatW.PrintMore
set_option linter.unusedVariables false
set_option linter.unusedSimpArgs false
set_option maxHeartbeats 8000000
set_option maxRecDepth 100000
theorem insF_lt {a x : Int} {s : List Int} (h : a < x) : insL (a :: s) x = a :: insL s x := by
  unfold insL
  rw [List.countP_cons_of_pos (by simpa using h)]
  rfl
theorem cnt_zero {x : Int} : ∀ {s : List Int}, (∀ y ∈ s, x ≤ y) → s.countP (· < x) = 0 := fun {s} h => by
  rw [List.countP_eq_zero]
  intro y hy
  have := h y hy
  simp; omega
theorem insF_ge {x : Int} {s : List Int} (h : ∀ y ∈ s, x ≤ y) : insL s x = x :: s := by
  unfold insL
  rw [cnt_zero h]; rfl
theorem cnt_ins : ∀ {s : List Int} {x : Int} {k : Nat}, s.Pairwise (· ≤ ·) → cntLe s x k → s.take k ++ x :: s.drop k = insL s x
  | [], x, k, _, h => by
    have : k = 0 := by have := h.1; simpa using this
    subst this; rfl
  | a :: s, x, k, hs, h => by
    have h2 := List.pairwise_cons.1 hs
    obtain ⟨h3, h4, h5⟩ := h
    cases k with
    | zero =>
      have ha : ¬ a ≤ x := h5 (by simp)
      rw [insF_ge (fun y hy => (List.mem_cons.1 hy).elim (fun e => by omega) (fun e => by have := h2.1 y e; omega))]
      rfl
    | succ k =>
      have ha : a ≤ x := h4 0 (by omega)
      have ih := cnt_ins (s := s) (x := x) (k := k) h2.2 ⟨by simpa using h3, fun j hj => by have := h4 (j + 1) (by omega); simpa using this, fun hk => by have := h5 (by simpa using hk); simpa using this⟩
      show a :: (s.take k ++ x :: s.drop k) = _
      rw [ih]
      by_cases he : a < x
      · rw [insF_lt he]
      · have hax : a = x := by omega
        subst hax
        rw [insF_ge (s := a :: s) (fun y hy => (List.mem_cons.1 hy).elim (fun e => by omega) (fun e => by have := h2.1 y e; omega)), insF_ge (fun y hy => h2.1 y hy)]
theorem place_cons_ne {a x : Int} {s : List Int} (h : a ≠ x) (hm : x ∈ s) : placeI (a :: s) x = placeI s x + 1 := by
  obtain ⟨p1, p2, p3⟩ := place_mem hm
  cases hf : s.findIdx? (fun y => y == x) with
  | none =>
    rw [List.findIdx?_eq_none_iff] at hf
    have := hf x hm
    simp at this
  | some k =>
    have e1 : placeI s x = k := by unfold placeI; rw [hf]
    have e2 : placeI (a :: s) x = ((k + 1 : Nat) : Int) := by
      unfold placeI
      rw [List.findIdx?_cons, show (a == x) = false from by simpa using h, hf]; rfl
    rw [e1, e2]; push_cast; rfl
theorem place_cnt : ∀ {s : List Int} {x : Int}, s.Pairwise (· ≤ ·) → x ∈ s → (placeI s x).toNat = s.countP (· < x)
  | [], x, _, h => by cases h
  | a :: s, x, hs, h => by
    have h2 := List.pairwise_cons.1 hs
    by_cases e : a = x
    · subst e
      rw [cnt_zero (fun y hy => (List.mem_cons.1 hy).elim (fun e => by omega) (fun e => by have := h2.1 y e; omega))]
      unfold placeI
      rw [List.findIdx?_cons, show (a == a) = true from by simp]; rfl
    · have hm : x ∈ s := (List.mem_cons.1 h).elim (fun q => absurd q.symm e) id
      have hlt : a < x := by have := h2.1 x hm; omega
      have p := place_mem hm
      rw [place_cons_ne e hm, List.countP_cons_of_pos (by simpa using hlt), ← place_cnt h2.2 hm]
      omega
theorem ref_flag (b : Bool) (w : World) : Calls Tryz.prog 74 #[.bool b] w fun e w' => e = .returned (.int .i64 (if b = true then 1 else 0)) ∧ w' = w := by
  cases b with
  | true =>
    go_enter Tryz.func74, Tryz.ntmps74
    go_wp2
    go_ret
    exact ⟨rfl, rfl⟩
  | false =>
    go_enter Tryz.func74, Tryz.ntmps74
    go_wp2
    go_ret
    exact ⟨rfl, rfl⟩
def takenR (s : List Int) (a : Int) : Int × List Int := if s = [] then (-1, []) else (s.getD a.toNat 0, s.eraseIdx a.toNat)
theorem ref_taken (A : Option Addr) (c : Nat) (s : List Int) (a : Int) (w : World) (hr : Rd w A s) (hc : s.length ≤ c) (hl : s.length ≤ 1000000) (ha : s ≠ [] → 0 ≤ a ∧ a < s.length) :
    Calls Tryz.prog 42 #[.slice A s.length c, .int .i64 a] w fun e w' => ∃ v, e = .returned (.tuple #[v, .int .i64 (takenR s a).1]) ∧ Own w' w.heap.size v (takenR s a).2 ∧ Below w.heap.size w w' := by
  by_cases hz : s = []
  · subst hz
    have h0 : (([] : List Int).length : Int) = 0 := rfl
    clear hr hc hl ha
    go_enter Tryz.func42, Tryz.ntmps42
    go_wp2
    refine bodyPost_ret (v := .tuple #[.slice none 0 0, .int .i64 (-1)]) (by simp [results, Tryz.results42, go_sem]) rfl ⟨_, rfl, own_none _ _, Below.refl _ _⟩
  · obtain ⟨h0, h1⟩ := ha hz
    have hW := Aside0.mk (ref_without A c s a w.drew (hr.below (below_drew1 (Below.refl _ _))) hc hl h0 h1)
    have e : takenR s a = (s.getD a.toNat 0, s.eraseIdx a.toNat) := by unfold takenR; rw [if_neg hz]
    rw [e]
    obtain ⟨ad, rfl, hcc⟩ := hr.at a.toNat (by omega)
    have HC := Aside0.mk hcc
    generalize s.getD a.toNat 0 = z at *
    generalize s.eraseIdx a.toNat = l at *
    have hne : ((s.length : Int) == 0) = false := by
      have : 0 < s.length := (by cases s with | nil => exact absurd rfl hz | cons a r => simp)
      simp; omega
    have c1 : w.drew.cell? (ad.add a.toNat) = some (.int .i64 z) := hcc
    clear hr hc hl ha hz e hcc
    go_enter Tryz.func42, Tryz.ntmps42
    go_wp2
    go_region_held3 (fun X => X.cell? (ad.add a.toNat) = some (.int .i64 z)) (first | go_keep | exact c1 | exact c2) (first | (go_at_call 31; refine (hW.out).mono ?_; rintro e w2 ⟨v2, rfl, ho, hb⟩; have HO := Aside0.mk ho; have B2 := Aside0.mk (show Below w.heap.size w w2 from (below_drew1 (Below.refl _ _)).trans hb); have c2 := (B2.out.cell (World.block_lt_of_cell? w _ HC.out)).trans HC.out; clear ho hb))
    all_goals
      go_wp2
      go_ret2
      exact ⟨_, rfl, HO.out, B2.out⟩
theorem al1w (w : World) (o : Obj) : Below w.heap.size w (w.alloc o) := (Below.refl _ _).alloc (Nat.le_refl _) o
theorem set_add (A : Option Addr) (c : Nat) (s : List Int) (op : ByteArray) (x y : Int) (w : World) (hr : Rd w A s) (hc : s.length ≤ c) (hl : s.length ≤ 1000) (q1 : (op.toList == [97, 100, 100]) = true) (hs : s.Pairwise (· ≤ ·)) :
    Calls Tryz.prog 43 #[.slice A s.length c, .agg #[.string op, .int .i64 x, .int .i64 y]] w fun e w' => ∃ v, e = .returned (.tuple #[v, .int .i64 (if x ∈ s then 0 else 1)]) ∧ Own w' w.heap.size v (if x ∈ s then s else insL s x) ∧ Below w.heap.size w w' := by
  have b1 := al1w w (.cells #[.string op, .int .i64 x, .int .i64 y] 24 (0, 0))
  have hr1 : Rd (w.alloc (.cells #[.string op, .int .i64 x, .int .i64 y] 24 (0, 0))) A s := hr.below b1
  have B1 := Aside0.mk b1
  have HPL := Aside0.mk (ref_place A c s x _ hr1)
  have HCL := Aside0.mk (ref_clone A c s _ hr1 (by omega))
  have HST := Aside0.mk (ref_sorted A c s x _ hr1 hc (by omega))
  have HIN := Aside0.mk (fun k (h : cntLe s x k) => cnt_ins hs h)
  by_cases hm : x ∈ s
  · rw [if_pos hm]
    obtain ⟨p, hp⟩ : ∃ p, p = placeI s x := ⟨_, rfl⟩
    rw [← hp] at HPL
    have hp0 : 0 ≤ p := by rw [hp]; exact (place_mem hm).1
    have hpn : ¬ p < 0 := by omega
    try clear hp
    clear hr hr1 hc hl b1
    go_enter Tryz.func43, Tryz.ntmps43
    go_wp2_with (first | (go_at_call 28; refine (HPL.out).mono ?_; rintro e wp ⟨rfl, hw⟩; rw [hw]; clear hw) | (go_at_call 41; refine (HCL.out).mono ?_; rintro e w2 ⟨v2, rfl, ho, hb⟩; have HO := Aside0.mk (ho.lower B1.out.size); have B2 := Aside0.mk (btrans B1.out hb); clear ho hb))
    go_ret2
    exact ⟨_, rfl, HO.out, B2.out⟩
  · rw [if_neg hm]
    rw [place_neg hm] at HPL
    try clear hp
    clear hr hr1 hc hl b1
    go_enter Tryz.func43, Tryz.ntmps43
    go_wp2_with (first | (go_at_call 28; refine (HPL.out).mono ?_; rintro e wp ⟨rfl, hw⟩; rw [hw]; clear hw) | (go_at_call 30; refine (HST.out).mono ?_; rintro e w2 ⟨v2, k, rfl, hk, ho, hb⟩; rw [HIN.out k hk] at ho; have HO := Aside0.mk (ho.lower B1.out.size); have B2 := Aside0.mk (btrans B1.out hb); clear ho hb hk))
    go_ret2
    exact ⟨_, rfl, HO.out, B2.out⟩
theorem set_rem (A : Option Addr) (c : Nat) (s : List Int) (op : ByteArray) (x y : Int) (w : World) (hr : Rd w A s) (hc : s.length ≤ c) (hl : s.length ≤ 1000) (q1 : (op.toList == [97, 100, 100]) = false) (q2 : (op.toList == [114, 101, 109]) = true) (hs : s.Pairwise (· ≤ ·)) :
    Calls Tryz.prog 43 #[.slice A s.length c, .agg #[.string op, .int .i64 x, .int .i64 y]] w fun e w' => ∃ v, e = .returned (.tuple #[v, .int .i64 (if x ∈ s then 1 else 0)]) ∧ Own w' w.heap.size v (if x ∈ s then s.eraseIdx (s.countP (· < x)) else s) ∧ Below w.heap.size w w' := by
  have b1 := al1w w (.cells #[.string op, .int .i64 x, .int .i64 y] 24 (0, 0))
  have hr1 : Rd (w.alloc (.cells #[.string op, .int .i64 x, .int .i64 y] 24 (0, 0))) A s := hr.below b1
  have B1 := Aside0.mk b1
  have HPL := Aside0.mk (ref_place A c s x _ hr1)
  have HCL := Aside0.mk (ref_clone A c s _ hr1 (by omega))
  by_cases hm : x ∈ s
  · rw [if_pos hm]
    obtain ⟨p, hp⟩ : ∃ p, p = placeI s x := ⟨_, rfl⟩
    rw [← hp] at HPL
    have hp0 : 0 ≤ p := by rw [hp]; exact (place_mem hm).1
    have hpn : ¬ p < 0 := by omega
    have HWO := Aside0.mk (ref_without A c s p _ hr1 hc (by omega) hp0 (by rw [hp]; exact (place_mem hm).2.1))
    rw [← place_cnt hs hm, ← hp]
    try clear hp
    clear hr hr1 hc hl b1
    go_enter Tryz.func43, Tryz.ntmps43
    go_wp2_with (first | (go_at_call 28; refine (HPL.out).mono ?_; rintro e wp ⟨rfl, hw⟩; rw [hw]; clear hw) | (go_at_call 31; refine (HWO.out).mono ?_; rintro e w2 ⟨v2, rfl, ho, hb⟩; have HO := Aside0.mk (ho.lower B1.out.size); have B2 := Aside0.mk (btrans B1.out hb); clear ho hb))
    go_ret2
    exact ⟨_, rfl, HO.out, B2.out⟩
  · rw [if_neg hm]
    rw [place_neg hm] at HPL
    try clear hp
    clear hr hr1 hc hl b1
    go_enter Tryz.func43, Tryz.ntmps43
    go_wp2_with (first | (go_at_call 28; refine (HPL.out).mono ?_; rintro e wp ⟨rfl, hw⟩; rw [hw]; clear hw) | (go_at_call 41; refine (HCL.out).mono ?_; rintro e w2 ⟨v2, rfl, ho, hb⟩; have HO := Aside0.mk (ho.lower B1.out.size); have B2 := Aside0.mk (btrans B1.out hb); clear ho hb))
    go_ret2
    exact ⟨_, rfl, HO.out, B2.out⟩
theorem set_has (A : Option Addr) (c : Nat) (s : List Int) (op : ByteArray) (x y : Int) (w : World) (hr : Rd w A s) (hc : s.length ≤ c) (hl : s.length ≤ 1000) (q1 : (op.toList == [97, 100, 100]) = false) (q2 : (op.toList == [114, 101, 109]) = false) (q3 : (op.toList == [104, 97, 115]) = true) :
    Calls Tryz.prog 43 #[.slice A s.length c, .agg #[.string op, .int .i64 x, .int .i64 y]] w fun e w' => ∃ v, e = .returned (.tuple #[v, .int .i64 (if x ∈ s then 1 else 0)]) ∧ Own w' w.heap.size v s ∧ Below w.heap.size w w' := by
  have b1 := al1w w (.cells #[.string op, .int .i64 x, .int .i64 y] 24 (0, 0))
  have hr1 : Rd (w.alloc (.cells #[.string op, .int .i64 x, .int .i64 y] 24 (0, 0))) A s := hr.below b1
  have B1 := Aside0.mk b1
  have HPL := Aside0.mk (ref_place A c s x _ hr1)
  have HCL := Aside0.mk (ref_clone A c s _ hr1 (by omega))
  by_cases hm : x ∈ s
  · rw [if_pos hm]
    obtain ⟨p, hp⟩ : ∃ p, p = placeI s x := ⟨_, rfl⟩
    rw [← hp] at HPL
    have hp0 : 0 ≤ p := by rw [hp]; exact (place_mem hm).1
    have hpn : ¬ p < 0 := by omega
    try clear hp
    clear hr hr1 hc hl b1
    go_enter Tryz.func43, Tryz.ntmps43
    go_wp2_with (first | (go_at_call 28; refine (HPL.out).mono ?_; rintro e wp ⟨rfl, hw⟩; rw [hw]; clear hw) | (go_at_call 41; refine (HCL.out).mono ?_; rintro e w2 ⟨v2, rfl, ho, hb⟩; have HO := Aside0.mk (ho.lower B1.out.size); have B2 := Aside0.mk (btrans B1.out hb); clear ho hb) | (go_at_call 74; refine (ref_flag _ _).mono ?_; rintro e w3 ⟨rfl, hw⟩; rw [hw]; clear hw))
    go_ret2
    exact ⟨_, by simp [hp0], HO.out, B2.out⟩
  · rw [if_neg hm]
    rw [place_neg hm] at HPL
    try clear hp
    clear hr hr1 hc hl b1
    go_enter Tryz.func43, Tryz.ntmps43
    go_wp2_with (first | (go_at_call 28; refine (HPL.out).mono ?_; rintro e wp ⟨rfl, hw⟩; rw [hw]; clear hw) | (go_at_call 41; refine (HCL.out).mono ?_; rintro e w2 ⟨v2, rfl, ho, hb⟩; have HO := Aside0.mk (ho.lower B1.out.size); have B2 := Aside0.mk (btrans B1.out hb); clear ho hb) | (go_at_call 74; refine (ref_flag _ _).mono ?_; rintro e w3 ⟨rfl, hw⟩; rw [hw]; clear hw))
    go_ret2
    exact ⟨_, rfl, HO.out, B2.out⟩
theorem set_all (A : Option Addr) (c : Nat) (s : List Int) (op : ByteArray) (x y : Int) (w : World) (hr : Rd w A s) (hc : s.length ≤ c) (hl : s.length ≤ 1000) (q1 : (op.toList == [97, 100, 100]) = false) (q2 : (op.toList == [114, 101, 109]) = false) (q3 : (op.toList == [104, 97, 115]) = false) (hb : ∀ j, j < s.length → 0 ≤ s.getD j 0 ∧ s.getD j 0 ≤ 15) :
    Calls Tryz.prog 43 #[.slice A s.length c, .agg #[.string op, .int .i64 x, .int .i64 y]] w fun e w' => ∃ v, e = .returned (.tuple #[v, .int .i64 (powS s)]) ∧ Own w' w.heap.size v s ∧ Below w.heap.size w w' := by
  have b1 := al1w w (.cells #[.string op, .int .i64 x, .int .i64 y] 24 (0, 0))
  have hr1 : Rd (w.alloc (.cells #[.string op, .int .i64 x, .int .i64 y] 24 (0, 0))) A s := hr.below b1
  have B1 := Aside0.mk b1
  have HPL := Aside0.mk (ref_place A c s x _ hr1)
  have HCL := Aside0.mk (ref_clone A c s _ hr1 (by omega))
  have hsum := Aside0.mk (powS_le s (fun j hj => (hb j hj).2))
  have HP := Aside0.mk hb
  have HR1 := Aside0.mk hr1
  have HL := Aside0.mk hl
  generalize placeI s x = p at *
  clear hb hr hr1 hc hl b1
  go_enter Tryz.func43, Tryz.ntmps43
  go_wp2_with (first | (go_at_call 28; refine (HPL.out).mono ?_; rintro e wp ⟨rfl, hw⟩; rw [hw]; clear hw))
  go_loopg [7, 8] s.length (fun gg v7 v8 wr => ∃ kk : Nat, kk ≤ s.length ∧ s.length - kk ≤ gg ∧ v8 = .int .i64 kk ∧ v7 = .int .i64 (powS (s.take kk)) ∧ (w.alloc (.cells #[.string op, .int .i64 x, .int .i64 y] 24 (0, 0))) = wr)
  case atStart => exact ⟨0, Nat.zero_le _, by omega, rfl, rfl, rfl⟩
  case round =>
    obtain ⟨kk, hkk, hg, rfl, rfl, hw⟩ := hrel
    subst hw
    by_cases hlt : kk < s.length
    · obtain ⟨ad, rfl, hc⟩ := HR1.out.at kk hlt
      obtain ⟨p1, p2⟩ := HP.out kk hlt
      obtain ⟨q1', q2'⟩ := hsum.out kk hkk
      have hkl := HL.out
      have hsn : powS (s.take (kk + 1)) = powS (s.take kk) + 2 ^ (s.getD kk 0).toNat := by
        rw [List.take_succ_eq_append_getElem hlt, powS_snoc]; simp [hlt]
      have HSN := Aside0.mk hsn
      clear hsn
      generalize powS (s.take kk) = q at *
      generalize s.getD kk 0 = z at *
      obtain ⟨r1, r2⟩ := pow_le z p2
      have hsh : shl .i64 1 z = 2 ^ z.toNat := by
        unfold shl
        rw [Nat.min_eq_left (by have : IntKind.i64.bits = 64 := rfl; omega)]
        rw [Int.one_mul]
        exact IntWalk.i64_in _ (by omega)
      have hx64 : ¬ (64 ≤ z) := by omega
      have hu : IntKind.u64.wrap z = z := by unfold IntKind.wrap; simp [IntKind.signed, IntKind.bits]; omega
      have e1 : IntKind.i64.wrap (2 ^ z.toNat) = 2 ^ z.toNat := IntWalk.i64_in _ (by omega)
      have e2 : IntKind.i64.wrap (q + 2 ^ z.toNat) = q + 2 ^ z.toNat := IntWalk.i64_in _ (by omega)
      skip
      go_wp2
      go_roundg (s.length - (kk + 1))
      case measure => omega
      case rel => exact ⟨kk + 1, by omega, by omega, by go_num, by rw [HSN.out], rfl⟩
    · obtain rfl : kk = s.length := by omega
      rw [List.take_length]
      go_wp2_with (first | (go_at_call 41; refine (HCL.out).mono ?_; rintro e w2 ⟨v2, rfl, ho, hb⟩; have HO := Aside0.mk (ho.lower B1.out.size); have B2 := Aside0.mk (btrans B1.out hb); clear ho hb))
      go_ret2
      exact ⟨_, rfl, HO.out, B2.out⟩
theorem reps2 {R : Int → List Value → Prop} {u v : Int} (h : R u [.int .i64 u]) (h2 : R v [.int .i64 v]) : Reps R 1 [u, v] [.int .i64 u, .int .i64 v] := Reps.one h (Reps.one h2 (Reps.none _ _))
theorem reps1 {R : Int → List Value → Prop} {u : Int} (h : R u [.int .i64 u]) : Reps R 1 [u] [.int .i64 u] := Reps.one h (Reps.none _ _)
theorem pair_put (A : Option Addr) (c : Nat) (s : List Int) (op : ByteArray) (x y : Int) (w : World) (hr : Rd w A s) (hc : s.length ≤ c) (hl : s.length ≤ 1000) (q1 : (op.toList == [112, 117, 116]) = true) (hf : s.getD 0 0 + x ≤ 99) (ha0 : 0 ≤ s.getD 0 0 ∧ s.getD 0 0 ≤ 99) (hb0 : 0 ≤ s.getD 1 0 ∧ s.getD 1 0 ≤ 99) (hl2 : 1 < s.length) (hx : 0 ≤ x ∧ x ≤ 99) :
    Calls Tryz.prog 45 #[.slice A s.length c, .agg #[.string op, .int .i64 x, .int .i64 y]] w fun e w' => ∃ v, e = .returned (.tuple #[v, .int .i64 1]) ∧ Own w' w.heap.size v [s.getD 0 0 + x, s.getD 1 0] ∧ Below w.heap.size w w' := by
  have b1 := al1w w (.cells #[.string op, .int .i64 x, .int .i64 y] 24 (0, 0))
  have hr1 : Rd (w.alloc (.cells #[.string op, .int .i64 x, .int .i64 y] 24 (0, 0))) A s := hr.below b1
  have B1 := Aside0.mk b1
  have HCL := Aside0.mk (fun n => ref_clone A c s ((w.alloc (.cells #[.string op, .int .i64 x, .int .i64 y] 24 (0, 0))).drewN n) (hr1.below (pw_below_drewN (Below.refl _ _) n)) (by omega))
  have BW := Aside0.mk (fun n => (show Below w.heap.size w ((w.alloc (.cells #[.string op, .int .i64 x, .int .i64 y] 24 (0, 0))).drewN n) from pw_below_drewN b1 n))
  obtain ⟨ad, rfl, c0⟩ := hr1.at 0 (by omega)
  obtain ⟨ad', e', c1⟩ := hr1.at 1 (by omega)
  injection e' with e'
  subst e'
  rw [show ad.add 0 = ad from by simp [Addr.add]] at c0
  rw [show ad.add 1 = ⟨ad.block, ad.off + 1, none⟩ from by simp [Addr.add]] at c1
  generalize s.getD 0 0 = a at *
  generalize s.getD 1 0 = b at *
  have hl0 : (0 : Int) < (s.length : Int) := by omega
  have hl0n : 0 < s.length := by omega
  have hl1 : (1 : Int) < (s.length : Int) := by omega
  have hwa : IntKind.i64.wrap (a + x) = a + x := IntWalk.i64_in _ (by omega)
  have hwb : IntKind.i64.wrap (b + x) = b + x := IntWalk.i64_in _ (by omega)
  have hwc : IntKind.i64.wrap (a - x) = a - x := IntWalk.i64_in _ (by omega)
  have hwd : IntKind.i64.wrap (1000 * a) = 1000 * a := IntWalk.i64_in _ (by omega)
  have hwe : IntKind.i64.wrap (1000 * a + b) = 1000 * a + b := IntWalk.i64_in _ (by omega)
  have n1 := heap_alloc_new w (.cells #[.string op, .int .i64 x, .int .i64 y] 24 (0, 0))
  have k1 := Go.Lib.cell_of_heap n1 0
  have k2 := Go.Lib.cell_of_heap n1 1
  have k3 := Go.Lib.cell_of_heap n1 2
  simp only [List.getElem?_toArray, List.getElem?_cons_succ, List.getElem?_cons_zero] at k1 k2 k3
  clear n1 hr hr1 hc hl b1
  go_enter Tryz.func45, Tryz.ntmps45
  go_wp2
  generalize (w.alloc (.cells #[.string op, .int .i64 x, .int .i64 y] 24 (0, 0))) = W2 at *
  go_quiet (fail)
  go_wp2_with (first | ((with_reducible refine gate_dst (N := 30) rfl ?_); refine Kd.R_lit (Kd.int .i64) _ 3 ?hg (N := 30) ?hd (xs := ([a + x, b] : List Int)) (inner := [.int .i64 (a + x), .int .i64 (b)]) (ok := fun _ => True) (okp := fun _ => True) ?hr ?hp (fun _ hk => hk) trivial (Below.refl _ _) (Nat.le_refl _) (by simp) ?_; (case hd => rfl); (case hg => rfl); (case hr => first | (go_simp; done) | (go_simp; rfl)); (case hp => exact (Reps.one (show Kd.M (Kd.int .i64) _ _ _ (a + x) [.int .i64 (a + x)] from rfl) (Reps.one (show Kd.M (Kd.int .i64) _ _ _ (b) [.int .i64 (b)] from rfl) (Reps.none _ _)))); intro v2 w2 ho_ hb_ hg_ hnew_; have HO := Aside0.mk (Own.of_R (Kd.R_lower ho_ (show w.heap.size ≤ _ from (BW.out nq).size))); have B2 := Aside0.mk ((BW.out nq).trans (hb_.mono (BW.out nq).size)); clear hg_ hnew_ hb_ ho_))
  go_ret2
  exact ⟨_, rfl, HO.out, B2.out⟩
theorem pair_putno (A : Option Addr) (c : Nat) (s : List Int) (op : ByteArray) (x y : Int) (w : World) (hr : Rd w A s) (hc : s.length ≤ c) (hl : s.length ≤ 1000) (q1 : (op.toList == [112, 117, 116]) = true) (q2 : (op.toList == [109, 111, 118, 101]) = false) (q3 : (op.toList == [98, 111, 116, 104]) = false) (hf : ¬ s.getD 0 0 + x ≤ 99) (ha0 : 0 ≤ s.getD 0 0 ∧ s.getD 0 0 ≤ 99) (hb0 : 0 ≤ s.getD 1 0 ∧ s.getD 1 0 ≤ 99) (hl2 : 1 < s.length) (hx : 0 ≤ x ∧ x ≤ 99) :
    Calls Tryz.prog 45 #[.slice A s.length c, .agg #[.string op, .int .i64 x, .int .i64 y]] w fun e w' => ∃ v, e = .returned (.tuple #[v, .int .i64 0]) ∧ Own w' w.heap.size v s ∧ Below w.heap.size w w' := by
  have b1 := al1w w (.cells #[.string op, .int .i64 x, .int .i64 y] 24 (0, 0))
  have hr1 : Rd (w.alloc (.cells #[.string op, .int .i64 x, .int .i64 y] 24 (0, 0))) A s := hr.below b1
  have B1 := Aside0.mk b1
  have HCL := Aside0.mk (fun n => ref_clone A c s ((w.alloc (.cells #[.string op, .int .i64 x, .int .i64 y] 24 (0, 0))).drewN n) (hr1.below (pw_below_drewN (Below.refl _ _) n)) (by omega))
  have BW := Aside0.mk (fun n => (show Below w.heap.size w ((w.alloc (.cells #[.string op, .int .i64 x, .int .i64 y] 24 (0, 0))).drewN n) from pw_below_drewN b1 n))
  obtain ⟨ad, rfl, c0⟩ := hr1.at 0 (by omega)
  obtain ⟨ad', e', c1⟩ := hr1.at 1 (by omega)
  injection e' with e'
  subst e'
  rw [show ad.add 0 = ad from by simp [Addr.add]] at c0
  rw [show ad.add 1 = ⟨ad.block, ad.off + 1, none⟩ from by simp [Addr.add]] at c1
  generalize s.getD 0 0 = a at *
  generalize s.getD 1 0 = b at *
  have hl0 : (0 : Int) < (s.length : Int) := by omega
  have hl0n : 0 < s.length := by omega
  have hl1 : (1 : Int) < (s.length : Int) := by omega
  have hwa : IntKind.i64.wrap (a + x) = a + x := IntWalk.i64_in _ (by omega)
  have hwb : IntKind.i64.wrap (b + x) = b + x := IntWalk.i64_in _ (by omega)
  have hwc : IntKind.i64.wrap (a - x) = a - x := IntWalk.i64_in _ (by omega)
  have hwd : IntKind.i64.wrap (1000 * a) = 1000 * a := IntWalk.i64_in _ (by omega)
  have hwe : IntKind.i64.wrap (1000 * a + b) = 1000 * a + b := IntWalk.i64_in _ (by omega)
  have n1 := heap_alloc_new w (.cells #[.string op, .int .i64 x, .int .i64 y] 24 (0, 0))
  have k1 := Go.Lib.cell_of_heap n1 0
  have k2 := Go.Lib.cell_of_heap n1 1
  have k3 := Go.Lib.cell_of_heap n1 2
  simp only [List.getElem?_toArray, List.getElem?_cons_succ, List.getElem?_cons_zero] at k1 k2 k3
  clear n1 hr hr1 hc hl b1
  go_enter Tryz.func45, Tryz.ntmps45
  go_wp2
  generalize (w.alloc (.cells #[.string op, .int .i64 x, .int .i64 y] 24 (0, 0))) = W2 at *
  go_quiet (fail)
  go_wp2_with (first | (go_at_call 41; refine (HCL.out nq).mono ?_; rintro e w2 ⟨v2, rfl, ho, hb⟩; have HO := Aside0.mk (ho.lower (BW.out nq).size); have B2 := Aside0.mk ((BW.out nq).trans (hb.mono (BW.out nq).size)); clear ho hb))
  go_ret2
  exact ⟨_, rfl, HO.out, B2.out⟩
theorem pair_move (A : Option Addr) (c : Nat) (s : List Int) (op : ByteArray) (x y : Int) (w : World) (hr : Rd w A s) (hc : s.length ≤ c) (hl : s.length ≤ 1000) (q1 : (op.toList == [112, 117, 116]) = false) (q2 : (op.toList == [109, 111, 118, 101]) = true) (hf : x ≤ s.getD 0 0) (hf2 : s.getD 1 0 + x ≤ 99) (ha0 : 0 ≤ s.getD 0 0 ∧ s.getD 0 0 ≤ 99) (hb0 : 0 ≤ s.getD 1 0 ∧ s.getD 1 0 ≤ 99) (hl2 : 1 < s.length) (hx : 0 ≤ x ∧ x ≤ 99) :
    Calls Tryz.prog 45 #[.slice A s.length c, .agg #[.string op, .int .i64 x, .int .i64 y]] w fun e w' => ∃ v, e = .returned (.tuple #[v, .int .i64 1]) ∧ Own w' w.heap.size v [s.getD 0 0 - x, s.getD 1 0 + x] ∧ Below w.heap.size w w' := by
  have b1 := al1w w (.cells #[.string op, .int .i64 x, .int .i64 y] 24 (0, 0))
  have hr1 : Rd (w.alloc (.cells #[.string op, .int .i64 x, .int .i64 y] 24 (0, 0))) A s := hr.below b1
  have B1 := Aside0.mk b1
  have HCL := Aside0.mk (fun n => ref_clone A c s ((w.alloc (.cells #[.string op, .int .i64 x, .int .i64 y] 24 (0, 0))).drewN n) (hr1.below (pw_below_drewN (Below.refl _ _) n)) (by omega))
  have BW := Aside0.mk (fun n => (show Below w.heap.size w ((w.alloc (.cells #[.string op, .int .i64 x, .int .i64 y] 24 (0, 0))).drewN n) from pw_below_drewN b1 n))
  obtain ⟨ad, rfl, c0⟩ := hr1.at 0 (by omega)
  obtain ⟨ad', e', c1⟩ := hr1.at 1 (by omega)
  injection e' with e'
  subst e'
  rw [show ad.add 0 = ad from by simp [Addr.add]] at c0
  rw [show ad.add 1 = ⟨ad.block, ad.off + 1, none⟩ from by simp [Addr.add]] at c1
  generalize s.getD 0 0 = a at *
  generalize s.getD 1 0 = b at *
  have hl0 : (0 : Int) < (s.length : Int) := by omega
  have hl0n : 0 < s.length := by omega
  have hl1 : (1 : Int) < (s.length : Int) := by omega
  have hwa : IntKind.i64.wrap (a + x) = a + x := IntWalk.i64_in _ (by omega)
  have hwb : IntKind.i64.wrap (b + x) = b + x := IntWalk.i64_in _ (by omega)
  have hwc : IntKind.i64.wrap (a - x) = a - x := IntWalk.i64_in _ (by omega)
  have hwd : IntKind.i64.wrap (1000 * a) = 1000 * a := IntWalk.i64_in _ (by omega)
  have hwe : IntKind.i64.wrap (1000 * a + b) = 1000 * a + b := IntWalk.i64_in _ (by omega)
  have n1 := heap_alloc_new w (.cells #[.string op, .int .i64 x, .int .i64 y] 24 (0, 0))
  have k1 := Go.Lib.cell_of_heap n1 0
  have k2 := Go.Lib.cell_of_heap n1 1
  have k3 := Go.Lib.cell_of_heap n1 2
  simp only [List.getElem?_toArray, List.getElem?_cons_succ, List.getElem?_cons_zero] at k1 k2 k3
  clear n1 hr hr1 hc hl b1
  go_enter Tryz.func45, Tryz.ntmps45
  go_wp2
  generalize (w.alloc (.cells #[.string op, .int .i64 x, .int .i64 y] 24 (0, 0))) = W2 at *
  go_quiet (fail)
  go_wp2_with (first | ((with_reducible refine gate_dst (N := 56) rfl ?_); refine Kd.R_lit (Kd.int .i64) _ 3 ?hg (N := 56) ?hd (xs := ([a - x, b + x] : List Int)) (inner := [.int .i64 (a - x), .int .i64 (b + x)]) (ok := fun _ => True) (okp := fun _ => True) ?hr ?hp (fun _ hk => hk) trivial (Below.refl _ _) (Nat.le_refl _) (by simp) ?_; (case hd => rfl); (case hg => rfl); (case hr => first | (go_simp; done) | (go_simp; rfl)); (case hp => exact (Reps.one (show Kd.M (Kd.int .i64) _ _ _ (a - x) [.int .i64 (a - x)] from rfl) (Reps.one (show Kd.M (Kd.int .i64) _ _ _ (b + x) [.int .i64 (b + x)] from rfl) (Reps.none _ _)))); intro v2 w2 ho_ hb_ hg_ hnew_; have HO := Aside0.mk (Own.of_R (Kd.R_lower ho_ (show w.heap.size ≤ _ from (BW.out nq).size))); have B2 := Aside0.mk ((BW.out nq).trans (hb_.mono (BW.out nq).size)); clear hg_ hnew_ hb_ ho_))
  go_ret2
  exact ⟨_, rfl, HO.out, B2.out⟩
theorem pair_moveno1 (A : Option Addr) (c : Nat) (s : List Int) (op : ByteArray) (x y : Int) (w : World) (hr : Rd w A s) (hc : s.length ≤ c) (hl : s.length ≤ 1000) (q1 : (op.toList == [112, 117, 116]) = false) (q2 : (op.toList == [109, 111, 118, 101]) = true) (q3 : (op.toList == [98, 111, 116, 104]) = false) (hf : ¬ x ≤ s.getD 0 0) (ha0 : 0 ≤ s.getD 0 0 ∧ s.getD 0 0 ≤ 99) (hb0 : 0 ≤ s.getD 1 0 ∧ s.getD 1 0 ≤ 99) (hl2 : 1 < s.length) (hx : 0 ≤ x ∧ x ≤ 99) :
    Calls Tryz.prog 45 #[.slice A s.length c, .agg #[.string op, .int .i64 x, .int .i64 y]] w fun e w' => ∃ v, e = .returned (.tuple #[v, .int .i64 0]) ∧ Own w' w.heap.size v s ∧ Below w.heap.size w w' := by
  have b1 := al1w w (.cells #[.string op, .int .i64 x, .int .i64 y] 24 (0, 0))
  have hr1 : Rd (w.alloc (.cells #[.string op, .int .i64 x, .int .i64 y] 24 (0, 0))) A s := hr.below b1
  have B1 := Aside0.mk b1
  have HCL := Aside0.mk (fun n => ref_clone A c s ((w.alloc (.cells #[.string op, .int .i64 x, .int .i64 y] 24 (0, 0))).drewN n) (hr1.below (pw_below_drewN (Below.refl _ _) n)) (by omega))
  have BW := Aside0.mk (fun n => (show Below w.heap.size w ((w.alloc (.cells #[.string op, .int .i64 x, .int .i64 y] 24 (0, 0))).drewN n) from pw_below_drewN b1 n))
  obtain ⟨ad, rfl, c0⟩ := hr1.at 0 (by omega)
  obtain ⟨ad', e', c1⟩ := hr1.at 1 (by omega)
  injection e' with e'
  subst e'
  rw [show ad.add 0 = ad from by simp [Addr.add]] at c0
  rw [show ad.add 1 = ⟨ad.block, ad.off + 1, none⟩ from by simp [Addr.add]] at c1
  generalize s.getD 0 0 = a at *
  generalize s.getD 1 0 = b at *
  have hl0 : (0 : Int) < (s.length : Int) := by omega
  have hl0n : 0 < s.length := by omega
  have hl1 : (1 : Int) < (s.length : Int) := by omega
  have hwa : IntKind.i64.wrap (a + x) = a + x := IntWalk.i64_in _ (by omega)
  have hwb : IntKind.i64.wrap (b + x) = b + x := IntWalk.i64_in _ (by omega)
  have hwc : IntKind.i64.wrap (a - x) = a - x := IntWalk.i64_in _ (by omega)
  have hwd : IntKind.i64.wrap (1000 * a) = 1000 * a := IntWalk.i64_in _ (by omega)
  have hwe : IntKind.i64.wrap (1000 * a + b) = 1000 * a + b := IntWalk.i64_in _ (by omega)
  have n1 := heap_alloc_new w (.cells #[.string op, .int .i64 x, .int .i64 y] 24 (0, 0))
  have k1 := Go.Lib.cell_of_heap n1 0
  have k2 := Go.Lib.cell_of_heap n1 1
  have k3 := Go.Lib.cell_of_heap n1 2
  simp only [List.getElem?_toArray, List.getElem?_cons_succ, List.getElem?_cons_zero] at k1 k2 k3
  clear n1 hr hr1 hc hl b1
  go_enter Tryz.func45, Tryz.ntmps45
  go_wp2
  generalize (w.alloc (.cells #[.string op, .int .i64 x, .int .i64 y] 24 (0, 0))) = W2 at *
  go_quiet (fail)
  go_wp2_with (first | (go_at_call 41; refine (HCL.out nq).mono ?_; rintro e w2 ⟨v2, rfl, ho, hb⟩; have HO := Aside0.mk (ho.lower (BW.out nq).size); have B2 := Aside0.mk ((BW.out nq).trans (hb.mono (BW.out nq).size)); clear ho hb))
  go_ret2
  exact ⟨_, rfl, HO.out, B2.out⟩
theorem pair_moveno2 (A : Option Addr) (c : Nat) (s : List Int) (op : ByteArray) (x y : Int) (w : World) (hr : Rd w A s) (hc : s.length ≤ c) (hl : s.length ≤ 1000) (q1 : (op.toList == [112, 117, 116]) = false) (q2 : (op.toList == [109, 111, 118, 101]) = true) (q3 : (op.toList == [98, 111, 116, 104]) = false) (hf : x ≤ s.getD 0 0) (hf2 : ¬ s.getD 1 0 + x ≤ 99) (ha0 : 0 ≤ s.getD 0 0 ∧ s.getD 0 0 ≤ 99) (hb0 : 0 ≤ s.getD 1 0 ∧ s.getD 1 0 ≤ 99) (hl2 : 1 < s.length) (hx : 0 ≤ x ∧ x ≤ 99) :
    Calls Tryz.prog 45 #[.slice A s.length c, .agg #[.string op, .int .i64 x, .int .i64 y]] w fun e w' => ∃ v, e = .returned (.tuple #[v, .int .i64 0]) ∧ Own w' w.heap.size v s ∧ Below w.heap.size w w' := by
  have b1 := al1w w (.cells #[.string op, .int .i64 x, .int .i64 y] 24 (0, 0))
  have hr1 : Rd (w.alloc (.cells #[.string op, .int .i64 x, .int .i64 y] 24 (0, 0))) A s := hr.below b1
  have B1 := Aside0.mk b1
  have HCL := Aside0.mk (fun n => ref_clone A c s ((w.alloc (.cells #[.string op, .int .i64 x, .int .i64 y] 24 (0, 0))).drewN n) (hr1.below (pw_below_drewN (Below.refl _ _) n)) (by omega))
  have BW := Aside0.mk (fun n => (show Below w.heap.size w ((w.alloc (.cells #[.string op, .int .i64 x, .int .i64 y] 24 (0, 0))).drewN n) from pw_below_drewN b1 n))
  obtain ⟨ad, rfl, c0⟩ := hr1.at 0 (by omega)
  obtain ⟨ad', e', c1⟩ := hr1.at 1 (by omega)
  injection e' with e'
  subst e'
  rw [show ad.add 0 = ad from by simp [Addr.add]] at c0
  rw [show ad.add 1 = ⟨ad.block, ad.off + 1, none⟩ from by simp [Addr.add]] at c1
  generalize s.getD 0 0 = a at *
  generalize s.getD 1 0 = b at *
  have hl0 : (0 : Int) < (s.length : Int) := by omega
  have hl0n : 0 < s.length := by omega
  have hl1 : (1 : Int) < (s.length : Int) := by omega
  have hwa : IntKind.i64.wrap (a + x) = a + x := IntWalk.i64_in _ (by omega)
  have hwb : IntKind.i64.wrap (b + x) = b + x := IntWalk.i64_in _ (by omega)
  have hwc : IntKind.i64.wrap (a - x) = a - x := IntWalk.i64_in _ (by omega)
  have hwd : IntKind.i64.wrap (1000 * a) = 1000 * a := IntWalk.i64_in _ (by omega)
  have hwe : IntKind.i64.wrap (1000 * a + b) = 1000 * a + b := IntWalk.i64_in _ (by omega)
  have n1 := heap_alloc_new w (.cells #[.string op, .int .i64 x, .int .i64 y] 24 (0, 0))
  have k1 := Go.Lib.cell_of_heap n1 0
  have k2 := Go.Lib.cell_of_heap n1 1
  have k3 := Go.Lib.cell_of_heap n1 2
  simp only [List.getElem?_toArray, List.getElem?_cons_succ, List.getElem?_cons_zero] at k1 k2 k3
  clear n1 hr hr1 hc hl b1
  go_enter Tryz.func45, Tryz.ntmps45
  go_wp2
  generalize (w.alloc (.cells #[.string op, .int .i64 x, .int .i64 y] 24 (0, 0))) = W2 at *
  go_quiet (fail)
  go_wp2_with (first | (go_at_call 41; refine (HCL.out nq).mono ?_; rintro e w2 ⟨v2, rfl, ho, hb⟩; have HO := Aside0.mk (ho.lower (BW.out nq).size); have B2 := Aside0.mk ((BW.out nq).trans (hb.mono (BW.out nq).size)); clear ho hb))
  go_ret2
  exact ⟨_, rfl, HO.out, B2.out⟩
theorem pair_both (A : Option Addr) (c : Nat) (s : List Int) (op : ByteArray) (x y : Int) (w : World) (hr : Rd w A s) (hc : s.length ≤ c) (hl : s.length ≤ 1000) (q1 : (op.toList == [112, 117, 116]) = false) (q2 : (op.toList == [109, 111, 118, 101]) = false) (q3 : (op.toList == [98, 111, 116, 104]) = true) (ha0 : 0 ≤ s.getD 0 0 ∧ s.getD 0 0 ≤ 99) (hb0 : 0 ≤ s.getD 1 0 ∧ s.getD 1 0 ≤ 99) (hl2 : 1 < s.length) (hx : 0 ≤ x ∧ x ≤ 99) :
    Calls Tryz.prog 45 #[.slice A s.length c, .agg #[.string op, .int .i64 x, .int .i64 y]] w fun e w' => ∃ v, e = .returned (.tuple #[v, .int .i64 (1000 * s.getD 0 0 + s.getD 1 0)]) ∧ Own w' w.heap.size v s ∧ Below w.heap.size w w' := by
  have b1 := al1w w (.cells #[.string op, .int .i64 x, .int .i64 y] 24 (0, 0))
  have hr1 : Rd (w.alloc (.cells #[.string op, .int .i64 x, .int .i64 y] 24 (0, 0))) A s := hr.below b1
  have B1 := Aside0.mk b1
  have HCL := Aside0.mk (fun n => ref_clone A c s ((w.alloc (.cells #[.string op, .int .i64 x, .int .i64 y] 24 (0, 0))).drewN n) (hr1.below (pw_below_drewN (Below.refl _ _) n)) (by omega))
  have BW := Aside0.mk (fun n => (show Below w.heap.size w ((w.alloc (.cells #[.string op, .int .i64 x, .int .i64 y] 24 (0, 0))).drewN n) from pw_below_drewN b1 n))
  obtain ⟨ad, rfl, c0⟩ := hr1.at 0 (by omega)
  obtain ⟨ad', e', c1⟩ := hr1.at 1 (by omega)
  injection e' with e'
  subst e'
  rw [show ad.add 0 = ad from by simp [Addr.add]] at c0
  rw [show ad.add 1 = ⟨ad.block, ad.off + 1, none⟩ from by simp [Addr.add]] at c1
  generalize s.getD 0 0 = a at *
  generalize s.getD 1 0 = b at *
  have hl0 : (0 : Int) < (s.length : Int) := by omega
  have hl0n : 0 < s.length := by omega
  have hl1 : (1 : Int) < (s.length : Int) := by omega
  have hwa : IntKind.i64.wrap (a + x) = a + x := IntWalk.i64_in _ (by omega)
  have hwb : IntKind.i64.wrap (b + x) = b + x := IntWalk.i64_in _ (by omega)
  have hwc : IntKind.i64.wrap (a - x) = a - x := IntWalk.i64_in _ (by omega)
  have hwd : IntKind.i64.wrap (1000 * a) = 1000 * a := IntWalk.i64_in _ (by omega)
  have hwe : IntKind.i64.wrap (1000 * a + b) = 1000 * a + b := IntWalk.i64_in _ (by omega)
  have n1 := heap_alloc_new w (.cells #[.string op, .int .i64 x, .int .i64 y] 24 (0, 0))
  have k1 := Go.Lib.cell_of_heap n1 0
  have k2 := Go.Lib.cell_of_heap n1 1
  have k3 := Go.Lib.cell_of_heap n1 2
  simp only [List.getElem?_toArray, List.getElem?_cons_succ, List.getElem?_cons_zero] at k1 k2 k3
  clear n1 hr hr1 hc hl b1
  go_enter Tryz.func45, Tryz.ntmps45
  go_wp2
  generalize (w.alloc (.cells #[.string op, .int .i64 x, .int .i64 y] 24 (0, 0))) = W2 at *
  go_quiet (fail)
  go_wp2_with (first | (go_at_call 41; refine (HCL.out nq).mono ?_; rintro e w2 ⟨v2, rfl, ho, hb⟩; have HO := Aside0.mk (ho.lower (BW.out nq).size); have B2 := Aside0.mk ((BW.out nq).trans (hb.mono (BW.out nq).size)); clear ho hb))
  go_ret2
  exact ⟨_, rfl, HO.out, B2.out⟩
def bothI (a b x : Int) : Int := if x = a ∨ x = b then min a b else x
theorem both_join (a b : Int) (h : a ≠ b) : bothI a b = joinI a b := by
  funext x; unfold bothI joinI
  by_cases h1 : x = a <;> by_cases h2 : x = b <;> by_cases h3 : x = max a b <;> simp_all <;> omega
theorem both_same (a : Int) (s : List Int) : s.map (bothI a a) = s := by
  have : bothI a a = id := by funext x; unfold bothI; by_cases h : x = a <;> simp_all
  rw [this, List.map_id]
def united2 (a b : Int) (s : List Int) (k : Nat) : List Int := (s.take k).map (bothI a b) ++ s.drop k
theorem united2_len (a b : Int) (s : List Int) (k : Nat) (hk : k ≤ s.length) : (united2 a b s k).length = s.length := by simp [united2]; omega
theorem united2_at (a b : Int) (s : List Int) (k : Nat) (hk : k < s.length) : (united2 a b s k).getD k 0 = s.getD k 0 := by
  unfold united2
  have h1 : ((s.take k).map (bothI a b)).length = k := by simp; omega
  simp only [List.getD_eq_getElem?_getD]
  rw [List.getElem?_append_right (by omega), h1, Nat.sub_self, List.getElem?_drop, Nat.add_zero]
theorem united2_succ (a b : Int) (s : List Int) (k : Nat) (hk : k < s.length) : united2 a b s (k + 1) = (united2 a b s k).set k (bothI a b (s.getD k 0)) := by
  unfold united2
  have h1 : ((s.take k).map (bothI a b)).length = k := by simp; omega
  rw [List.set_append_right _ _ (by omega), h1, Nat.sub_self, List.drop_eq_getElem_cons hk, List.set_cons_zero, List.take_succ_eq_append_getElem hk, List.map_append]
  simp [hk]
theorem union_same (A : Option Addr) (c : Nat) (s : List Int) (op : ByteArray) (x y : Int) (w : World) (hr : Rd w A s) (hc : s.length ≤ c) (hl : s.length ≤ 1000) (q1 : (op.toList == [115, 97, 109, 101]) = true) (hx : 0 ≤ x ∧ x < s.length) (hy : 0 ≤ y ∧ y < s.length) :
    Calls Tryz.prog 44 #[.slice A s.length c, .agg #[.string op, .int .i64 x, .int .i64 y]] w fun e w' => ∃ v, e = .returned (.tuple #[v, .int .i64 (if s.getD x.toNat 0 = s.getD y.toNat 0 then 1 else 0)]) ∧ Own w' w.heap.size v s ∧ Below w.heap.size w w' := by
  have b1 := al1w w (.cells #[.string op, .int .i64 x, .int .i64 y] 24 (0, 0))
  have hr1 : Rd (w.alloc (.cells #[.string op, .int .i64 x, .int .i64 y] 24 (0, 0))) A s := hr.below b1
  have B1 := Aside0.mk b1
  have HCL := Aside0.mk (ref_clone A c s _ hr1 (by omega))
  have n1 := heap_alloc_new w (.cells #[.string op, .int .i64 x, .int .i64 y] 24 (0, 0))
  have k1 := Go.Lib.cell_of_heap n1 0
  have k2 := Go.Lib.cell_of_heap n1 1
  have k3 := Go.Lib.cell_of_heap n1 2
  simp only [List.getElem?_toArray, List.getElem?_cons_succ, List.getElem?_cons_zero] at k1 k2 k3
  have N1 := Aside0.mk n1
  obtain ⟨ad, rfl, c0⟩ := hr.at x.toNat (by omega)
  obtain ⟨ad', e', c1⟩ := hr.at y.toNat (by omega)
  injection e' with e'
  subst e'
  have C0 := Aside0.mk c0
  have C1 := Aside0.mk c1
  generalize s.getD x.toNat 0 = a at *
  generalize s.getD y.toNat 0 = b at *
  have hx0 : 0 ≤ x := hx.1
  have hx1 : x < (s.length : Int) := hx.2
  have hy0 : 0 ≤ y := hy.1
  have hy1 : y < (s.length : Int) := hy.2
  have hxn : x.toNat < s.length := by omega
  have hyn : y.toNat < s.length := by omega
  have hmx := hr.max
  clear n1 k1 k2 k3 c0 c1 hx hy hr hr1 hc b1
  go_enter Tryz.func44, Tryz.ntmps44
  by_cases e : a = b
  · have hq : (a == b) = true := by simp [e]
    rw [if_pos e]
    clear e
    go_wp2_with (first | (go_at_call 41; refine (HCL.out).mono ?_; rintro e w2 ⟨v2, rfl, ho, hb⟩; obtain ⟨A2, c2, rfl⟩ := ho.slice; have HO := Aside0.mk (ho.lower B1.out.size); have B2 := Aside0.mk (btrans B1.out hb); have n2 := (hb.block _ (blk_lt N1.out)).trans N1.out; have N2 := Aside0.mk n2; have k1 := Go.Lib.cell_of_heap n2 0; have k2 := Go.Lib.cell_of_heap n2 1; have k3 := Go.Lib.cell_of_heap n2 2; simp only [List.getElem?_toArray, List.getElem?_cons_succ, List.getElem?_cons_zero] at k1 k2 k3; have c0 := ((btrans B1.out hb).cell (World.block_lt_of_cell? w _ C0.out)).trans C0.out; have c1 := ((btrans B1.out hb).cell (World.block_lt_of_cell? w _ C1.out)).trans C1.out; clear n2 ho hb))
    go_quiet (fail)
    go_wp2_with (first | (go_at_call 74; refine (ref_flag _ _).mono ?_; rintro e w3 ⟨rfl, hw⟩; rw [hw]; clear hw))
    go_ret2
    exact ⟨_, rfl, Own.drewN_ HO.out, pw_below_drewN B2.out nq⟩
  · have hq : (a == b) = false := by simp [e]
    rw [if_neg e]
    clear e
    go_wp2_with (first | (go_at_call 41; refine (HCL.out).mono ?_; rintro e w2 ⟨v2, rfl, ho, hb⟩; obtain ⟨A2, c2, rfl⟩ := ho.slice; have HO := Aside0.mk (ho.lower B1.out.size); have B2 := Aside0.mk (btrans B1.out hb); have n2 := (hb.block _ (blk_lt N1.out)).trans N1.out; have N2 := Aside0.mk n2; have k1 := Go.Lib.cell_of_heap n2 0; have k2 := Go.Lib.cell_of_heap n2 1; have k3 := Go.Lib.cell_of_heap n2 2; simp only [List.getElem?_toArray, List.getElem?_cons_succ, List.getElem?_cons_zero] at k1 k2 k3; have c0 := ((btrans B1.out hb).cell (World.block_lt_of_cell? w _ C0.out)).trans C0.out; have c1 := ((btrans B1.out hb).cell (World.block_lt_of_cell? w _ C1.out)).trans C1.out; clear n2 ho hb))
    go_quiet (fail)
    go_wp2_with (first | (go_at_call 74; refine (ref_flag _ _).mono ?_; rintro e w3 ⟨rfl, hw⟩; rw [hw]; clear hw))
    go_ret2
    exact ⟨_, rfl, Own.drewN_ HO.out, pw_below_drewN B2.out nq⟩
theorem union_unite (A : Option Addr) (c : Nat) (s : List Int) (op : ByteArray) (x y : Int) (w : World) (hr : Rd w A s) (hc : s.length ≤ c) (hl : s.length ≤ 1000) (q1 : (op.toList == [115, 97, 109, 101]) = false) (hx : 0 ≤ x ∧ x < s.length) (hy : 0 ≤ y ∧ y < s.length) :
    Calls Tryz.prog 44 #[.slice A s.length c, .agg #[.string op, .int .i64 x, .int .i64 y]] w fun e w' => ∃ v, e = .returned (.tuple #[v, .int .i64 (if s.getD x.toNat 0 = s.getD y.toNat 0 then 0 else 1)]) ∧ Own w' w.heap.size v (if s.getD x.toNat 0 = s.getD y.toNat 0 then s else s.map (joinI (s.getD x.toNat 0) (s.getD y.toNat 0))) ∧ Below w.heap.size w w' := by
  have b1 := al1w w (.cells #[.string op, .int .i64 x, .int .i64 y] 24 (0, 0))
  have hr1 : Rd (w.alloc (.cells #[.string op, .int .i64 x, .int .i64 y] 24 (0, 0))) A s := hr.below b1
  have B1 := Aside0.mk b1
  have HCL := Aside0.mk (ref_clone A c s _ hr1 (by omega))
  have n1 := heap_alloc_new w (.cells #[.string op, .int .i64 x, .int .i64 y] 24 (0, 0))
  have k1 := Go.Lib.cell_of_heap n1 0
  have k2 := Go.Lib.cell_of_heap n1 1
  have k3 := Go.Lib.cell_of_heap n1 2
  simp only [List.getElem?_toArray, List.getElem?_cons_succ, List.getElem?_cons_zero] at k1 k2 k3
  have N1 := Aside0.mk n1
  obtain ⟨ad, rfl, c0⟩ := hr.at x.toNat (by omega)
  obtain ⟨ad', e', c1⟩ := hr.at y.toNat (by omega)
  injection e' with e'
  subst e'
  have C0 := Aside0.mk c0
  have C1 := Aside0.mk c1
  generalize s.getD x.toNat 0 = a at *
  generalize s.getD y.toNat 0 = b at *
  have hx0 : 0 ≤ x := hx.1
  have hx1 : x < (s.length : Int) := hx.2
  have hy0 : 0 ≤ y := hy.1
  have hy1 : y < (s.length : Int) := hy.2
  have hxn : x.toNat < s.length := by omega
  have hyn : y.toNat < s.length := by omega
  have hmx := hr.max
  have HRES := Aside0.mk (show s.map (bothI a b) = (if a = b then s else s.map (joinI a b)) from by
    by_cases e : a = b
    · subst e; rw [if_pos rfl, both_same]
    · rw [if_neg e, both_join a b e])
  obtain ⟨rr, hrr⟩ : ∃ rr, rr = (if a = b then (0 : Int) else 1) := ⟨_, rfl⟩
  obtain ⟨ll, hll⟩ : ∃ ll, ll = (if a = b then s else s.map (joinI a b)) := ⟨_, rfl⟩
  rw [← hll] at HRES
  rw [← hrr, ← hll]
  have HRR := Aside0.mk hrr
  clear hrr hll
  clear n1 k1 k2 k3 c0 c1 hx hy hr hr1 hc b1
  go_enter Tryz.func44, Tryz.ntmps44
  go_wp2_with (first | (go_at_call 41; refine (HCL.out).mono ?_; rintro e w2 ⟨v2, rfl, ho, hb⟩; obtain ⟨A2, c2, rfl⟩ := ho.slice; have HO := Aside0.mk (ho.lower B1.out.size); have B2 := Aside0.mk (btrans B1.out hb); have n2 := (hb.block _ (blk_lt N1.out)).trans N1.out; have N2 := Aside0.mk n2; have k1 := Go.Lib.cell_of_heap n2 0; have k2 := Go.Lib.cell_of_heap n2 1; have k3 := Go.Lib.cell_of_heap n2 2; simp only [List.getElem?_toArray, List.getElem?_cons_succ, List.getElem?_cons_zero] at k1 k2 k3; have c0 := ((btrans B1.out hb).cell (World.block_lt_of_cell? w _ C0.out)).trans C0.out; have c1 := ((btrans B1.out hb).cell (World.block_lt_of_cell? w _ C1.out)).trans C1.out; clear n2 ho hb))
  go_quiet (fail)
  go_wp2
  have HO2 : Aside0 (Own w2 w.heap.size (.slice A2 s.length c2) (united2 a b s 0)) := ⟨by unfold united2; simpa using HO.out⟩
  go_loopg [9] s.length (fun gg v9 wr => ∃ kk : Nat, kk ≤ s.length ∧ s.length - kk ≤ gg ∧ v9 = .int .i64 kk ∧ Aside0 (Own wr w.heap.size (.slice A2 s.length c2) (united2 a b s kk)) ∧ Aside0 (Below w.heap.size w wr))
  case atStart => exact ⟨0, Nat.zero_le _, by omega, rfl, ⟨Own.drewN_ HO2.out⟩, ⟨pw_below_drewN B2.out nq⟩⟩
  case round =>
    clear HO2 HO B2 N2 k1 k2 k3 c0 c1
    obtain ⟨kk, hkk, hg, rfl, HO2, HB2⟩ := hrel
    by_cases hlt : kk < s.length
    · have hjl := united2_len a b s kk hkk
      rcases HO2.out.parts with ⟨e2, _⟩ | ⟨bv, cp, cur, e2, h1, h2, h3, h4, h5, h6⟩
      · injection e2 with _ e2 _
        omega
      · injection e2 with e2 e3 e4
        subst e2 e4
        clear e3
        have hcl := row_cell h2 h6 kk (by omega)
        rw [united2_at a b s kk hlt] at hcl
        have hfz := blk_frozen h2 kk
        have hset := own_set HO2.out kk (bothI a b (s.getD kk 0))
        rw [← united2_succ a b s kk hlt] at hset
        have hbl := HB2.out.setCell (p := ⟨bv, kk, none⟩) h1 (.int .i64 (bothI a b (s.getD kk 0)))
        have hns : bothI a b (s.getD kk 0) = s.getD kk 0 → united2 a b s (kk + 1) = united2 a b s kk := fun e => by
          rw [united2_succ a b s kk hlt, e, ← united2_at a b s kk hlt]
          simp [show kk < (united2 a b s kk).length by omega]
        generalize s.getD kk 0 = z at *
        have HSET := Aside0.mk hset
        have HBL := Aside0.mk hbl
        have HNS := Aside0.mk hns
        clear hset hbl hns h1 h2 h3 h4 h5 h6 hjl
        by_cases hz1 : z = a
        · have hzd : (z == a) = true := by simp [hz1]
          have hji : bothI a b z = min a b := by unfold bothI; rw [if_pos (.inl hz1)]
          rw [hji] at HSET HBL
          clear hz1 hji HNS
          go_wp2
          go_roundg (s.length - (kk + 1))
          case measure => omega
          case rel => exact ⟨kk + 1, by omega, by omega, by go_num, HSET, HBL⟩
        · have hzd : (z == a) = false := by simp [hz1]
          by_cases hz2 : z = b
          · have hzd2 : (z == b) = true := by simp [hz2]
            have hji : bothI a b z = min a b := by unfold bothI; rw [if_pos (.inr hz2)]
            rw [hji] at HSET HBL
            clear hz1 hz2 hji HNS
            go_wp2
            go_roundg (s.length - (kk + 1))
            case measure => omega
            case rel => exact ⟨kk + 1, by omega, by omega, by go_num, HSET, HBL⟩
          · have hzd2 : (z == b) = false := by simp [hz2]
            have hji : bothI a b z = z := by unfold bothI; rw [if_neg (by rintro (e | e) <;> contradiction)]
            have HJ := Aside0.mk (HNS.out hji)
            clear hz1 hz2 hji HNS HSET HBL
            go_wp2
            go_roundg (s.length - (kk + 1))
            case measure => omega
            case rel => exact ⟨kk + 1, by omega, by omega, by go_num, by rw [HJ.out]; exact HO2, HB2⟩
    · obtain rfl : kk = s.length := by omega
      have hj : united2 a b s s.length = s.map (bothI a b) := by unfold united2; simp
      rw [hj, HRES.out] at HO2
      by_cases e : a = b
      · have hq : (a != b) = false := by simp [e]
        have HE := Aside0.mk e
        clear e
        go_wp2_with (first | (go_at_call 74; refine (ref_flag _ _).mono ?_; rintro e w3 ⟨rfl, hw⟩; rw [hw]; clear hw))
        go_ret2
        exact ⟨_, by rw [HRR.out, if_pos HE.out]; rfl, HO2.out, HB2.out⟩
      · have hq : (a != b) = true := by simp [e]
        have HE := Aside0.mk e
        clear e
        go_wp2_with (first | (go_at_call 74; refine (ref_flag _ _).mono ?_; rintro e w3 ⟨rfl, hw⟩; rw [hw]; clear hw))
        go_ret2
        exact ⟨_, by rw [HRR.out, if_neg HE.out]; rfl, HO2.out, HB2.out⟩
end Go.Proofs.YtiialjmpfeopjaaGreat.Sp
