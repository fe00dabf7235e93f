/- That a list by priority gives its words in ascending order, and that a bag can give each of its words, and no other: the law, walked; no condition. -/
import Derived.Test.YtiialjmpfeopjaaLrV
import Derived.Test.YtiialjmpfeopjaaPwL
import Derived.BigQuiet
namespace Go.Proofs.Ytiialjmpfeopjaa.LeV
open Go.RowKit Go.Sort Go.Proofs.Ytiialjmpfeopjaa.XSa Go.Proofs.Ytiialjmpfeopjaa.LrV Go.Proofs.Ytiialjmpfeopjaa.Sp Go.Proofs.YtiialjmpfeopjaaW.PrintWords Go.Proofs.YtiialjmpfeopjaaW.PrintLast Go.Proofs.YtiialjmpfeopjaaW.PrintMore
set_option linter.unusedVariables false
set_option linter.unusedSimpArgs false
set_option maxHeartbeats 8000000
set_option maxRecDepth 100000
theorem k27_M (W : World) (base : Nat) (ok : Nat → Prop) (s : ByteArray) (x y : Int) : k27.M W base ok ⟨s, x, y⟩ [.string s, .int .i64 x, .int .i64 y] := ⟨[.string s], [.int .i64 x, .int .i64 y], rfl, rfl, [.int .i64 x], [.int .i64 y], rfl, rfl, rfl⟩
def putL (x : Int) : S27 := ⟨putB, x, 0⟩
def takeL : S27 := ⟨takeB, 0, 0⟩
theorem putL_call (l : List Int) : (l.map putL).map callT = l.map putX := by rw [List.map_map]; rfl
theorem takeL_call (n : Nat) : (List.replicate n takeL).map callT = List.replicate n takeX := by rw [List.map_replicate]; rfl
theorem sumI_app : ∀ (a b : List Int), sumI (a ++ b) = sumI a + sumI b
  | [], b => by show sumI b = 0 + sumI b; omega
  | x :: a, b => by show x + sumI (a ++ b) = x + sumI a + sumI b; rw [sumI_app a b]; omega
theorem sumI_take (l : List Int) (m : Nat) (h : m < l.length) : sumI (l.take (m + 1)) = sumI (l.take m) + l.getD m 0 := by
  rw [List.take_succ_eq_append_getElem h, sumI_app, List.getD_eq_getElem?_getD, List.getElem?_eq_getElem h]
  show _ + (l[m] + 0) = _
  rw [Int.add_zero]; rfl
theorem sumI_bd (l : List Int) (h : ∀ o ∈ l, 0 ≤ o ∧ o ≤ 900) (m : Nat) : 0 ≤ sumI (l.take m) ∧ sumI (l.take m) ≤ 900 * m := by
  induction m with
  | zero => exact ⟨by show (0 : Int) ≤ 0; decide, by show (0 : Int) ≤ 0; decide⟩
  | succ m ih =>
    by_cases hm : m < l.length
    · rw [sumI_take l m hm]
      have := h _ (List.getElem_mem hm)
      rw [List.getD_eq_getElem?_getD, List.getElem?_eq_getElem hm, Option.getD_some]
      omega
    · rw [List.take_of_length_le (by omega)]
      rw [List.take_of_length_le (by omega)] at ih
      omega
theorem getD_bd {l : List Int} (h : ∀ o ∈ l, 0 ≤ o ∧ o ≤ 900) (m : Nat) (hm : m < l.length) : 0 ≤ l.getD m 0 ∧ l.getD m 0 ≤ 900 := by
  rw [List.getD_eq_getElem?_getD, List.getElem?_eq_getElem hm]
  exact h _ (List.getElem_mem hm)
theorem asc_get {l : List Int} (h : l.Pairwise (· ≤ ·)) (i : Nat) (h0 : 0 < i) (hi : i < l.length) : l.getD (i - 1) 0 ≤ l.getD i 0 := by
  rw [List.getD_eq_getElem?_getD, List.getD_eq_getElem?_getD, List.getElem?_eq_getElem hi, List.getElem?_eq_getElem (show i - 1 < l.length by omega)]
  exact List.pairwise_iff_getElem.1 h (i - 1) i (by omega) hi (by omega)
theorem out_get (k : Nat) (z S : List Int) (hz : z.length = k) (i : Nat) (hi : i < S.length) : (z ++ (S ++ [-1])).getD (k + i) 0 = S.getD i 0 := by
  rw [List.getD_eq_getElem?_getD, List.getElem?_append_right (by omega), hz, show k + i - k = i by omega, List.getElem?_append_left hi, ← List.getD_eq_getElem?_getD]
theorem out_last (k : Nat) (z S : List Int) (hz : z.length = k) (hS : S.length = k) : (z ++ (S ++ [-1])).getD (2 * k) 0 = -1 := by
  rw [List.getD_eq_getElem?_getD, List.getElem?_append_right (by omega), hz, show 2 * k - k = k by omega, List.getElem?_append_right (by omega), hS, Nat.sub_self]
  rfl
theorem next_at (A : Option Addr) (c : Nat) (S : List Int) (o : Int) (b : Bool) (n' : List Int) (w : World) (hr : Rd w A S) (hc : S.length ≤ c) (hl : S.length ≤ 24) (h : nextS 6 1 S getB 0 0 3 o = some (n', b, 0)) :
    Calls Try.prog 25 #[.int .i64 6, .int .i64 1, .slice A S.length c, .agg #[.string getB, .int .i64 0, .int .i64 0], .int .i64 3, .int .i64 o] w fun e w' => ∃ A' m c', e = .returned (.tuple #[.slice A' m c', .bool b, .int .i64 0]) ∧ Below w.heap.size w w' := by
  refine (next_calls A c w hr hc (by omega) h).mono ?_
  rintro e w' ⟨v, rfl, ho, hb⟩
  obtain ⟨A', c', rfl⟩ := ho.slice
  exact ⟨_, _, _, rfl, hb⟩
theorem bag_at (A : Option Addr) (c : Nat) (l : List S27) (o s : List Int) (w : World) (hC : Kd.C k27 w A l.length l) (hc : l.length ≤ c) (h : Sp.runS 6 1 (l.map callT) = some (o, s, 0)) (hl : l.length ≤ 1000000) :
    Calls Try.prog 24 #[.int .i64 6, .int .i64 1, .slice A l.length c] w fun e w' => ∃ A1 c1 A2 c2, e = .returned (.tuple #[.slice A1 o.length c1, .slice A2 s.length c2, .int .i64 0]) ∧ Rd w' A2 s ∧ s.length ≤ c2 ∧ Below w.heap.size w w' := by
  refine (spec_Run.calls 6 1 A c l o s 0 w hC hc (by unfold spec_Run.f; rw [if_pos hl, h])).mono ?_
  rintro e w' ⟨v0, v1, rfl, h0, h1, hb⟩
  obtain ⟨A1, c1, rfl⟩ := Kd.R_slice h0
  obtain ⟨A2, c2, rfl⟩ := Kd.R_slice h1
  have h2 := Kd.R_reads' h1
  exact ⟨_, _, _, _, rfl, h2.2.2, by omega, hb⟩
theorem le_walk (A0 : Option Addr) (c0 : Nat) (l0 : List Int) (o : Int) (w : World) (hr : Rd w A0 l0) :
    Calls Try.prog 13 #[.slice A0 l0.length c0, .int .i64 o] w fun e w' => e = .returned (.bool true) ∧ Below w.heap.size w w' := by
  have HR := Aside0.mk hr
  have hmx := hr.max
  clear hr
  go_enter Try.func13, Try.ntmps13
  go_wp2_with (go_at_call 15; refine (locklesslaw18_awake.calls true _ awake_true).mono ?_; rintro e w1 ⟨rfl, hb⟩; have B1 := Aside0.mk hb; clear hb)
  go_loopg [5, 7, 8, 9] l0.length (fun gg v5 v7 v8 v9 wr => ∃ (kk : Nat) (ws : List Int), kk ≤ l0.length ∧ l0.length - kk ≤ gg ∧ v8 = .int .i64 kk ∧ v7 = .bool (ws.any (fun x => x == o)) ∧ ws.length = kk ∧ kk ≤ 11 ∧ Aside0 (∀ x ∈ ws, 0 ≤ x ∧ x ≤ 900) ∧ Aside0 (k27.R 27 wr w.heap.size (fun _ => True) v5 (ws.map putL)) ∧ Aside0 (Below w.heap.size w wr))
  case atStart => exact ⟨0, [], Nat.zero_le _, by omega, rfl, rfl, rfl, by omega, ⟨fun x hx => by cases hx⟩, ⟨Kd.R_nil _ _ _ _ _⟩, B1⟩
  case round =>
    clear B1
    obtain ⟨kk, ws, hkk, hgg, rfl, rfl, hwl, h11, HW, HC, HB⟩ := hrel
    by_cases hlt : kk < l0.length ∧ kk < 11
    · obtain ⟨hlt, h11b⟩ := hlt
      have h11i : (kk : Int) < 11 := by omega
      obtain ⟨ad, rfl, hc⟩ := (HR.out.below HB.out).at kk hlt
      generalize l0.getD kk 0 = z at hc
      have hx := word_mod z 901 (by decide) (by decide)
      obtain ⟨x, hxe⟩ : ∃ x, wrap64 (Int.tmod (IntKind.u64.wrap z) 901) = x := ⟨_, rfl⟩
      rw [hxe] at hx
      have HX := Aside0.mk (show 0 ≤ x ∧ x ≤ 900 by omega)
      have HWL := Aside0.mk hwl
      have HAN := Aside0.mk (show (ws ++ [x]).any (fun x => x == o) = (ws.any (fun x => x == o) || (x == o)) from by rw [List.any_append]; simp)
      generalize ws.any (fun x => x == o) = sn at *
      clear hx hwl
      cases sn with
      | true =>
        go_wp2_with ((with_reducible refine gate_builtin (b := .append) (xs := #[.tmp 40, .tmp 43]) rfl ?_); at_builtin; refine Kd.R_append k27 (w0 := w) (W := wr) w.heap.size rfl (.tmp 40) (.tmp 43) 24 27 (.agg #[.string ⟨#[]⟩, .int .i64 0, .int .i64 0]) 32 rfl Try.underlying24 info27 rfl (by decide) (by omega) u5 (ws.map putL) ⟨putB, x, 0⟩ [.string putB, .int .i64 x, .int .i64 0] (fun _ => True) (fun _ => False) rfl rfl (k27_M _ _ _ _ _ _) (fun _ hk => hk.elim) (fun _ _ => trivial) HC.out HB.out HB.out.size (by rw [List.length_map, HWL.out]; omega) ?_; intro v1 wn ho hb hg hat; have HC3 := Aside0.mk ho; have HB3 := Aside0.mk hb; clear ho hb hg hat)
        go_roundg (l0.length - (kk + 1))
        case measure => omega
        case rel => exact ⟨kk + 1, ws ++ [x], by omega, by omega, by go_num, by rw [HAN.out]; rfl, by rw [List.length_append, HWL.out]; rfl, by omega, ⟨fun y hy => (List.mem_append.1 hy).elim (fun e => HW.out y e) (fun e => by rw [List.mem_singleton.1 e]; exact HX.out)⟩, ⟨by rw [List.map_append]; exact HC3.out⟩, HB3⟩
      | false =>
        go_wp2_with ((with_reducible refine gate_builtin (b := .append) (xs := #[.tmp 40, .tmp 43]) rfl ?_); at_builtin; refine Kd.R_append k27 (w0 := w) (W := wr) w.heap.size rfl (.tmp 40) (.tmp 43) 24 27 (.agg #[.string ⟨#[]⟩, .int .i64 0, .int .i64 0]) 32 rfl Try.underlying24 info27 rfl (by decide) (by omega) u5 (ws.map putL) ⟨putB, x, 0⟩ [.string putB, .int .i64 x, .int .i64 0] (fun _ => True) (fun _ => False) rfl rfl (k27_M _ _ _ _ _ _) (fun _ hk => hk.elim) (fun _ _ => trivial) HC.out HB.out HB.out.size (by rw [List.length_map, HWL.out]; omega) ?_; intro v1 wn ho hb hg hat; have HC3 := Aside0.mk ho; have HB3 := Aside0.mk hb; clear ho hb hg hat)
        go_roundg (l0.length - (kk + 1))
        case measure => omega
        case rel => exact ⟨kk + 1, ws ++ [x], by omega, by omega, by go_num, by rw [HAN.out, Bool.false_or], by rw [List.length_append, HWL.out]; rfl, by omega, ⟨fun y hy => (List.mem_append.1 hy).elim (fun e => HW.out y e) (fun e => by rw [List.mem_singleton.1 e]; exact HX.out)⟩, ⟨by rw [List.map_append]; exact HC3.out⟩, HB3⟩
    · have hk11 : (kk < l0.length ∧ decide ((kk : Int) < 11) = false) ∨ ¬ kk < l0.length := by
        by_cases h : kk < l0.length
        · exact .inl ⟨h, decide_eq_false (fun e => hlt ⟨h, by omega⟩)⟩
        · exact .inr h
      clear hlt
      obtain ⟨S, hSl, hSa, hSs, hSw, hR6, ⟨n6, hN6⟩, s5, hR5⟩ := leasts_run ws (by omega) HW.out o
      obtain ⟨CL, hCL⟩ : ∃ CL, CL = ws.map putL := ⟨_, rfl⟩
      have hcl : CL.length = kk := by rw [hCL, List.length_map, hwl]
      rw [← putL_call, ← hCL] at hR6
      rw [← putL_call, ← takeL_call, ← hCL, ← List.map_append, hwl] at hR5
      rw [hwl] at hN6 hSl
      have HCX := Aside0.mk (fun i (hi : i < kk) => (show (rd_T27 CL (i : Int)).f1 = ws.getD i 0 from by
        unfold rd_T27
        rw [hCL, Int.toNat_natCast, List.getD_eq_getElem?_getD, List.getD_eq_getElem?_getD, List.getElem?_map, List.getElem?_eq_getElem (show i < ws.length by omega)]; rfl))
      rw [← hCL] at HC
      obtain ⟨A3, c3, e3⟩ := Kd.R_slice HC.out
      rw [hcl] at e3
      subst e3
      obtain ⟨L, hL⟩ : ∃ L, L = 2 * kk + 1 := ⟨_, rfl⟩
      obtain ⟨K2, hK2⟩ : ∃ K2, K2 = 2 * kk := ⟨_, rfl⟩
      have H6 := Aside0.mk (show Calls Try.prog 24 #[.int .i64 6, .int .i64 1, .slice A3 kk c3] wr fun e w' => ∃ A1 m1 c1 A2 c2, e = .returned (.tuple #[.slice A1 m1 c1, .slice A2 kk c2, .int .i64 0]) ∧ Rd w' A2 S ∧ kk ≤ c2 ∧ Below wr.heap.size wr w' from by
        have := bag_at A3 c3 CL (ws.map fun _ => 0) S wr (by have := (Kd.R_reads' HC.out).2.2; exact this) (by have := (Kd.R_reads' HC.out); omega) hR6 (by omega)
        rw [hcl] at this
        refine this.mono ?_
        rintro e w' ⟨A1, c1, A2, c2, rfl, h1, h2, hb⟩
        rw [hSl] at h2 ⊢
        exact ⟨_, _, _, _, _, rfl, h1, h2, hb⟩)
      have HN := Aside0.mk (fun (A : Option Addr) (c : Nat) (W : World) (h1 : Rd W A S) (h2 : kk ≤ c) => (show Calls Try.prog 25 #[.int .i64 6, .int .i64 1, .slice A kk c, .agg #[.string getB, .int .i64 0, .int .i64 0], .int .i64 3, .int .i64 o] W fun e w' => ∃ A' m c', e = .returned (.tuple #[.slice A' m c', .bool (ws.any (fun x => x == o) || (decide (kk = 0) && decide (o = -1))), .int .i64 0]) ∧ Below W.heap.size W w' from by
        have := next_at A c S o _ n6 W h1 (by omega) (by omega) hN6
        rw [hSl] at this; exact this))
      have H5 := Aside0.mk (fun (A : Option Addr) (c : Nat) (W : World) (hR : k27.R 27 W w.heap.size (fun _ => True) (.slice A L c) (CL ++ List.replicate (kk + 1) takeL)) => (show Calls Try.prog 16 #[.int .i64 5, .int .i64 1, .slice A L c] W fun e w' => ∃ A' c', e = .returned (.tuple #[.slice A' L c', .bool true]) ∧ Rd w' A' ((ws.map fun _ => 0) ++ (S ++ [-1])) ∧ Below W.heap.size W w' from by
        have hl : (CL ++ List.replicate (kk + 1) takeL).length = L := by rw [List.length_append, hcl, List.length_replicate]; omega
        have hol : ((ws.map fun _ => (0 : Int)) ++ (S ++ [-1])).length = L := by rw [List.length_append, List.length_append, List.length_map, hwl, hSl]; simp; omega
        have := run_at 5 1 A c (CL ++ List.replicate (kk + 1) takeL) ((ws.map fun _ => 0) ++ (S ++ [-1])) s5 W (by have := (Kd.R_reads' hR).2.2; exact this) (by have := (Kd.R_reads' hR); omega) hR5 (by rw [hol, hl]) (by omega)
        rw [hl] at this
        refine this.mono ?_
        rintro e w' ⟨v, rfl, hv, hb⟩
        obtain ⟨A', c', rfl⟩ := Kd.R_slice hv
        rw [hol]
        have h2 := (Kd.R_reads' hv).2.2
        exact ⟨_, _, rfl, h2, hb⟩))
      have HOUT := Aside0.mk (fun i (hi : i < kk) => out_get kk (ws.map fun _ => (0 : Int)) S (by rw [List.length_map, hwl]) i (by omega))
      have HLAST := Aside0.mk (show ((ws.map fun _ => (0 : Int)) ++ (S ++ [-1])).getD K2 0 = -1 from by rw [hK2]; exact out_last kk (ws.map fun _ => (0 : Int)) S (by rw [List.length_map, hwl]) hSl)
      have HOL := Aside0.mk (show ((ws.map fun _ => (0 : Int)) ++ (S ++ [-1])).length = L from by rw [List.length_append, List.length_append, List.length_map, hwl, hSl]; simp; omega)
      obtain ⟨out, hout⟩ : ∃ out, out = (ws.map fun _ => (0 : Int)) ++ (S ++ [-1]) := ⟨_, rfl⟩
      rw [← hout] at H5 HOUT HLAST HOL
      have HSB := Aside0.mk (fun i (hi : i < kk) => getD_bd hSw i (by omega))
      have HWB := Aside0.mk (fun i (hi : i < kk) => getD_bd HW.out i (by omega))
      have HSUB := Aside0.mk (sumI_bd S hSw)
      have HSUW := Aside0.mk (sumI_bd ws HW.out)
      have HSTS := Aside0.mk (fun i (hi : i < kk) => sumI_take S i (by omega))
      have HSTW := Aside0.mk (fun i (hi : i < kk) => sumI_take ws i (by omega))
      have HASC := Aside0.mk (fun i (h0 : 0 < i) (hi : i < kk) => asc_get hSa i h0 (by omega))
      have HFIN := Aside0.mk (show sumI (S.take kk) - sumI (ws.take kk) = 0 from by rw [List.take_of_length_le (by omega), List.take_of_length_le (by omega), hSs]; omega)
      have HCLL := Aside0.mk hcl
      clear hR6 hN6 hR5 hSl hSa hSs hSw hCL hcl hout hwl
      generalize ws.any (fun x => x == o) = sn at *
      have HL := Aside0.mk hL
      have HK2 := Aside0.mk hK2
      clear hL hK2
      have tokA : True := trivial
      rcases hk11 with ⟨hl1, hl2⟩ | hl1
      · have hk0 : ((kk : Int) == 0) = false := by simp at hl2 ⊢; omega
        have hk00 : decide (kk = 0) = false := by simp at hk0 ⊢; exact hk0
        rw [hk00, Bool.false_and, Bool.or_false] at HN
        cases sn with
        | true =>
          go_wp2_with (first
            | (go_at_call 24; refine (H6.out).mono ?_; rintro e w6 ⟨A1, m1, c1, A2, c2, rfl, h1, h2, hb⟩; have HS6 := Aside0.mk h1; have HC6 := Aside0.mk h2; have HCA := Aside0.mk (Kd.R_below HC.out hb); have B6 := Aside0.mk (btrans HB.out hb); clear h1 h2 hb)
            | (go_at_call 25; refine (HN.out A2 c2 w6 HS6.out HC6.out).mono ?_; rintro e w7 ⟨A7, m7, c7, rfl, hb⟩; have HCB := Aside0.mk (Kd.R_below HCA.out hb); have B7 := Aside0.mk (btrans B6.out hb); clear hb))
          go_loopg [5, 16] (kk + 1) (fun gg v5 v16 wr => ∃ m : Nat, m ≤ kk + 1 ∧ kk + 1 - m ≤ gg ∧ v16 = .int .i64 m ∧ Aside0 (k27.R 27 wr w.heap.size (fun _ => True) v5 (CL ++ List.replicate m takeL)) ∧ Aside0 (Below w.heap.size w wr))
          case atStart => exact ⟨0, Nat.zero_le _, by omega, rfl, ⟨by rw [List.replicate_zero, List.append_nil]; exact HCB.out⟩, B7⟩
          case round =>
            clear HCB B7
            obtain ⟨m, hm, hgm, rfl, HCM, HBM⟩ := hrel
            by_cases hmk : m ≤ kk
            · have hmi : (m : Int) ≤ (kk : Int) := by omega
              go_wp2_with ((with_reducible refine gate_builtin (b := .append) (xs := #[.tmp 91, .tmp 93]) rfl ?_); at_builtin; refine Kd.R_append k27 (w0 := w) (W := wr) w.heap.size rfl (.tmp 91) (.tmp 93) 24 27 (.agg #[.string ⟨#[]⟩, .int .i64 0, .int .i64 0]) 32 rfl Try.underlying24 info27 rfl (by decide) (by omega) u5 (CL ++ List.replicate m takeL) ⟨takeB, 0, 0⟩ [.string takeB, .int .i64 0, .int .i64 0] (fun _ => True) (fun _ => False) rfl rfl (k27_M _ _ _ _ _ _) (fun _ hk => hk.elim) (fun _ _ => trivial) HCM.out HBM.out HBM.out.size (by rw [List.length_append, HCLL.out, List.length_replicate]; omega) ?_; intro v1 wn ho hb hg hat; have HC3 := Aside0.mk ho; have HB3 := Aside0.mk hb; clear ho hb hg hat)
              go_roundg (kk + 1 - (m + 1))
              case measure => omega
              case rel => exact ⟨m + 1, by omega, by omega, by go_num, ⟨by rw [List.replicate_succ', ← List.append_assoc]; exact HC3.out⟩, HB3⟩
            · obtain rfl : m = kk + 1 := by omega
              obtain ⟨A5, c5, e5⟩ := Kd.R_slice HCM.out
              have hL := HL.out
              have hK2 := HK2.out
              rw [show (CL ++ List.replicate (kk + 1) takeL).length = L from by rw [List.length_append, HCLL.out, List.length_replicate]; omega] at e5
              subst e5
              have hw2 : IntKind.i64.wrap (2 * (kk : Int)) = (K2 : Int) := (IntWalk.i64_in _ (by omega)).trans (by omega)
              have h2i : (K2 : Int) < (L : Int) := by omega
              have hnk : ¬ ((kk + 1 : Nat) : Int) ≤ (kk : Int) := by omega
              have HKL := Aside0.mk (show K2 < L by omega)
              clear hL hK2
              go_wp2_with (go_at_call 16; refine (H5.out A5 c5 wr HCM.out).mono ?_; rintro e w8 ⟨A8, c8, rfl, hr, hb⟩; obtain ⟨ad8, rfl, hc8⟩ := hr.at K2 (by rw [HOL.out]; exact HKL.out); rw [HLAST.out] at hc8; have HRO := Aside0.mk hr; have HCM8 := Aside0.mk (Kd.R_below HCM.out hb); have B8 := Aside0.mk (btrans HBM.out hb); clear hr hb)
              go_loopg [19, 20] kk (fun gg v19 v20 wl => ∃ i q : Nat, i ≤ kk ∧ kk - i ≤ gg ∧ v20 = .int .i64 i ∧ v19 = .int .i64 (sumI (S.take i) - sumI (ws.take i)) ∧ wl = w8.drewN q)
              case atStart => exact ⟨0, 0, Nat.zero_le _, by omega, rfl, rfl, rfl⟩
              case round =>
                obtain ⟨i, q, hi, hgi, rfl, rfl, hw⟩ := hrel
                subst hw
                by_cases hik : i < kk
                · have hii : (i : Int) < (kk : Int) := by omega
                  have hs0 := HSB.out i hik
                  have hw0 := HWB.out i hik
                  have hss := HSUB.out i
                  have hsw := HSUW.out i
                  have HS1 := Aside0.mk (HSTS.out i hik)
                  have HS2 := Aside0.mk (HSTW.out i hik)
                  have hk12 : kk ≤ 11 := h11
                  have hL := HL.out
                  obtain ⟨n9, hn9⟩ : ∃ n, n = kk + i := ⟨_, rfl⟩
                  obtain ⟨ad9, e9, hc9⟩ := HRO.out.at n9 (by rw [HOL.out]; omega)
                  injection e9 with e9
                  subst e9
                  rw [hn9, HOUT.out i hik, ← hn9] at hc9
                  obtain ⟨ad5, rfl, _, hc5, _⟩ := at_T27 ((Kd.R_reads' HCM8.out).2.2) (i : Int) (by omega) (by rw [List.length_append, HCLL.out, List.length_replicate]; omega)
                  rw [Int.toNat_natCast] at hc5
                  have hcx : (rd_T27 (CL ++ List.replicate (kk + 1) takeL) (i : Int)).f1 = ws.getD i 0 := by
                    rw [← HCX.out i hik]
                    unfold rd_T27
                    rw [Int.toNat_natCast, List.getD_eq_getElem?_getD, List.getD_eq_getElem?_getD, List.getElem?_append_left (by rw [HCLL.out]; exact hik)]
                  rw [hcx] at hc5
                  have hwk : IntKind.i64.wrap ((kk : Int) + i) = (n9 : Int) := (IntWalk.i64_in _ (by omega)).trans (by omega)
                  have hlt9 : (n9 : Int) < (L : Int) := by omega
                  have hlt5 : (i : Int) < (L : Int) := by omega
                  by_cases hi0 : 0 < i
                  · have hias := HASC.out i hi0 hik
                    have hsp := HSB.out (i - 1) (by omega)
                    obtain ⟨n7, hn7⟩ : ∃ n, n = kk + (i - 1) := ⟨_, rfl⟩
                    obtain ⟨ad7, e7, hc7⟩ := HRO.out.at n7 (by rw [HOL.out]; omega)
                    injection e7 with e7
                    subst e7
                    rw [hn7, HOUT.out (i - 1) (by omega), ← hn7] at hc7
                    generalize hgx : sumI (S.take i) = sx at *
                    generalize hgy : sumI (ws.take i) = sy at *
                    generalize hgp : S.getD i 0 = p at *
                    generalize hgr : S.getD (i - 1) 0 = r at *
                    generalize hgz : ws.getD i 0 = z at *
                    clear hgx hgy hgp hgr hgz
                    have hwm : IntKind.i64.wrap ((n9 : Int) - 1) = (n7 : Int) := (IntWalk.i64_in _ (by omega)).trans (by omega)
                    have hlt7 : (n7 : Int) < (L : Int) := by omega
                    have hw1 : IntKind.i64.wrap (p - z) = p - z := IntWalk.i64_in _ (by omega)
                    have hw4 : IntKind.i64.wrap (sx - sy + (p - z)) = sx - sy + (p - z) := IntWalk.i64_in _ (by omega)
                    have hi0i : (0 : Int) < (i : Int) := by omega
                    have hnle : ¬ r > p := by omega
                    clear hcx hias hs0 hw0 hss hsw hsp hn9 hn7 hL
                    go_wp2
                    go_quiet (fail)
                    go_wp2
                    go_quiet (fail)
                    go_wp2
                    go_roundg (kk - (i + 1))
                    case measure => omega
                    case rel => exact ⟨i + 1, _, by omega, by omega, by go_num, by rw [HS1.out, HS2.out]; congr 1; omega, rfl⟩
                  · obtain rfl : i = 0 := by omega
                    have hsx0 : sumI (S.take 0) - sumI (ws.take 0) = 0 := rfl
                    generalize hgp : S.getD 0 0 = p at *
                    generalize hgz : ws.getD 0 0 = z at *
                    clear hgp hgz
                    have hw1 : IntKind.i64.wrap (p - z) = p - z := IntWalk.i64_in _ (by omega)
                    skip
                    rw [hsx0]
                    have hz1 : sumI (S.take 0) = 0 := rfl
                    have hz2 : sumI (ws.take 0) = 0 := rfl
                    rw [hz1] at HS1
                    rw [hz2] at HS2
                    obtain rfl : n9 = kk := by omega
                    rw [show 0 * 3 = 0 from rfl, show ad5.add 0 = ad5 from by simp [Addr.add]] at hc5
                    have hL0 : (0 : Int) < (L : Int) := by omega
                    have hwk0 : IntKind.i64.wrap (n9 : Int) = (n9 : Int) := IntWalk.i64_in _ (by omega)
                    clear hcx hs0 hw0 hss hsw hsx0 hz1 hz2 hn9 hL
                    go_wp2
                    refine wp_region_quiet_lit (by kernel_rfl) (by kernel_rfl) ?_
                    repeat (with_reducible refine wpQuiet_step (fun K hK => ?_); go_simp; (try (rw [if_neg ?hn]; (case hn => simp [undef]))); first | (with_reducible refine hK _ ?_; clear hK K) | (apply Exists.intro; refine ⟨fun _ => ?_, hK _ ?_⟩; (fail); clear hK K))
                    with_reducible refine wpQuiet_nil ?_
                    intro _ hw'
                    obtain ⟨nq, hw''⟩ := hw'
                    subst hw''
                    go_wp2
                    go_quiet (fail)
                    go_wp2
                    go_roundg (n9 - (0 + 1))
                    case measure => omega
                    case rel => exact ⟨0 + 1, _, by omega, by omega, by go_num, by rw [HS1.out, HS2.out]; congr 1; omega, rfl⟩
                · obtain rfl : i = kk := by omega
                  rw [HFIN.out]
                  go_wp2
                  go_ret
                  exact ⟨rfl, pw_below_drewN B8.out q⟩
        | false =>
          go_wp2_with (first
            | (go_at_call 24; refine (H6.out).mono ?_; rintro e w6 ⟨A1, m1, c1, A2, c2, rfl, h1, h2, hb⟩; have HS6 := Aside0.mk h1; have HC6 := Aside0.mk h2; have HCA := Aside0.mk (Kd.R_below HC.out hb); have B6 := Aside0.mk (btrans HB.out hb); clear h1 h2 hb)
            | (go_at_call 25; refine (HN.out A2 c2 w6 HS6.out HC6.out).mono ?_; rintro e w7 ⟨A7, m7, c7, rfl, hb⟩; have HCB := Aside0.mk (Kd.R_below HCA.out hb); have B7 := Aside0.mk (btrans B6.out hb); clear hb))
          go_loopg [5, 16] (kk + 1) (fun gg v5 v16 wr => ∃ m : Nat, m ≤ kk + 1 ∧ kk + 1 - m ≤ gg ∧ v16 = .int .i64 m ∧ Aside0 (k27.R 27 wr w.heap.size (fun _ => True) v5 (CL ++ List.replicate m takeL)) ∧ Aside0 (Below w.heap.size w wr))
          case atStart => exact ⟨0, Nat.zero_le _, by omega, rfl, ⟨by rw [List.replicate_zero, List.append_nil]; exact HCB.out⟩, B7⟩
          case round =>
            clear HCB B7
            obtain ⟨m, hm, hgm, rfl, HCM, HBM⟩ := hrel
            by_cases hmk : m ≤ kk
            · have hmi : (m : Int) ≤ (kk : Int) := by omega
              go_wp2_with ((with_reducible refine gate_builtin (b := .append) (xs := #[.tmp 91, .tmp 93]) rfl ?_); at_builtin; refine Kd.R_append k27 (w0 := w) (W := wr) w.heap.size rfl (.tmp 91) (.tmp 93) 24 27 (.agg #[.string ⟨#[]⟩, .int .i64 0, .int .i64 0]) 32 rfl Try.underlying24 info27 rfl (by decide) (by omega) u5 (CL ++ List.replicate m takeL) ⟨takeB, 0, 0⟩ [.string takeB, .int .i64 0, .int .i64 0] (fun _ => True) (fun _ => False) rfl rfl (k27_M _ _ _ _ _ _) (fun _ hk => hk.elim) (fun _ _ => trivial) HCM.out HBM.out HBM.out.size (by rw [List.length_append, HCLL.out, List.length_replicate]; omega) ?_; intro v1 wn ho hb hg hat; have HC3 := Aside0.mk ho; have HB3 := Aside0.mk hb; clear ho hb hg hat)
              go_roundg (kk + 1 - (m + 1))
              case measure => omega
              case rel => exact ⟨m + 1, by omega, by omega, by go_num, ⟨by rw [List.replicate_succ', ← List.append_assoc]; exact HC3.out⟩, HB3⟩
            · obtain rfl : m = kk + 1 := by omega
              obtain ⟨A5, c5, e5⟩ := Kd.R_slice HCM.out
              have hL := HL.out
              have hK2 := HK2.out
              rw [show (CL ++ List.replicate (kk + 1) takeL).length = L from by rw [List.length_append, HCLL.out, List.length_replicate]; omega] at e5
              subst e5
              have hw2 : IntKind.i64.wrap (2 * (kk : Int)) = (K2 : Int) := (IntWalk.i64_in _ (by omega)).trans (by omega)
              have h2i : (K2 : Int) < (L : Int) := by omega
              have hnk : ¬ ((kk + 1 : Nat) : Int) ≤ (kk : Int) := by omega
              have HKL := Aside0.mk (show K2 < L by omega)
              clear hL hK2
              go_wp2_with (go_at_call 16; refine (H5.out A5 c5 wr HCM.out).mono ?_; rintro e w8 ⟨A8, c8, rfl, hr, hb⟩; obtain ⟨ad8, rfl, hc8⟩ := hr.at K2 (by rw [HOL.out]; exact HKL.out); rw [HLAST.out] at hc8; have HRO := Aside0.mk hr; have HCM8 := Aside0.mk (Kd.R_below HCM.out hb); have B8 := Aside0.mk (btrans HBM.out hb); clear hr hb)
              go_loopg [19, 20] kk (fun gg v19 v20 wl => ∃ i q : Nat, i ≤ kk ∧ kk - i ≤ gg ∧ v20 = .int .i64 i ∧ v19 = .int .i64 (sumI (S.take i) - sumI (ws.take i)) ∧ wl = w8.drewN q)
              case atStart => exact ⟨0, 0, Nat.zero_le _, by omega, rfl, rfl, rfl⟩
              case round =>
                obtain ⟨i, q, hi, hgi, rfl, rfl, hw⟩ := hrel
                subst hw
                by_cases hik : i < kk
                · have hii : (i : Int) < (kk : Int) := by omega
                  have hs0 := HSB.out i hik
                  have hw0 := HWB.out i hik
                  have hss := HSUB.out i
                  have hsw := HSUW.out i
                  have HS1 := Aside0.mk (HSTS.out i hik)
                  have HS2 := Aside0.mk (HSTW.out i hik)
                  have hk12 : kk ≤ 11 := h11
                  have hL := HL.out
                  obtain ⟨n9, hn9⟩ : ∃ n, n = kk + i := ⟨_, rfl⟩
                  obtain ⟨ad9, e9, hc9⟩ := HRO.out.at n9 (by rw [HOL.out]; omega)
                  injection e9 with e9
                  subst e9
                  rw [hn9, HOUT.out i hik, ← hn9] at hc9
                  obtain ⟨ad5, rfl, _, hc5, _⟩ := at_T27 ((Kd.R_reads' HCM8.out).2.2) (i : Int) (by omega) (by rw [List.length_append, HCLL.out, List.length_replicate]; omega)
                  rw [Int.toNat_natCast] at hc5
                  have hcx : (rd_T27 (CL ++ List.replicate (kk + 1) takeL) (i : Int)).f1 = ws.getD i 0 := by
                    rw [← HCX.out i hik]
                    unfold rd_T27
                    rw [Int.toNat_natCast, List.getD_eq_getElem?_getD, List.getD_eq_getElem?_getD, List.getElem?_append_left (by rw [HCLL.out]; exact hik)]
                  rw [hcx] at hc5
                  have hwk : IntKind.i64.wrap ((kk : Int) + i) = (n9 : Int) := (IntWalk.i64_in _ (by omega)).trans (by omega)
                  have hlt9 : (n9 : Int) < (L : Int) := by omega
                  have hlt5 : (i : Int) < (L : Int) := by omega
                  by_cases hi0 : 0 < i
                  · have hias := HASC.out i hi0 hik
                    have hsp := HSB.out (i - 1) (by omega)
                    obtain ⟨n7, hn7⟩ : ∃ n, n = kk + (i - 1) := ⟨_, rfl⟩
                    obtain ⟨ad7, e7, hc7⟩ := HRO.out.at n7 (by rw [HOL.out]; omega)
                    injection e7 with e7
                    subst e7
                    rw [hn7, HOUT.out (i - 1) (by omega), ← hn7] at hc7
                    generalize hgx : sumI (S.take i) = sx at *
                    generalize hgy : sumI (ws.take i) = sy at *
                    generalize hgp : S.getD i 0 = p at *
                    generalize hgr : S.getD (i - 1) 0 = r at *
                    generalize hgz : ws.getD i 0 = z at *
                    clear hgx hgy hgp hgr hgz
                    have hwm : IntKind.i64.wrap ((n9 : Int) - 1) = (n7 : Int) := (IntWalk.i64_in _ (by omega)).trans (by omega)
                    have hlt7 : (n7 : Int) < (L : Int) := by omega
                    have hw1 : IntKind.i64.wrap (p - z) = p - z := IntWalk.i64_in _ (by omega)
                    have hw4 : IntKind.i64.wrap (sx - sy + (p - z)) = sx - sy + (p - z) := IntWalk.i64_in _ (by omega)
                    have hi0i : (0 : Int) < (i : Int) := by omega
                    have hnle : ¬ r > p := by omega
                    clear hcx hias hs0 hw0 hss hsw hsp hn9 hn7 hL
                    go_wp2
                    go_quiet (fail)
                    go_wp2
                    go_quiet (fail)
                    go_wp2
                    go_roundg (kk - (i + 1))
                    case measure => omega
                    case rel => exact ⟨i + 1, _, by omega, by omega, by go_num, by rw [HS1.out, HS2.out]; congr 1; omega, rfl⟩
                  · obtain rfl : i = 0 := by omega
                    have hsx0 : sumI (S.take 0) - sumI (ws.take 0) = 0 := rfl
                    generalize hgp : S.getD 0 0 = p at *
                    generalize hgz : ws.getD 0 0 = z at *
                    clear hgp hgz
                    have hw1 : IntKind.i64.wrap (p - z) = p - z := IntWalk.i64_in _ (by omega)
                    skip
                    rw [hsx0]
                    have hz1 : sumI (S.take 0) = 0 := rfl
                    have hz2 : sumI (ws.take 0) = 0 := rfl
                    rw [hz1] at HS1
                    rw [hz2] at HS2
                    obtain rfl : n9 = kk := by omega
                    rw [show 0 * 3 = 0 from rfl, show ad5.add 0 = ad5 from by simp [Addr.add]] at hc5
                    have hL0 : (0 : Int) < (L : Int) := by omega
                    have hwk0 : IntKind.i64.wrap (n9 : Int) = (n9 : Int) := IntWalk.i64_in _ (by omega)
                    clear hcx hs0 hw0 hss hsw hsx0 hz1 hz2 hn9 hL
                    go_wp2
                    refine wp_region_quiet_lit (by kernel_rfl) (by kernel_rfl) ?_
                    repeat (with_reducible refine wpQuiet_step (fun K hK => ?_); go_simp; (try (rw [if_neg ?hn]; (case hn => simp [undef]))); first | (with_reducible refine hK _ ?_; clear hK K) | (apply Exists.intro; refine ⟨fun _ => ?_, hK _ ?_⟩; (fail); clear hK K))
                    with_reducible refine wpQuiet_nil ?_
                    intro _ hw'
                    obtain ⟨nq, hw''⟩ := hw'
                    subst hw''
                    go_wp2
                    go_quiet (fail)
                    go_wp2
                    go_roundg (n9 - (0 + 1))
                    case measure => omega
                    case rel => exact ⟨0 + 1, _, by omega, by omega, by go_num, by rw [HS1.out, HS2.out]; congr 1; omega, rfl⟩
                · obtain rfl : i = kk := by omega
                  rw [HFIN.out]
                  go_wp2
                  go_ret
                  exact ⟨rfl, pw_below_drewN B8.out q⟩
      · cases sn with
        | true =>
          rw [Bool.true_or] at HN
          go_wp2_with (first
            | (go_at_call 24; refine (H6.out).mono ?_; rintro e w6 ⟨A1, m1, c1, A2, c2, rfl, h1, h2, hb⟩; have HS6 := Aside0.mk h1; have HC6 := Aside0.mk h2; have HCA := Aside0.mk (Kd.R_below HC.out hb); have B6 := Aside0.mk (btrans HB.out hb); clear h1 h2 hb)
            | (go_at_call 25; refine (HN.out A2 c2 w6 HS6.out HC6.out).mono ?_; rintro e w7 ⟨A7, m7, c7, rfl, hb⟩; have HCB := Aside0.mk (Kd.R_below HCA.out hb); have B7 := Aside0.mk (btrans B6.out hb); clear hb))
          go_loopg [5, 16] (kk + 1) (fun gg v5 v16 wr => ∃ m : Nat, m ≤ kk + 1 ∧ kk + 1 - m ≤ gg ∧ v16 = .int .i64 m ∧ Aside0 (k27.R 27 wr w.heap.size (fun _ => True) v5 (CL ++ List.replicate m takeL)) ∧ Aside0 (Below w.heap.size w wr))
          case atStart => exact ⟨0, Nat.zero_le _, by omega, rfl, ⟨by rw [List.replicate_zero, List.append_nil]; exact HCB.out⟩, B7⟩
          case round =>
            clear HCB B7
            obtain ⟨m, hm, hgm, rfl, HCM, HBM⟩ := hrel
            by_cases hmk : m ≤ kk
            · have hmi : (m : Int) ≤ (kk : Int) := by omega
              go_wp2_with ((with_reducible refine gate_builtin (b := .append) (xs := #[.tmp 91, .tmp 93]) rfl ?_); at_builtin; refine Kd.R_append k27 (w0 := w) (W := wr) w.heap.size rfl (.tmp 91) (.tmp 93) 24 27 (.agg #[.string ⟨#[]⟩, .int .i64 0, .int .i64 0]) 32 rfl Try.underlying24 info27 rfl (by decide) (by omega) u5 (CL ++ List.replicate m takeL) ⟨takeB, 0, 0⟩ [.string takeB, .int .i64 0, .int .i64 0] (fun _ => True) (fun _ => False) rfl rfl (k27_M _ _ _ _ _ _) (fun _ hk => hk.elim) (fun _ _ => trivial) HCM.out HBM.out HBM.out.size (by rw [List.length_append, HCLL.out, List.length_replicate]; omega) ?_; intro v1 wn ho hb hg hat; have HC3 := Aside0.mk ho; have HB3 := Aside0.mk hb; clear ho hb hg hat)
              go_roundg (kk + 1 - (m + 1))
              case measure => omega
              case rel => exact ⟨m + 1, by omega, by omega, by go_num, ⟨by rw [List.replicate_succ', ← List.append_assoc]; exact HC3.out⟩, HB3⟩
            · obtain rfl : m = kk + 1 := by omega
              obtain ⟨A5, c5, e5⟩ := Kd.R_slice HCM.out
              have hL := HL.out
              have hK2 := HK2.out
              rw [show (CL ++ List.replicate (kk + 1) takeL).length = L from by rw [List.length_append, HCLL.out, List.length_replicate]; omega] at e5
              subst e5
              have hw2 : IntKind.i64.wrap (2 * (kk : Int)) = (K2 : Int) := (IntWalk.i64_in _ (by omega)).trans (by omega)
              have h2i : (K2 : Int) < (L : Int) := by omega
              have hnk : ¬ ((kk + 1 : Nat) : Int) ≤ (kk : Int) := by omega
              have HKL := Aside0.mk (show K2 < L by omega)
              clear hL hK2
              go_wp2_with (go_at_call 16; refine (H5.out A5 c5 wr HCM.out).mono ?_; rintro e w8 ⟨A8, c8, rfl, hr, hb⟩; obtain ⟨ad8, rfl, hc8⟩ := hr.at K2 (by rw [HOL.out]; exact HKL.out); rw [HLAST.out] at hc8; have HRO := Aside0.mk hr; have HCM8 := Aside0.mk (Kd.R_below HCM.out hb); have B8 := Aside0.mk (btrans HBM.out hb); clear hr hb)
              go_loopg [19, 20] kk (fun gg v19 v20 wl => ∃ i q : Nat, i ≤ kk ∧ kk - i ≤ gg ∧ v20 = .int .i64 i ∧ v19 = .int .i64 (sumI (S.take i) - sumI (ws.take i)) ∧ wl = w8.drewN q)
              case atStart => exact ⟨0, 0, Nat.zero_le _, by omega, rfl, rfl, rfl⟩
              case round =>
                obtain ⟨i, q, hi, hgi, rfl, rfl, hw⟩ := hrel
                subst hw
                by_cases hik : i < kk
                · have hii : (i : Int) < (kk : Int) := by omega
                  have hs0 := HSB.out i hik
                  have hw0 := HWB.out i hik
                  have hss := HSUB.out i
                  have hsw := HSUW.out i
                  have HS1 := Aside0.mk (HSTS.out i hik)
                  have HS2 := Aside0.mk (HSTW.out i hik)
                  have hk12 : kk ≤ 11 := h11
                  have hL := HL.out
                  obtain ⟨n9, hn9⟩ : ∃ n, n = kk + i := ⟨_, rfl⟩
                  obtain ⟨ad9, e9, hc9⟩ := HRO.out.at n9 (by rw [HOL.out]; omega)
                  injection e9 with e9
                  subst e9
                  rw [hn9, HOUT.out i hik, ← hn9] at hc9
                  obtain ⟨ad5, rfl, _, hc5, _⟩ := at_T27 ((Kd.R_reads' HCM8.out).2.2) (i : Int) (by omega) (by rw [List.length_append, HCLL.out, List.length_replicate]; omega)
                  rw [Int.toNat_natCast] at hc5
                  have hcx : (rd_T27 (CL ++ List.replicate (kk + 1) takeL) (i : Int)).f1 = ws.getD i 0 := by
                    rw [← HCX.out i hik]
                    unfold rd_T27
                    rw [Int.toNat_natCast, List.getD_eq_getElem?_getD, List.getD_eq_getElem?_getD, List.getElem?_append_left (by rw [HCLL.out]; exact hik)]
                  rw [hcx] at hc5
                  have hwk : IntKind.i64.wrap ((kk : Int) + i) = (n9 : Int) := (IntWalk.i64_in _ (by omega)).trans (by omega)
                  have hlt9 : (n9 : Int) < (L : Int) := by omega
                  have hlt5 : (i : Int) < (L : Int) := by omega
                  by_cases hi0 : 0 < i
                  · have hias := HASC.out i hi0 hik
                    have hsp := HSB.out (i - 1) (by omega)
                    obtain ⟨n7, hn7⟩ : ∃ n, n = kk + (i - 1) := ⟨_, rfl⟩
                    obtain ⟨ad7, e7, hc7⟩ := HRO.out.at n7 (by rw [HOL.out]; omega)
                    injection e7 with e7
                    subst e7
                    rw [hn7, HOUT.out (i - 1) (by omega), ← hn7] at hc7
                    generalize hgx : sumI (S.take i) = sx at *
                    generalize hgy : sumI (ws.take i) = sy at *
                    generalize hgp : S.getD i 0 = p at *
                    generalize hgr : S.getD (i - 1) 0 = r at *
                    generalize hgz : ws.getD i 0 = z at *
                    clear hgx hgy hgp hgr hgz
                    have hwm : IntKind.i64.wrap ((n9 : Int) - 1) = (n7 : Int) := (IntWalk.i64_in _ (by omega)).trans (by omega)
                    have hlt7 : (n7 : Int) < (L : Int) := by omega
                    have hw1 : IntKind.i64.wrap (p - z) = p - z := IntWalk.i64_in _ (by omega)
                    have hw4 : IntKind.i64.wrap (sx - sy + (p - z)) = sx - sy + (p - z) := IntWalk.i64_in _ (by omega)
                    have hi0i : (0 : Int) < (i : Int) := by omega
                    have hnle : ¬ r > p := by omega
                    clear hcx hias hs0 hw0 hss hsw hsp hn9 hn7 hL
                    go_wp2
                    go_quiet (fail)
                    go_wp2
                    go_quiet (fail)
                    go_wp2
                    go_roundg (kk - (i + 1))
                    case measure => omega
                    case rel => exact ⟨i + 1, _, by omega, by omega, by go_num, by rw [HS1.out, HS2.out]; congr 1; omega, rfl⟩
                  · obtain rfl : i = 0 := by omega
                    have hsx0 : sumI (S.take 0) - sumI (ws.take 0) = 0 := rfl
                    generalize hgp : S.getD 0 0 = p at *
                    generalize hgz : ws.getD 0 0 = z at *
                    clear hgp hgz
                    have hw1 : IntKind.i64.wrap (p - z) = p - z := IntWalk.i64_in _ (by omega)
                    skip
                    rw [hsx0]
                    have hz1 : sumI (S.take 0) = 0 := rfl
                    have hz2 : sumI (ws.take 0) = 0 := rfl
                    rw [hz1] at HS1
                    rw [hz2] at HS2
                    obtain rfl : n9 = kk := by omega
                    rw [show 0 * 3 = 0 from rfl, show ad5.add 0 = ad5 from by simp [Addr.add]] at hc5
                    have hL0 : (0 : Int) < (L : Int) := by omega
                    have hwk0 : IntKind.i64.wrap (n9 : Int) = (n9 : Int) := IntWalk.i64_in _ (by omega)
                    clear hcx hs0 hw0 hss hsw hsx0 hz1 hz2 hn9 hL
                    go_wp2
                    refine wp_region_quiet_lit (by kernel_rfl) (by kernel_rfl) ?_
                    repeat (with_reducible refine wpQuiet_step (fun K hK => ?_); go_simp; (try (rw [if_neg ?hn]; (case hn => simp [undef]))); first | (with_reducible refine hK _ ?_; clear hK K) | (apply Exists.intro; refine ⟨fun _ => ?_, hK _ ?_⟩; (fail); clear hK K))
                    with_reducible refine wpQuiet_nil ?_
                    intro _ hw'
                    obtain ⟨nq, hw''⟩ := hw'
                    subst hw''
                    go_wp2
                    go_quiet (fail)
                    go_wp2
                    go_roundg (n9 - (0 + 1))
                    case measure => omega
                    case rel => exact ⟨0 + 1, _, by omega, by omega, by go_num, by rw [HS1.out, HS2.out]; congr 1; omega, rfl⟩
                · obtain rfl : i = kk := by omega
                  rw [HFIN.out]
                  go_wp2
                  go_ret
                  exact ⟨rfl, pw_below_drewN B8.out q⟩
        | false =>
          rw [Bool.false_or] at HN
          by_cases hkz : kk = 0
          · have hk0 : ((kk : Int) == 0) = true := by simp; exact hkz
            rw [decide_eq_true hkz, Bool.true_and] at HN
            have HKZ := Aside0.mk hkz
            clear hkz
            by_cases ho : o = -1
            · have ho1 : (o == -1) = true := by simp; exact ho
              rw [decide_eq_true ho] at HN
              clear ho
              go_wp2_with (first
                | (go_at_call 24; refine (H6.out).mono ?_; rintro e w6 ⟨A1, m1, c1, A2, c2, rfl, h1, h2, hb⟩; have HS6 := Aside0.mk h1; have HC6 := Aside0.mk h2; have HCA := Aside0.mk (Kd.R_below HC.out hb); have B6 := Aside0.mk (btrans HB.out hb); clear h1 h2 hb)
                | (go_at_call 25; refine (HN.out A2 c2 w6 HS6.out HC6.out).mono ?_; rintro e w7 ⟨A7, m7, c7, rfl, hb⟩; have HCB := Aside0.mk (Kd.R_below HCA.out hb); have B7 := Aside0.mk (btrans B6.out hb); clear hb))
              go_loopg [5, 16] (kk + 1) (fun gg v5 v16 wr => ∃ m : Nat, m ≤ kk + 1 ∧ kk + 1 - m ≤ gg ∧ v16 = .int .i64 m ∧ Aside0 (k27.R 27 wr w.heap.size (fun _ => True) v5 (CL ++ List.replicate m takeL)) ∧ Aside0 (Below w.heap.size w wr))
              case atStart => exact ⟨0, Nat.zero_le _, by omega, rfl, ⟨by rw [List.replicate_zero, List.append_nil]; exact HCB.out⟩, B7⟩
              case round =>
                clear HCB B7
                obtain ⟨m, hm, hgm, rfl, HCM, HBM⟩ := hrel
                by_cases hmk : m ≤ kk
                · have hmi : (m : Int) ≤ (kk : Int) := by omega
                  go_wp2_with ((with_reducible refine gate_builtin (b := .append) (xs := #[.tmp 91, .tmp 93]) rfl ?_); at_builtin; refine Kd.R_append k27 (w0 := w) (W := wr) w.heap.size rfl (.tmp 91) (.tmp 93) 24 27 (.agg #[.string ⟨#[]⟩, .int .i64 0, .int .i64 0]) 32 rfl Try.underlying24 info27 rfl (by decide) (by omega) u5 (CL ++ List.replicate m takeL) ⟨takeB, 0, 0⟩ [.string takeB, .int .i64 0, .int .i64 0] (fun _ => True) (fun _ => False) rfl rfl (k27_M _ _ _ _ _ _) (fun _ hk => hk.elim) (fun _ _ => trivial) HCM.out HBM.out HBM.out.size (by rw [List.length_append, HCLL.out, List.length_replicate]; omega) ?_; intro v1 wn ho hb hg hat; have HC3 := Aside0.mk ho; have HB3 := Aside0.mk hb; clear ho hb hg hat)
                  go_roundg (kk + 1 - (m + 1))
                  case measure => omega
                  case rel => exact ⟨m + 1, by omega, by omega, by go_num, ⟨by rw [List.replicate_succ', ← List.append_assoc]; exact HC3.out⟩, HB3⟩
                · obtain rfl : m = kk + 1 := by omega
                  obtain ⟨A5, c5, e5⟩ := Kd.R_slice HCM.out
                  have hL := HL.out
                  have hK2 := HK2.out
                  rw [show (CL ++ List.replicate (kk + 1) takeL).length = L from by rw [List.length_append, HCLL.out, List.length_replicate]; omega] at e5
                  subst e5
                  have hw2 : IntKind.i64.wrap (2 * (kk : Int)) = (K2 : Int) := (IntWalk.i64_in _ (by omega)).trans (by omega)
                  have h2i : (K2 : Int) < (L : Int) := by omega
                  have hnk : ¬ ((kk + 1 : Nat) : Int) ≤ (kk : Int) := by omega
                  have HKL := Aside0.mk (show K2 < L by omega)
                  clear hL hK2
                  go_wp2_with (go_at_call 16; refine (H5.out A5 c5 wr HCM.out).mono ?_; rintro e w8 ⟨A8, c8, rfl, hr, hb⟩; obtain ⟨ad8, rfl, hc8⟩ := hr.at K2 (by rw [HOL.out]; exact HKL.out); rw [HLAST.out] at hc8; have HRO := Aside0.mk hr; have HCM8 := Aside0.mk (Kd.R_below HCM.out hb); have B8 := Aside0.mk (btrans HBM.out hb); clear hr hb)
                  go_loopg [19, 20] kk (fun gg v19 v20 wl => ∃ i q : Nat, i ≤ kk ∧ kk - i ≤ gg ∧ v20 = .int .i64 i ∧ v19 = .int .i64 (sumI (S.take i) - sumI (ws.take i)) ∧ wl = w8.drewN q)
                  case atStart => exact ⟨0, 0, Nat.zero_le _, by omega, rfl, rfl, rfl⟩
                  case round =>
                    obtain ⟨i, q, hi, hgi, rfl, rfl, hw⟩ := hrel
                    subst hw
                    by_cases hik : i < kk
                    · have hii : (i : Int) < (kk : Int) := by omega
                      have hs0 := HSB.out i hik
                      have hw0 := HWB.out i hik
                      have hss := HSUB.out i
                      have hsw := HSUW.out i
                      have HS1 := Aside0.mk (HSTS.out i hik)
                      have HS2 := Aside0.mk (HSTW.out i hik)
                      have hk12 : kk ≤ 11 := h11
                      have hL := HL.out
                      obtain ⟨n9, hn9⟩ : ∃ n, n = kk + i := ⟨_, rfl⟩
                      obtain ⟨ad9, e9, hc9⟩ := HRO.out.at n9 (by rw [HOL.out]; omega)
                      injection e9 with e9
                      subst e9
                      rw [hn9, HOUT.out i hik, ← hn9] at hc9
                      obtain ⟨ad5, rfl, _, hc5, _⟩ := at_T27 ((Kd.R_reads' HCM8.out).2.2) (i : Int) (by omega) (by rw [List.length_append, HCLL.out, List.length_replicate]; omega)
                      rw [Int.toNat_natCast] at hc5
                      have hcx : (rd_T27 (CL ++ List.replicate (kk + 1) takeL) (i : Int)).f1 = ws.getD i 0 := by
                        rw [← HCX.out i hik]
                        unfold rd_T27
                        rw [Int.toNat_natCast, List.getD_eq_getElem?_getD, List.getD_eq_getElem?_getD, List.getElem?_append_left (by rw [HCLL.out]; exact hik)]
                      rw [hcx] at hc5
                      have hwk : IntKind.i64.wrap ((kk : Int) + i) = (n9 : Int) := (IntWalk.i64_in _ (by omega)).trans (by omega)
                      have hlt9 : (n9 : Int) < (L : Int) := by omega
                      have hlt5 : (i : Int) < (L : Int) := by omega
                      by_cases hi0 : 0 < i
                      · have hias := HASC.out i hi0 hik
                        have hsp := HSB.out (i - 1) (by omega)
                        obtain ⟨n7, hn7⟩ : ∃ n, n = kk + (i - 1) := ⟨_, rfl⟩
                        obtain ⟨ad7, e7, hc7⟩ := HRO.out.at n7 (by rw [HOL.out]; omega)
                        injection e7 with e7
                        subst e7
                        rw [hn7, HOUT.out (i - 1) (by omega), ← hn7] at hc7
                        generalize hgx : sumI (S.take i) = sx at *
                        generalize hgy : sumI (ws.take i) = sy at *
                        generalize hgp : S.getD i 0 = p at *
                        generalize hgr : S.getD (i - 1) 0 = r at *
                        generalize hgz : ws.getD i 0 = z at *
                        clear hgx hgy hgp hgr hgz
                        have hwm : IntKind.i64.wrap ((n9 : Int) - 1) = (n7 : Int) := (IntWalk.i64_in _ (by omega)).trans (by omega)
                        have hlt7 : (n7 : Int) < (L : Int) := by omega
                        have hw1 : IntKind.i64.wrap (p - z) = p - z := IntWalk.i64_in _ (by omega)
                        have hw4 : IntKind.i64.wrap (sx - sy + (p - z)) = sx - sy + (p - z) := IntWalk.i64_in _ (by omega)
                        have hi0i : (0 : Int) < (i : Int) := by omega
                        have hnle : ¬ r > p := by omega
                        clear hcx hias hs0 hw0 hss hsw hsp hn9 hn7 hL
                        go_wp2
                        go_quiet (fail)
                        go_wp2
                        go_quiet (fail)
                        go_wp2
                        go_roundg (kk - (i + 1))
                        case measure => omega
                        case rel => exact ⟨i + 1, _, by omega, by omega, by go_num, by rw [HS1.out, HS2.out]; congr 1; omega, rfl⟩
                      · obtain rfl : i = 0 := by omega
                        have hsx0 : sumI (S.take 0) - sumI (ws.take 0) = 0 := rfl
                        generalize hgp : S.getD 0 0 = p at *
                        generalize hgz : ws.getD 0 0 = z at *
                        clear hgp hgz
                        have hw1 : IntKind.i64.wrap (p - z) = p - z := IntWalk.i64_in _ (by omega)
                        skip
                        rw [hsx0]
                        have hz1 : sumI (S.take 0) = 0 := rfl
                        have hz2 : sumI (ws.take 0) = 0 := rfl
                        rw [hz1] at HS1
                        rw [hz2] at HS2
                        obtain rfl : n9 = kk := by omega
                        rw [show 0 * 3 = 0 from rfl, show ad5.add 0 = ad5 from by simp [Addr.add]] at hc5
                        have hL0 : (0 : Int) < (L : Int) := by omega
                        have hwk0 : IntKind.i64.wrap (n9 : Int) = (n9 : Int) := IntWalk.i64_in _ (by omega)
                        clear hcx hs0 hw0 hss hsw hsx0 hz1 hz2 hn9 hL
                        go_wp2
                        refine wp_region_quiet_lit (by kernel_rfl) (by kernel_rfl) ?_
                        repeat (with_reducible refine wpQuiet_step (fun K hK => ?_); go_simp; (try (rw [if_neg ?hn]; (case hn => simp [undef]))); first | (with_reducible refine hK _ ?_; clear hK K) | (apply Exists.intro; refine ⟨fun _ => ?_, hK _ ?_⟩; (fail); clear hK K))
                        with_reducible refine wpQuiet_nil ?_
                        intro _ hw'
                        obtain ⟨nq, hw''⟩ := hw'
                        subst hw''
                        go_wp2
                        go_quiet (fail)
                        go_wp2
                        go_roundg (n9 - (0 + 1))
                        case measure => omega
                        case rel => exact ⟨0 + 1, _, by omega, by omega, by go_num, by rw [HS1.out, HS2.out]; congr 1; omega, rfl⟩
                    · obtain rfl : i = kk := by omega
                      rw [HFIN.out]
                      go_wp2
                      go_ret
                      exact ⟨rfl, pw_below_drewN B8.out q⟩
            · have ho1 : (o == -1) = false := by simp; exact ho
              rw [decide_eq_false ho] at HN
              clear ho
              go_wp2_with (first
                | (go_at_call 24; refine (H6.out).mono ?_; rintro e w6 ⟨A1, m1, c1, A2, c2, rfl, h1, h2, hb⟩; have HS6 := Aside0.mk h1; have HC6 := Aside0.mk h2; have HCA := Aside0.mk (Kd.R_below HC.out hb); have B6 := Aside0.mk (btrans HB.out hb); clear h1 h2 hb)
                | (go_at_call 25; refine (HN.out A2 c2 w6 HS6.out HC6.out).mono ?_; rintro e w7 ⟨A7, m7, c7, rfl, hb⟩; have HCB := Aside0.mk (Kd.R_below HCA.out hb); have B7 := Aside0.mk (btrans B6.out hb); clear hb))
              go_loopg [5, 16] (kk + 1) (fun gg v5 v16 wr => ∃ m : Nat, m ≤ kk + 1 ∧ kk + 1 - m ≤ gg ∧ v16 = .int .i64 m ∧ Aside0 (k27.R 27 wr w.heap.size (fun _ => True) v5 (CL ++ List.replicate m takeL)) ∧ Aside0 (Below w.heap.size w wr))
              case atStart => exact ⟨0, Nat.zero_le _, by omega, rfl, ⟨by rw [List.replicate_zero, List.append_nil]; exact HCB.out⟩, B7⟩
              case round =>
                clear HCB B7
                obtain ⟨m, hm, hgm, rfl, HCM, HBM⟩ := hrel
                by_cases hmk : m ≤ kk
                · have hmi : (m : Int) ≤ (kk : Int) := by omega
                  go_wp2_with ((with_reducible refine gate_builtin (b := .append) (xs := #[.tmp 91, .tmp 93]) rfl ?_); at_builtin; refine Kd.R_append k27 (w0 := w) (W := wr) w.heap.size rfl (.tmp 91) (.tmp 93) 24 27 (.agg #[.string ⟨#[]⟩, .int .i64 0, .int .i64 0]) 32 rfl Try.underlying24 info27 rfl (by decide) (by omega) u5 (CL ++ List.replicate m takeL) ⟨takeB, 0, 0⟩ [.string takeB, .int .i64 0, .int .i64 0] (fun _ => True) (fun _ => False) rfl rfl (k27_M _ _ _ _ _ _) (fun _ hk => hk.elim) (fun _ _ => trivial) HCM.out HBM.out HBM.out.size (by rw [List.length_append, HCLL.out, List.length_replicate]; omega) ?_; intro v1 wn ho hb hg hat; have HC3 := Aside0.mk ho; have HB3 := Aside0.mk hb; clear ho hb hg hat)
                  go_roundg (kk + 1 - (m + 1))
                  case measure => omega
                  case rel => exact ⟨m + 1, by omega, by omega, by go_num, ⟨by rw [List.replicate_succ', ← List.append_assoc]; exact HC3.out⟩, HB3⟩
                · obtain rfl : m = kk + 1 := by omega
                  obtain ⟨A5, c5, e5⟩ := Kd.R_slice HCM.out
                  have hL := HL.out
                  have hK2 := HK2.out
                  rw [show (CL ++ List.replicate (kk + 1) takeL).length = L from by rw [List.length_append, HCLL.out, List.length_replicate]; omega] at e5
                  subst e5
                  have hw2 : IntKind.i64.wrap (2 * (kk : Int)) = (K2 : Int) := (IntWalk.i64_in _ (by omega)).trans (by omega)
                  have h2i : (K2 : Int) < (L : Int) := by omega
                  have hnk : ¬ ((kk + 1 : Nat) : Int) ≤ (kk : Int) := by omega
                  have HKL := Aside0.mk (show K2 < L by omega)
                  clear hL hK2
                  go_wp2_with (go_at_call 16; refine (H5.out A5 c5 wr HCM.out).mono ?_; rintro e w8 ⟨A8, c8, rfl, hr, hb⟩; obtain ⟨ad8, rfl, hc8⟩ := hr.at K2 (by rw [HOL.out]; exact HKL.out); rw [HLAST.out] at hc8; have HRO := Aside0.mk hr; have HCM8 := Aside0.mk (Kd.R_below HCM.out hb); have B8 := Aside0.mk (btrans HBM.out hb); clear hr hb)
                  go_loopg [19, 20] kk (fun gg v19 v20 wl => ∃ i q : Nat, i ≤ kk ∧ kk - i ≤ gg ∧ v20 = .int .i64 i ∧ v19 = .int .i64 (sumI (S.take i) - sumI (ws.take i)) ∧ wl = w8.drewN q)
                  case atStart => exact ⟨0, 0, Nat.zero_le _, by omega, rfl, rfl, rfl⟩
                  case round =>
                    obtain ⟨i, q, hi, hgi, rfl, rfl, hw⟩ := hrel
                    subst hw
                    by_cases hik : i < kk
                    · have hii : (i : Int) < (kk : Int) := by omega
                      have hs0 := HSB.out i hik
                      have hw0 := HWB.out i hik
                      have hss := HSUB.out i
                      have hsw := HSUW.out i
                      have HS1 := Aside0.mk (HSTS.out i hik)
                      have HS2 := Aside0.mk (HSTW.out i hik)
                      have hk12 : kk ≤ 11 := h11
                      have hL := HL.out
                      obtain ⟨n9, hn9⟩ : ∃ n, n = kk + i := ⟨_, rfl⟩
                      obtain ⟨ad9, e9, hc9⟩ := HRO.out.at n9 (by rw [HOL.out]; omega)
                      injection e9 with e9
                      subst e9
                      rw [hn9, HOUT.out i hik, ← hn9] at hc9
                      obtain ⟨ad5, rfl, _, hc5, _⟩ := at_T27 ((Kd.R_reads' HCM8.out).2.2) (i : Int) (by omega) (by rw [List.length_append, HCLL.out, List.length_replicate]; omega)
                      rw [Int.toNat_natCast] at hc5
                      have hcx : (rd_T27 (CL ++ List.replicate (kk + 1) takeL) (i : Int)).f1 = ws.getD i 0 := by
                        rw [← HCX.out i hik]
                        unfold rd_T27
                        rw [Int.toNat_natCast, List.getD_eq_getElem?_getD, List.getD_eq_getElem?_getD, List.getElem?_append_left (by rw [HCLL.out]; exact hik)]
                      rw [hcx] at hc5
                      have hwk : IntKind.i64.wrap ((kk : Int) + i) = (n9 : Int) := (IntWalk.i64_in _ (by omega)).trans (by omega)
                      have hlt9 : (n9 : Int) < (L : Int) := by omega
                      have hlt5 : (i : Int) < (L : Int) := by omega
                      by_cases hi0 : 0 < i
                      · have hias := HASC.out i hi0 hik
                        have hsp := HSB.out (i - 1) (by omega)
                        obtain ⟨n7, hn7⟩ : ∃ n, n = kk + (i - 1) := ⟨_, rfl⟩
                        obtain ⟨ad7, e7, hc7⟩ := HRO.out.at n7 (by rw [HOL.out]; omega)
                        injection e7 with e7
                        subst e7
                        rw [hn7, HOUT.out (i - 1) (by omega), ← hn7] at hc7
                        generalize hgx : sumI (S.take i) = sx at *
                        generalize hgy : sumI (ws.take i) = sy at *
                        generalize hgp : S.getD i 0 = p at *
                        generalize hgr : S.getD (i - 1) 0 = r at *
                        generalize hgz : ws.getD i 0 = z at *
                        clear hgx hgy hgp hgr hgz
                        have hwm : IntKind.i64.wrap ((n9 : Int) - 1) = (n7 : Int) := (IntWalk.i64_in _ (by omega)).trans (by omega)
                        have hlt7 : (n7 : Int) < (L : Int) := by omega
                        have hw1 : IntKind.i64.wrap (p - z) = p - z := IntWalk.i64_in _ (by omega)
                        have hw4 : IntKind.i64.wrap (sx - sy + (p - z)) = sx - sy + (p - z) := IntWalk.i64_in _ (by omega)
                        have hi0i : (0 : Int) < (i : Int) := by omega
                        have hnle : ¬ r > p := by omega
                        clear hcx hias hs0 hw0 hss hsw hsp hn9 hn7 hL
                        go_wp2
                        go_quiet (fail)
                        go_wp2
                        go_quiet (fail)
                        go_wp2
                        go_roundg (kk - (i + 1))
                        case measure => omega
                        case rel => exact ⟨i + 1, _, by omega, by omega, by go_num, by rw [HS1.out, HS2.out]; congr 1; omega, rfl⟩
                      · obtain rfl : i = 0 := by omega
                        have hsx0 : sumI (S.take 0) - sumI (ws.take 0) = 0 := rfl
                        generalize hgp : S.getD 0 0 = p at *
                        generalize hgz : ws.getD 0 0 = z at *
                        clear hgp hgz
                        have hw1 : IntKind.i64.wrap (p - z) = p - z := IntWalk.i64_in _ (by omega)
                        skip
                        rw [hsx0]
                        have hz1 : sumI (S.take 0) = 0 := rfl
                        have hz2 : sumI (ws.take 0) = 0 := rfl
                        rw [hz1] at HS1
                        rw [hz2] at HS2
                        obtain rfl : n9 = kk := by omega
                        rw [show 0 * 3 = 0 from rfl, show ad5.add 0 = ad5 from by simp [Addr.add]] at hc5
                        have hL0 : (0 : Int) < (L : Int) := by omega
                        have hwk0 : IntKind.i64.wrap (n9 : Int) = (n9 : Int) := IntWalk.i64_in _ (by omega)
                        clear hcx hs0 hw0 hss hsw hsx0 hz1 hz2 hn9 hL
                        go_wp2
                        refine wp_region_quiet_lit (by kernel_rfl) (by kernel_rfl) ?_
                        repeat (with_reducible refine wpQuiet_step (fun K hK => ?_); go_simp; (try (rw [if_neg ?hn]; (case hn => simp [undef]))); first | (with_reducible refine hK _ ?_; clear hK K) | (apply Exists.intro; refine ⟨fun _ => ?_, hK _ ?_⟩; (fail); clear hK K))
                        with_reducible refine wpQuiet_nil ?_
                        intro _ hw'
                        obtain ⟨nq, hw''⟩ := hw'
                        subst hw''
                        go_wp2
                        go_quiet (fail)
                        go_wp2
                        go_roundg (n9 - (0 + 1))
                        case measure => omega
                        case rel => exact ⟨0 + 1, _, by omega, by omega, by go_num, by rw [HS1.out, HS2.out]; congr 1; omega, rfl⟩
                    · obtain rfl : i = kk := by omega
                      rw [HFIN.out]
                      go_wp2
                      go_ret
                      exact ⟨rfl, pw_below_drewN B8.out q⟩
          · have hk0 : ((kk : Int) == 0) = false := by simp; exact hkz
            rw [decide_eq_false hkz, Bool.false_and] at HN
            clear hkz
            go_wp2_with (first
              | (go_at_call 24; refine (H6.out).mono ?_; rintro e w6 ⟨A1, m1, c1, A2, c2, rfl, h1, h2, hb⟩; have HS6 := Aside0.mk h1; have HC6 := Aside0.mk h2; have HCA := Aside0.mk (Kd.R_below HC.out hb); have B6 := Aside0.mk (btrans HB.out hb); clear h1 h2 hb)
              | (go_at_call 25; refine (HN.out A2 c2 w6 HS6.out HC6.out).mono ?_; rintro e w7 ⟨A7, m7, c7, rfl, hb⟩; have HCB := Aside0.mk (Kd.R_below HCA.out hb); have B7 := Aside0.mk (btrans B6.out hb); clear hb))
            go_loopg [5, 16] (kk + 1) (fun gg v5 v16 wr => ∃ m : Nat, m ≤ kk + 1 ∧ kk + 1 - m ≤ gg ∧ v16 = .int .i64 m ∧ Aside0 (k27.R 27 wr w.heap.size (fun _ => True) v5 (CL ++ List.replicate m takeL)) ∧ Aside0 (Below w.heap.size w wr))
            case atStart => exact ⟨0, Nat.zero_le _, by omega, rfl, ⟨by rw [List.replicate_zero, List.append_nil]; exact HCB.out⟩, B7⟩
            case round =>
              clear HCB B7
              obtain ⟨m, hm, hgm, rfl, HCM, HBM⟩ := hrel
              by_cases hmk : m ≤ kk
              · have hmi : (m : Int) ≤ (kk : Int) := by omega
                go_wp2_with ((with_reducible refine gate_builtin (b := .append) (xs := #[.tmp 91, .tmp 93]) rfl ?_); at_builtin; refine Kd.R_append k27 (w0 := w) (W := wr) w.heap.size rfl (.tmp 91) (.tmp 93) 24 27 (.agg #[.string ⟨#[]⟩, .int .i64 0, .int .i64 0]) 32 rfl Try.underlying24 info27 rfl (by decide) (by omega) u5 (CL ++ List.replicate m takeL) ⟨takeB, 0, 0⟩ [.string takeB, .int .i64 0, .int .i64 0] (fun _ => True) (fun _ => False) rfl rfl (k27_M _ _ _ _ _ _) (fun _ hk => hk.elim) (fun _ _ => trivial) HCM.out HBM.out HBM.out.size (by rw [List.length_append, HCLL.out, List.length_replicate]; omega) ?_; intro v1 wn ho hb hg hat; have HC3 := Aside0.mk ho; have HB3 := Aside0.mk hb; clear ho hb hg hat)
                go_roundg (kk + 1 - (m + 1))
                case measure => omega
                case rel => exact ⟨m + 1, by omega, by omega, by go_num, ⟨by rw [List.replicate_succ', ← List.append_assoc]; exact HC3.out⟩, HB3⟩
              · obtain rfl : m = kk + 1 := by omega
                obtain ⟨A5, c5, e5⟩ := Kd.R_slice HCM.out
                have hL := HL.out
                have hK2 := HK2.out
                rw [show (CL ++ List.replicate (kk + 1) takeL).length = L from by rw [List.length_append, HCLL.out, List.length_replicate]; omega] at e5
                subst e5
                have hw2 : IntKind.i64.wrap (2 * (kk : Int)) = (K2 : Int) := (IntWalk.i64_in _ (by omega)).trans (by omega)
                have h2i : (K2 : Int) < (L : Int) := by omega
                have hnk : ¬ ((kk + 1 : Nat) : Int) ≤ (kk : Int) := by omega
                have HKL := Aside0.mk (show K2 < L by omega)
                clear hL hK2
                go_wp2_with (go_at_call 16; refine (H5.out A5 c5 wr HCM.out).mono ?_; rintro e w8 ⟨A8, c8, rfl, hr, hb⟩; obtain ⟨ad8, rfl, hc8⟩ := hr.at K2 (by rw [HOL.out]; exact HKL.out); rw [HLAST.out] at hc8; have HRO := Aside0.mk hr; have HCM8 := Aside0.mk (Kd.R_below HCM.out hb); have B8 := Aside0.mk (btrans HBM.out hb); clear hr hb)
                go_loopg [19, 20] kk (fun gg v19 v20 wl => ∃ i q : Nat, i ≤ kk ∧ kk - i ≤ gg ∧ v20 = .int .i64 i ∧ v19 = .int .i64 (sumI (S.take i) - sumI (ws.take i)) ∧ wl = w8.drewN q)
                case atStart => exact ⟨0, 0, Nat.zero_le _, by omega, rfl, rfl, rfl⟩
                case round =>
                  obtain ⟨i, q, hi, hgi, rfl, rfl, hw⟩ := hrel
                  subst hw
                  by_cases hik : i < kk
                  · have hii : (i : Int) < (kk : Int) := by omega
                    have hs0 := HSB.out i hik
                    have hw0 := HWB.out i hik
                    have hss := HSUB.out i
                    have hsw := HSUW.out i
                    have HS1 := Aside0.mk (HSTS.out i hik)
                    have HS2 := Aside0.mk (HSTW.out i hik)
                    have hk12 : kk ≤ 11 := h11
                    have hL := HL.out
                    obtain ⟨n9, hn9⟩ : ∃ n, n = kk + i := ⟨_, rfl⟩
                    obtain ⟨ad9, e9, hc9⟩ := HRO.out.at n9 (by rw [HOL.out]; omega)
                    injection e9 with e9
                    subst e9
                    rw [hn9, HOUT.out i hik, ← hn9] at hc9
                    obtain ⟨ad5, rfl, _, hc5, _⟩ := at_T27 ((Kd.R_reads' HCM8.out).2.2) (i : Int) (by omega) (by rw [List.length_append, HCLL.out, List.length_replicate]; omega)
                    rw [Int.toNat_natCast] at hc5
                    have hcx : (rd_T27 (CL ++ List.replicate (kk + 1) takeL) (i : Int)).f1 = ws.getD i 0 := by
                      rw [← HCX.out i hik]
                      unfold rd_T27
                      rw [Int.toNat_natCast, List.getD_eq_getElem?_getD, List.getD_eq_getElem?_getD, List.getElem?_append_left (by rw [HCLL.out]; exact hik)]
                    rw [hcx] at hc5
                    have hwk : IntKind.i64.wrap ((kk : Int) + i) = (n9 : Int) := (IntWalk.i64_in _ (by omega)).trans (by omega)
                    have hlt9 : (n9 : Int) < (L : Int) := by omega
                    have hlt5 : (i : Int) < (L : Int) := by omega
                    by_cases hi0 : 0 < i
                    · have hias := HASC.out i hi0 hik
                      have hsp := HSB.out (i - 1) (by omega)
                      obtain ⟨n7, hn7⟩ : ∃ n, n = kk + (i - 1) := ⟨_, rfl⟩
                      obtain ⟨ad7, e7, hc7⟩ := HRO.out.at n7 (by rw [HOL.out]; omega)
                      injection e7 with e7
                      subst e7
                      rw [hn7, HOUT.out (i - 1) (by omega), ← hn7] at hc7
                      generalize hgx : sumI (S.take i) = sx at *
                      generalize hgy : sumI (ws.take i) = sy at *
                      generalize hgp : S.getD i 0 = p at *
                      generalize hgr : S.getD (i - 1) 0 = r at *
                      generalize hgz : ws.getD i 0 = z at *
                      clear hgx hgy hgp hgr hgz
                      have hwm : IntKind.i64.wrap ((n9 : Int) - 1) = (n7 : Int) := (IntWalk.i64_in _ (by omega)).trans (by omega)
                      have hlt7 : (n7 : Int) < (L : Int) := by omega
                      have hw1 : IntKind.i64.wrap (p - z) = p - z := IntWalk.i64_in _ (by omega)
                      have hw4 : IntKind.i64.wrap (sx - sy + (p - z)) = sx - sy + (p - z) := IntWalk.i64_in _ (by omega)
                      have hi0i : (0 : Int) < (i : Int) := by omega
                      have hnle : ¬ r > p := by omega
                      clear hcx hias hs0 hw0 hss hsw hsp hn9 hn7 hL
                      go_wp2
                      go_quiet (fail)
                      go_wp2
                      go_quiet (fail)
                      go_wp2
                      go_roundg (kk - (i + 1))
                      case measure => omega
                      case rel => exact ⟨i + 1, _, by omega, by omega, by go_num, by rw [HS1.out, HS2.out]; congr 1; omega, rfl⟩
                    · obtain rfl : i = 0 := by omega
                      have hsx0 : sumI (S.take 0) - sumI (ws.take 0) = 0 := rfl
                      generalize hgp : S.getD 0 0 = p at *
                      generalize hgz : ws.getD 0 0 = z at *
                      clear hgp hgz
                      have hw1 : IntKind.i64.wrap (p - z) = p - z := IntWalk.i64_in _ (by omega)
                      skip
                      rw [hsx0]
                      have hz1 : sumI (S.take 0) = 0 := rfl
                      have hz2 : sumI (ws.take 0) = 0 := rfl
                      rw [hz1] at HS1
                      rw [hz2] at HS2
                      obtain rfl : n9 = kk := by omega
                      rw [show 0 * 3 = 0 from rfl, show ad5.add 0 = ad5 from by simp [Addr.add]] at hc5
                      have hL0 : (0 : Int) < (L : Int) := by omega
                      have hwk0 : IntKind.i64.wrap (n9 : Int) = (n9 : Int) := IntWalk.i64_in _ (by omega)
                      clear hcx hs0 hw0 hss hsw hsx0 hz1 hz2 hn9 hL
                      go_wp2
                      refine wp_region_quiet_lit (by kernel_rfl) (by kernel_rfl) ?_
                      repeat (with_reducible refine wpQuiet_step (fun K hK => ?_); go_simp; (try (rw [if_neg ?hn]; (case hn => simp [undef]))); first | (with_reducible refine hK _ ?_; clear hK K) | (apply Exists.intro; refine ⟨fun _ => ?_, hK _ ?_⟩; (fail); clear hK K))
                      with_reducible refine wpQuiet_nil ?_
                      intro _ hw'
                      obtain ⟨nq, hw''⟩ := hw'
                      subst hw''
                      go_wp2
                      go_quiet (fail)
                      go_wp2
                      go_roundg (n9 - (0 + 1))
                      case measure => omega
                      case rel => exact ⟨0 + 1, _, by omega, by omega, by go_num, by rw [HS1.out, HS2.out]; congr 1; omega, rfl⟩
                  · obtain rfl : i = kk := by omega
                    rw [HFIN.out]
                    go_wp2
                    go_ret
                    exact ⟨rfl, pw_below_drewN B8.out q⟩
theorem leasts_row (a0 : Option Addr) (len0 cap0 : Nat) (z0 : List Int) (o : Int) (w : World) (w0 : (a0 = none ∧ len0 = 0 ∧ cap0 = 0 ∧ z0 = []) ∨ ∃ x, a0 = some x ∧ len0 ≤ cap0 ∧ cap0 ≤ maxLen ∧ z0.length = cap0 ∧ (∀ i, i < z0.length → w.cell? (x.add i) = some (.int .i64 (z0.getD i 0))) ∧ ∀ n ∈ z0, (Lit.int .i64 n).wf = true) (_y0 : len0 * 8 ≤ 140737488351232) (_w1 : (Lit.int .i64 o).wf = true) :
    Calls Try.prog 13 #[.slice a0 len0 cap0, .int .i64 o] w fun e w' => e = .returned (.bool true) ∧ Below w.heap.size w w' := by
  obtain ⟨l0, rfl, hr0, hm0, hw0, hc0⟩ := ReadsInt.ofRowC w0
  exact le_walk _ _ l0 o w (Kd.C_of_reads (d := (0 : Int)) (h1 := fun _ => rfl) hr0)
end Go.Proofs.Ytiialjmpfeopjaa.LeV
