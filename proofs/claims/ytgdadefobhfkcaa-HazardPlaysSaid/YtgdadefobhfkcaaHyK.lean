/- The walk of HazardKeeps: plain lemmas; no condition. -/
import Derived.Test.YtgdadefobhfkcaaHyK5
import Derived.Test.YtgdadefobhfkcaaHyR
import Derived.Test.YtgdadefobhfkcaaHyQ
namespace Go.Proofs.Ytgdadefobhfkcaa.Hy
open Go.RowKit Go.Proofs.YtgdadefobhfkcaaW.PrintWords Go.Proofs.YtgdadefobhfkcaaW.PrintLast Go.Proofs.YtgdadefobhfkcaaW.PrintMore
set_option linter.unusedVariables false
set_option linter.unusedSimpArgs false
set_option maxHeartbeats 8000000
set_option maxRecDepth 100000
theorem has_calls (A : Option Addr) (c : Nat) (l : List Int) (x : Int) (w : World) (hr : ReadsI w A l) (hl : l.length ≤ 1000000) :
    Calls Try.prog 14 #[.slice A l.length c, .int .i64 x] w fun e w' => e = .returned (.bool (l.contains x)) ∧ w' = w := by
  have HR := Aside0.mk hr
  clear hr
  go_enter Try.func14, Try.ntmps14
  go_wp2
  go_loopg [5] l.length (fun gg s5 wr => ∃ kk : Nat, kk ≤ l.length ∧ l.length - kk ≤ gg ∧ s5 = .int .i64 kk ∧ w = wr ∧ Aside0 (∀ j : Nat, j < kk → (l.getD j 0 == x) = false))
  case atStart => exact ⟨0, Nat.zero_le _, by omega, rfl, rfl, ⟨fun j hj => absurd hj (Nat.not_lt_zero _)⟩⟩
  case round =>
    obtain ⟨kk, hkk, hg, rfl, rfl, B⟩ := hrel
    by_cases hlt : kk < l.length
    · obtain ⟨ad, rfl, hc⟩ := HR.out kk hlt
      obtain ⟨y, hy⟩ : ∃ y, y = l.getD kk 0 := ⟨_, rfl⟩
      have HY := Aside0.mk hy
      rw [← hy] at hc
      clear hy
      cases hq : (y == x) with
      | true =>
        go_wp2
        go_ret
        have : l.contains x = true := by
          rw [List.contains_iff_exists_mem_beq]
          have e := eq_of_beq hq
          refine ⟨y, ?_, by simp [e]⟩
          rw [HY.out]
          simp [hlt]
        rw [this]
        exact ⟨rfl, rfl⟩
      | false =>
        go_wp2
        go_roundg (l.length - (kk + 1))
        case measure => omega
        case rel =>
          refine ⟨kk + 1, by omega, by omega, by go_num, rfl, ⟨fun j hj => ?_⟩⟩
          by_cases e : j = kk
          · subst e
            rw [← HY.out]; exact hq
          · exact B.out j (by omega)
    · have : kk = l.length := by omega
      subst this
      go_wp2
      go_ret
      have : l.contains x = false := by
        rw [Bool.eq_false_iff]
        intro h
        obtain ⟨y, hy, hxy⟩ := List.contains_iff_exists_mem_beq.1 h
        obtain ⟨j, hj, rfl⟩ := List.mem_iff_getElem.1 hy
        have := B.out j hj
        have e := eq_of_beq hxy
        simp [hj, e] at this
      rw [this]
      exact ⟨rfl, rfl⟩
theorem keeps_len {l0 back l1 : List Int} (h : Parts l0 back l1) : back.length ≤ l0.length := nodup_le _ _ h.nd h.mem
theorem holds_calls {w : World} {base : Nat} {A : Option Addr} {c : Nat} {ps : List (Nat × Nat)} {m : HM} (h : HL w base (.slice A ps.length c) ps m.hs) (hn : ps.length = m.n) (h4 : m.n ≤ 4) (hl : m.hs.length = m.n * 3) (hB : base ≤ w.heap.size) (d t k a er : Int) :
    Calls Try.prog 12 #[.slice A ps.length c, .int .i64 ps.length, .agg #[.int .i64 d, .int .i64 t, .int .i64 k, .int .i64 a], .int .i64 er] w (HoldsBack w base ps.length (holdsP m d t k a er)) := by
  unfold holdsP
  split
  · rename_i hx
    exact holds_keep h d t k a er (by rw [hn]; exact hx)
  · rename_i hx
    simp only [not_or, Decidable.not_not] at hx
    obtain ⟨rfl, h1, h2⟩ := hx
    obtain ⟨tn, rfl⟩ := Int.eq_ofNat_of_zero_le (show 0 ≤ t by omega)
    have htn : tn < ps.length := by omega
    split
    · rename_i hd
      subst hd
      rw [Int.toNat_natCast]
      exact holds_out h (by omega) hB k a tn htn (by omega)
    split
    · rename_i hd1 hd
      obtain ⟨rfl, hk0, hk3⟩ := hd
      obtain ⟨kn, rfl⟩ := Int.eq_ofNat_of_zero_le hk0
      rw [Int.toNat_natCast, Int.toNat_natCast]
      exact holds_put h (by omega) hB a tn kn htn (by omega) (by omega)
    · rename_i hd1 hd2
      refine holds_copy h (by omega) hB d k a tn htn (by simpa using hd1) ?_
      by_cases e : d = 2
      · exact .inr ⟨e, by omega⟩
      · exact .inl (by simpa using e)
/-- Whether one of the first rows has it. -/
def heldT (hs : List Int) (x : Int) : Nat → Bool
  | 0 => false
  | t + 1 => heldT hs x t || (three hs t).contains x
theorem heldT_mono (hs : List Int) (x : Int) {t t' : Nat} (h : t ≤ t') (e : heldT hs x t = true) : heldT hs x t' = true := by
  induction h with
  | refl => exact e
  | step _ ih => unfold heldT; rw [ih]; rfl
theorem heldT_all {hs : List Int} {n : Nat} (hl : hs.length = n * 3) (x : Int) (h : hs.contains x = true) : heldT hs x n = true := by
  have hm : x ∈ hs := by simpa using h
  obtain ⟨j, hj, e⟩ := List.getElem_of_mem hm
  refine heldT_mono hs x (show j / 3 + 1 ≤ n by omega) ?_
  unfold heldT
  have : (three hs (j / 3)).contains x = true := by
    have hg : hs.getD j 0 = x := by rw [List.getD_eq_getElem?_getD, List.getElem?_eq_getElem hj]; exact e
    have h3 : j % 3 = 0 ∨ j % 3 = 1 ∨ j % 3 = 2 := by omega
    unfold three
    rcases h3 with h3 | h3 | h3
    · rw [show j / 3 * 3 = j by omega, hg]; simp
    · rw [show j / 3 * 3 + 1 = j by omega, hg]; simp
    · rw [show j / 3 * 3 + 2 = j by omega, hg]; simp
  rw [this, Bool.or_true]
theorem readsI_drewN {w : World} {A : Option Addr} {l : List Int} (h : ReadsI w A l) (q : Nat) : ReadsI (w.drewN q) A l := fun j hj => by
  obtain ⟨ad, e, hc⟩ := h j hj
  exact ⟨ad, e, by simpa using hc⟩
theorem three_zero (n t : Nat) (ht : t < n) : three (List.replicate (n * 3) 0) t = [0, 0, 0] := by
  unfold three
  simp [List.getElem?_replicate, show t * 3 < n * 3 by omega, show t * 3 + 1 < n * 3 by omega, show t * 3 + 2 < n * 3 by omega]
theorem free_row {m : HM} (hl : m.hs.length = m.n * 3) {bk : List Int} (h : ∀ b ∈ bk, m.hs.contains b = false) (t k : Nat) (ht : t < m.n) (hk : k < 3) : bk.contains (m.hs.getD (t * 3 + k) 0) = false := by
  rw [Bool.eq_false_iff]
  intro hc
  have hm : m.hs.getD (t * 3 + k) 0 ∈ bk := by simpa using hc
  have := h _ hm
  have hlt : t * 3 + k < m.hs.length := by omega
  rw [List.getD_eq_getElem?_getD, List.getElem?_eq_getElem hlt, Option.getD_some] at this
  simp at this
theorem keeps_long (t : Int) (A : Option Addr) (c : Nat) (ds : List DD) (w : World) (hl : 200 < ds.length) :
    Calls Try.prog 3 #[.int .i64 t, .slice A ds.length c] w fun e w' => e = .returned (.bool true) ∧ Below w.heap.size w w' := by
  go_enter Try.func3, Try.ntmps3
  go_wp2_with (go_at_call 9; refine (sane_calls _).mono ?_; rintro e w5 ⟨rfl, hb⟩; have B5 := Aside0.mk hb; clear hb)
  go_ret
  exact ⟨rfl, B5.out⟩
theorem keeps_none (t : Int) (A : Option Addr) (c : Nat) (ds : List DD) (w : World) (hl : ds.length ≤ 200) (h : t < 1 ∨ 4 < t) :
    Calls Try.prog 3 #[.int .i64 t, .slice A ds.length c] w fun e w' => e = .returned (.bool true) ∧ Below w.heap.size w w' := by
  have HN := Aside0.mk (new_bad t w h)
  go_enter Try.func3, Try.ntmps3
  go_wp2_with (first
    | (go_at_call 10; refine (HN.out).mono ?_; rintro e w1 ⟨rfl, hw⟩; rw [hw]; clear hw)
    | (go_at_call 9; refine (sane_calls _).mono ?_; rintro e w5 ⟨rfl, hb⟩; have B5 := Aside0.mk hb; clear hb))
  go_ret
  exact ⟨rfl, B5.out⟩
/-- What a round of the law knows of a deed. -/
structure Round (n : Nat) (S0 S1 : HM) (x : DD) (bk : List Int) (er : Int) : Prop where
  de : deed S0 x.d x.t x.k x.a = (S1, bk, er)
  good : Good S1
  num : S1.n = n
  small : bk.length ≤ 1000000
  few : S1.ws.length ≤ 48
  hs : holdsP S0 x.d x.t x.k x.a er = S1.hs
  free : ∀ t k, t < n → k < 3 → bk.contains (S1.hs.getD (t * 3 + k) 0) = false
  rest : x.d = 5 → ∀ j, j < S1.ws.length → heldT S1.hs ((S1.ws.map (·.2)).getD j 0) n = true
theorem round_of {n : Nat} {S0 : HM} (hg : Good S0) (hl0 : S0.hs.length = S0.n * 3) (hn : S0.n = n) (h4 : n ≤ 4) (x : DD) (hl1 : (deed S0 x.d x.t x.k x.a).1.hs.length = (deed S0 x.d x.t x.k x.a).1.n * 3) :
    Round n S0 (deed S0 x.d x.t x.k x.a).1 x (deed S0 x.d x.t x.k x.a).2.1 (deed S0 x.d x.t x.k x.a).2.2 := by
  have hg1 := hg.deed x.d x.t x.k x.a
  have hn1 : (deed S0 x.d x.t x.k x.a).1.n = n := (deed_n _ _ _ _ _).trans hn
  have hf0 := few hg (by omega)
  refine ⟨rfl, hg1, hn1, ?_, few hg1 (by omega), (hs_deed _ _ _ _ _).symm, fun t k ht hk => free_row hl1 (free_deed _ _ _ _ _) t k (by omega) hk, fun e j hj => ?_⟩
  · have := keeps_len (parts_deed hg x.d x.t x.k x.a)
    have h2 : (own1 S0 x.d x.t x.k x.a).length ≤ 49 := by
      unfold own1
      split
      · rw [List.length_append, List.length_map, List.length_singleton]; omega
      · rw [List.length_map]; omega
    omega
  · rw [e] at hj hl1 hn1 ⊢
    refine heldT_all (by rw [hl1, hn1]) _ ?_
    have h := rest_left hg x.t x.k x.a ((deed S0 5 x.t x.k x.a).1.ws[j]) (List.getElem_mem _)
    rw [List.getD_eq_getElem?_getD, List.getElem?_map, List.getElem?_eq_getElem hj]
    exact h
theorem holdsP_len (m : HM) (d t k a er : Int) : (holdsP m d t k a er).length = m.hs.length := by
  unfold holdsP
  split
  · rfl
  split
  · simp [outed]
  split
  · simp [held]
  · rfl
theorem man_grown {B : Nat} {w w' : World} {g : Nat} {A : Option Addr} {wv v : Value} {m : HM} {e : Nat} (hm : Man B w g A wv m) (hg : w.grownBy w' v.ownBlock) (he : e ≠ 53 ∧ e ≠ 66 ∧ e ≠ 61) (ht : ∀ k, v.ownBlock = some k → ∃ cells, w.heap[k]? = some (.cells cells e (0, 0))) : Man B w' g A wv m := by
  refine man_keep hm (fun k hf => hg.block k (hm.foot_lt k hf).2 (fun hk => ?_))
  obtain ⟨cells, hc⟩ := ht k hk.symm
  rcases hf with rfl | ⟨a, ha, rfl⟩ | hf
  · obtain ⟨cs, h53⟩ := hm.tag
    exact ne_of_tag h53 hc (fun e => he.1 e.symm) rfl
  · obtain ⟨b2, e, _, tl, hh⟩ := hm.row a ha
    subst e
    exact ne_of_tag hh hc (fun e => he.2.1 e.symm) rfl
  · obtain ⟨c2, hc2⟩ := own_tag hm.own k hf
    exact ne_of_tag hc2 hc (fun e => he.2.2 e.symm) rfl
theorem row_new (W : World) (base : Nat) (hb : base ≤ W.heap.size) : Kd.R (Kd.int .i64) 3 (W.alloc (.cells #[.int .i64 0, .int .i64 0, .int .i64 0] 3 (0, 0))) base (fun _ => True) (encP (W.heap.size, 3)) [0, 0, 0] :=
  Kd.R_of_own (xs := ([0, 0, 0] : List Int)) ⟨by decide, .inr ⟨W.heap.size, 3, #[.int .i64 0, .int .i64 0, .int .i64 0], rfl, hb, heap_alloc_new W _, Nat.le_refl _, by decide, rfl, rfl⟩⟩ (fun _ _ => trivial)
theorem keeps_walk (n : Nat) (A : Option Addr) (c : Nat) (ds : List DD) (w : World) (hd : DeedsAt w A ds) (h1 : 1 ≤ n) (h4 : n ≤ 4) (hl : ds.length ≤ 200) :
    Calls Try.prog 3 #[.int .i64 n, .slice A ds.length c] w fun e w' => e = .returned (.bool true) ∧ Below w.heap.size w w' := by
  have HN := Aside0.mk (new_calls w.heap.size n w (Nat.le_refl _) h1 h4)
  have HD := Aside0.mk hd
  have HS := Aside0.mk (playTo_succ (newM n) ds)
  have HG := Aside0.mk (play_good n ds)
  have hmk := make3
  obtain ⟨Z, hZ⟩ : ∃ Z, Z = (newM n).hs := ⟨_, rfl⟩
  have HZ := Aside0.mk hZ
  clear hd hZ
  go_enter Try.func3, Try.ntmps3
  go_wp2_with (go_at_call 10; refine (HN.out).mono ?_; rintro e w1 ⟨g, Ag, wv1, rfl, hm, hb, _⟩; have M1 := Aside0.mk hm; have B1 := Aside0.mk hb; have hsz1 := hb.size; clear hm hb)
  go_loopg [7, 8] n (fun gg v7 v8 wr => ∃ (kk : Nat) (qs : List (Nat × Nat)), kk ≤ n ∧ n - kk ≤ gg ∧ v8 = .int .i64 kk ∧ qs.length = kk ∧ Aside0 (Man w.heap.size wr g Ag wv1 (newM n)) ∧ Aside0 (HL wr w.heap.size v7 qs Z) ∧ Aside0 (Below w.heap.size w wr))
  case atStart => exact ⟨0, [], Nat.zero_le _, by omega, rfl, rfl, M1, ⟨HL.nil _ _ _⟩, B1⟩
  case round =>
    clear M1 B1
    obtain ⟨kk, qs, hkk, hgg, rfl, hql, M1, L1, B1⟩ := hrel
    by_cases hlt : kk < n
    · have hlim : (qs.length + 1) * 24 ≤ 140737488355328 := by omega
      have hsz := B1.out.size
      have HQL := Aside0.mk hql
      clear hql
      go_wp2_with ((with_reducible refine gate_builtin (b := .append) (xs := #[.tmp 36, .tmp 38]) rfl ?_); at_builtin; refine Kd.R_append kdP (w0 := w) w.heap.size rfl (.tmp 36) (.tmp 38) 28 29 (.slice none 0 0) 24 rfl Try.underlying28 info29 rfl (by decide) (by omega) u7 qs (wr.heap.size, 3) [encP (wr.heap.size, 3)] (fun _ => True) (fun _ => False) rfl (by rw [alloc_size]; rfl) rfl (fun _ hk => hk.elim) (fun _ _ => trivial) (Kd.R_alloc L1.out.top _) (B1.out.alloc hsz _) (by rw [alloc_size]; omega) hlim ?_; intro v1 wn ho hb hg hat; have HO := Aside0.mk ho; have HBN := Aside0.mk hb; have HGR := Aside0.mk hg; clear ho hb hg hat)
      go_roundg (n - (kk + 1))
      case measure => omega
      case rel =>
        have hb0 := (Below.refl wr.heap.size wr).alloc (Nat.le_refl _) (.cells #[.int .i64 0, .int .i64 0, .int .i64 0] 3 (0, 0))
        refine ⟨kk + 1, qs ++ [(wr.heap.size, 3)], by omega, by omega, by go_num, by rw [List.length_append, HQL.out]; rfl, ⟨man_grown (M1.out.grow hb0) HGR.out (e := 29) (by decide) (fun k hk => Kd.R_typed (L1.out.grow hb0).top k hk)⟩, ⟨?_⟩, HBN⟩
        refine HL.snoc (L1.out.grow hb0) HO.out HGR.out ?_ (L1.out.fresh _ (Nat.le_refl _))
        rw [HZ.out, HQL.out]
        show Kd.R _ 3 _ _ _ _ (three (List.replicate (n * 3) 0) kk)
        rw [three_zero n kk hlt]
        exact row_new wr _ hsz
    · have hkn : kk = n := by omega
      subst hkn
      rw [HZ.out] at L1
      clear HZ hmk
      go_wp2
      go_loopg [7, 9, 10, 11, 12, 13, 14, 15, 16, 17, 18] ds.length (fun gg v7 v9 v10 v11 v12 v13 v14 v15 v16 v17 v18 wr => ∃ (ii : Nat) (wvk : Value) (ps : List (Nat × Nat)), ii ≤ ds.length ∧ ds.length - ii ≤ gg ∧ v9 = .int .i64 ii ∧ ps.length = kk ∧ Aside0 (Man w.heap.size wr g Ag wvk (playTo (newM kk) ds ii)) ∧ Aside0 (HL wr w.heap.size v7 ps (playTo (newM kk) ds ii).hs) ∧ Aside0 (Below w.heap.size w wr))
      case atStart => exact ⟨0, _, qs, Nat.zero_le _, by omega, rfl, hql, M1, L1, B1⟩
      case round =>
        clear M1 L1 B1 hql qs
        obtain ⟨ii, wvk, ps, hii, hgi, rfl, hpl, M1, L1, B1⟩ := hrel
        by_cases hlt : ii < ds.length
        · obtain ⟨ad, rfl, e1, e2, e3, e4⟩ := HD.out.below B1.out ii hlt
          rw [add_field ad (ii * 4) 1 (by decide)] at e2
          rw [add_field ad (ii * 4) 2 (by decide)] at e3
          rw [add_field ad (ii * 4) 3 (by decide)] at e4
          have E4 := Aside0.mk (fun (W : World) (hW : Below w.heap.size w W) => HD.out.below hW ii hlt)
          obtain ⟨hg0, hn0⟩ := HG.out ii hii
          have hsn := HS.out ii hlt
          have hl0 := M1.out.len
          have hdx := done_calls M1.out B1.out.size (by have := few hg0 (by omega); omega) ds[ii]!.d ds[ii]!.t ds[ii]!.k ds[ii]!.a
          have hrd := round_of hg0 hl0 hn0 h4 ds[ii]! (by rw [hs_deed, holdsP_len, hl0, deed_n])
          rw [show (step1 (playTo (newM kk) ds ii) ds[ii]!).1 = (deed (playTo (newM kk) ds ii) ds[ii]!.d ds[ii]!.t ds[ii]!.k ds[ii]!.a).1 from rfl] at hsn
          generalize ds[ii]! = x at *
          generalize hG1 : playTo (newM kk) ds (ii + 1) = S1 at *
          have HG1e := Aside0.mk hG1
          clear hG1
          generalize playTo (newM kk) ds ii = S0 at *
          obtain ⟨bk, er, hde⟩ : ∃ bk er, deed S0 x.d x.t x.k x.a = (S1, bk, er) := ⟨_, _, Prod.ext hsn.symm rfl⟩
          rw [hde] at hdx hrd
          simp only at hrd
          have HDX := Aside0.mk hdx
          have HR := Aside0.mk hrd
          obtain ⟨A7, c7, hv7⟩ := L1.out.slice
          have hholds := fun (W : World) (hL : HL W w.heap.size (.slice A7 ps.length c7) ps S0.hs) (hB : w.heap.size ≤ W.heap.size) => holds_calls hL (by rw [hpl, hn0]) (by omega) hl0 hB x.d x.t x.k x.a er
          rw [hrd.hs, hpl] at hholds
          rw [hpl] at hv7
          subst hv7
          have HH := Aside0.mk hholds
          have hlw := hrd.few
          have HPL := Aside0.mk hpl
          clear hdx hde hsn hg0 hrd hholds hl0 hpl
          go_wp2_with (first
            | (go_at_call 11; refine (HDX.out).mono ?_; rintro e w3 ⟨v3, rfl, hr, wv3, hm, hk, hb, hw⟩; obtain ⟨A3, c3, rfl⟩ := Kd.R_slice hr; have Q3 := Aside0.mk hr; have M3 := Aside0.mk hm; have L3 := Aside0.mk (L1.out.deed M1.out hk); have B3 := Aside0.mk (B1.out.trans hb); clear hr hm hk hb hw e1 e2 e3 e4; obtain ⟨ad', ead, e1, e2, e3, e4⟩ := E4.out _ B3.out; obtain rfl : ad = ad' := Option.some.inj ead; rw [add_field ad (ii * 4) 1 (by decide)] at e2; rw [add_field ad (ii * 4) 2 (by decide)] at e3; rw [add_field ad (ii * 4) 3 (by decide)] at e4; clear ead)
            | (go_at_call 12; refine (HH.out w3 (HPL.out ▸ L3.out) B3.out.size).mono ?_; rintro e w4 ⟨v4, ps4, rfl, hp4, hL4, hb⟩; obtain ⟨A4, c4, rfl⟩ := hL4.slice; rw [hp4] at hL4; have HP4 := Aside0.mk (id hp4); have L4 := Aside0.mk hL4; have Q4 := Aside0.mk (Kd.R_below Q3.out hb); have M4 := Aside0.mk (M3.out.grow hb); have B4 := Aside0.mk (B3.out.trans (hb.mono B3.out.size)); rw [hp4]; clear hL4 hb hp4 e1 e2 e3 e4; obtain ⟨ad', ead, e1, e2, e3, e4⟩ := E4.out _ B4.out; obtain rfl : ad = ad' := Option.some.inj ead; clear e2 e3 e4 ead)
            | (go_at_call 13; refine (waiting_calls M4.out (by omega)).mono ?_; rintro e w5 ⟨v5, rfl, hr, hb⟩; obtain ⟨A5, c5, rfl⟩ := Kd.R_slice hr; have W5 := Aside0.mk hr; have M5 := Aside0.mk (M4.out.grow hb); have Q5 := Aside0.mk (Kd.R_below Q4.out hb); have L5 := Aside0.mk (L4.out.grow hb); have B5 := Aside0.mk (B4.out.trans (hb.mono B4.out.size)); clear hr hb))
          have L5' : HL w5 w.heap.size (.slice A4 ps4.length c4) ps4 S1.hs := by rw [HP4.out]; exact L5.out
          obtain ⟨g7, rfl, _, hg7, _⟩ := L5'.cell 0 (by rw [HP4.out]; omega)
          have CC := Aside0.mk (show ∀ t, t < kk → ∃ p1 p2, w5.cell? ⟨g7, t, none⟩ = some (.slice (some ⟨p1, 0, none⟩) 3 p2) ∧ Kd.R (Kd.int .i64) 3 w5 w.heap.size (fun _ => True) (.slice (some ⟨p1, 0, none⟩) 3 p2) (three S1.hs t) from fun t ht => by
            obtain ⟨g8, e8, _, _, hc, _⟩ := L5'.cell t (by rw [HP4.out]; exact ht)
            injection e8 with e8; injection e8 with e8; subst e8
            exact ⟨_, _, hc, L5'.row t (by rw [HP4.out]; exact ht)⟩)
          have CK := Aside0.mk (show ∀ t p1 p2, w5.cell? ⟨g7, t, none⟩ = some (.slice (some ⟨p1, 0, none⟩) 3 p2) → t < kk → ∀ k, k < 3 → w5.cell? ⟨p1, k, none⟩ = some (.int .i64 (S1.hs.getD (t * 3 + k) 0)) from fun t p1 p2 hc0 ht k hk => by
            obtain ⟨g8, e8, _, _, hc, _⟩ := L5'.cell t (by rw [HP4.out]; exact ht)
            injection e8 with e8; injection e8 with e8; subst e8
            rw [hc0] at hc
            injection hc with hc; injection hc with hc; injection hc with hc; injection hc with hc
            rw [hc]
            exact (L5'.cellRow t k (by rw [HP4.out]; exact ht) hk).1)
          have hfree := HR.out.free
          have hrest := HR.out.rest
          have hsm := HR.out.small
          have hlenl : (S1.ws.map (·.2)).length = S1.ws.length := List.length_map _
          have W5R := reads_R W5.out
          generalize S1.ws.map (·.2) = LL at hrest hlenl W5R
          have ELL := Aside0.mk hlenl
          have W5S := Aside0.mk W5R
          have HF := Aside0.mk hfree
          have HRE := Aside0.mk hrest
          have HASB := Aside0.mk (fun (y : Int) => has_calls A3 c3 bk y w5 (reads_R Q5.out) hsm)
          clear L5' hfree hrest hlenl W5R
          go_loopg [14, 15] kk (fun gg v14 v15 wr2 => ∃ tt : Nat, tt ≤ kk ∧ kk - tt ≤ gg ∧ v14 = .int .i64 tt ∧ w5 = wr2)
          case atStart => exact ⟨0, Nat.zero_le _, by omega, rfl, rfl⟩
          case round =>
            obtain ⟨tt, htt, hgt, rfl, hw⟩ := hrel
            subst hw
            by_cases htk : tt < kk
            · obtain ⟨p1, p2, hc1, _⟩ := CC.out tt htk
              go_wp2
              go_loopg [15] 3 (fun gg v15 wr3 => ∃ k : Nat, k ≤ 3 ∧ 3 - k ≤ gg ∧ v15 = .int .i64 k ∧ w5 = wr3)
              case atStart => exact ⟨0, Nat.zero_le _, by omega, rfl, rfl⟩
              case round =>
                obtain ⟨k, hk3, hgk, rfl, hw⟩ := hrel
                subst hw
                by_cases hk : k < 3
                · have hc2 := CK.out tt p1 p2 hc1 htk k hk
                  have hff := HF.out tt k htk hk
                  generalize S1.hs.getD (tt * 3 + k) 0 = y at hc2 hff
                  have HY := Aside0.mk hff
                  clear hff
                  go_wp2_with (go_at_call 14; refine (HASB.out y).mono ?_; rw [HY.out]; rintro e w6 ⟨rfl, hw⟩; rw [hw]; clear hw)
                  go_roundg (3 - (k + 1))
                  case measure => omega
                  case rel => exact ⟨k + 1, by omega, by omega, by go_num, rfl⟩
                · go_wp2
                  go_roundg (kk - (tt + 1))
                  case measure => omega
                  case rel => exact ⟨tt + 1, by omega, by omega, by go_num, rfl⟩
            · go_wp2
              go_loopg [16, 17, 18] S1.ws.length (fun gg v16 v17 v18 wr2 => ∃ jj q : Nat, jj ≤ S1.ws.length ∧ S1.ws.length - jj ≤ gg ∧ v16 = .int .i64 jj ∧ wr2 = w5.drewN q)
              case atStart => exact ⟨0, 0, Nat.zero_le _, by omega, rfl, rfl⟩
              case round =>
                obtain ⟨jj, q, hjj, hgj, rfl, rfl⟩ := hrel
                by_cases hjl : jj < S1.ws.length ∧ x.d = 5
                · obtain ⟨hjl, h5⟩ := hjl
                  obtain ⟨a5, rfl, hcw⟩ := W5S.out jj (by rw [ELL.out]; exact hjl)
                  have hhe := HRE.out h5 jj hjl
                  generalize LL.getD jj 0 = y at hcw hhe
                  have HHE := Aside0.mk hhe
                  have HASR := Aside0.mk (fun (t : Nat) (p1 p2 : Nat) (hr : Kd.R (Kd.int .i64) 3 w5 w.heap.size (fun _ => True) (.slice (some ⟨p1, 0, none⟩) 3 p2) (three S1.hs t)) (W : World) (hW : ∃ m, W = w5.drewN m) => (show Calls Try.prog 14 #[.slice (some ⟨p1, 0, none⟩) 3 p2, .int .i64 y] W fun e w' => e = .returned (.bool ((three S1.hs t).contains y)) ∧ w' = W from has_calls _ p2 (three S1.hs t) y W (by obtain ⟨m, rfl⟩ := hW; exact readsI_drewN (reads_R hr) m) (by show 3 ≤ 1000000; decide)))
                  clear hhe
                  go_wp2
                  go_loopg [17, 18] kk (fun gg v17 v18 wr3 => ∃ tt q : Nat, tt ≤ kk ∧ kk - tt ≤ gg ∧ v18 = .int .i64 tt ∧ v17 = .bool (heldT S1.hs y tt) ∧ wr3 = w5.drewN q)
                  case atStart => exact ⟨0, q, Nat.zero_le _, by omega, rfl, rfl, rfl⟩
                  case round =>
                    obtain ⟨t2, q, ht2, hg2, rfl, rfl, rfl⟩ := hrel
                    by_cases htk2 : t2 < kk
                    · obtain ⟨p1, p2, hc1, hr1⟩ := CC.out t2 htk2
                      have HC := Aside0.mk (HASR.out t2 p1 p2 hr1)
                      have hn : heldT S1.hs y (t2 + 1) = (heldT S1.hs y t2 || (three S1.hs t2).contains y) := rfl
                      have HNX := Aside0.mk hn
                      clear hn hr1
                      generalize (three S1.hs t2).contains y = b2 at HC HNX
                      cases hb : heldT S1.hs y t2 with
                      | true =>
                        rw [hb] at HNX
                        go_wp2
                        go_quiet (fail)
                        go_wp2
                        go_roundg (kk - (t2 + 1))
                        case measure => omega
                        case rel => exact ⟨t2 + 1, _, by omega, by omega, by go_num, by rw [HNX.out]; rfl, rfl⟩
                      | false =>
                        rw [hb] at HNX
                        rw [Bool.false_or] at HNX
                        go_wp2
                        go_quiet ((go_at_call 14; exact (HC.out _ ⟨_, rfl⟩).mono (fun e w' h => ⟨h.1, _, h.2⟩)))
                        go_wp2
                        go_roundg (kk - (t2 + 1))
                        case measure => omega
                        case rel => exact ⟨t2 + 1, _, by omega, by omega, by go_num, by rw [HNX.out], rfl⟩
                    · have htk3 : t2 = kk := by omega
                      subst htk3
                      rw [HHE.out]
                      go_wp2
                      go_roundg (S1.ws.length - (jj + 1))
                      case measure => omega
                      case rel => exact ⟨jj + 1, _, by omega, by omega, by go_num, rfl⟩
                · have hout : (decide (jj < S1.ws.length) && (x.d == 5)) = false := by
                    by_cases hj : jj < S1.ws.length
                    · have : ¬ x.d = 5 := fun e => hjl ⟨hj, e⟩
                      simp [this]
                    · simp [hj]
                  by_cases hj : jj < S1.ws.length
                  · have hx5 : (x.d == 5) = false := by
                      have : ¬ x.d = 5 := fun e => hjl ⟨hj, e⟩
                      simpa using this
                    clear hout hjl
                    go_wp2
                    go_roundg (ds.length - (ii + 1))
                    case measure => omega
                    case rel =>
                      have hb := pw_below_drewN (Below.refl w5.heap.size w5) q
                      exact ⟨ii + 1, _, ps4, by omega, by omega, by go_num, HP4.out, ⟨by rw [HG1e.out]; exact M5.out.grow hb⟩, ⟨by rw [HG1e.out]; exact L5.out.grow hb⟩, ⟨B5.out.trans (hb.mono B5.out.size)⟩⟩
                  · clear hout hjl
                    go_wp2
                    go_roundg (ds.length - (ii + 1))
                    case measure => omega
                    case rel =>
                      have hb := pw_below_drewN (Below.refl w5.heap.size w5) q
                      exact ⟨ii + 1, _, ps4, by omega, by omega, by go_num, HP4.out, ⟨by rw [HG1e.out]; exact M5.out.grow hb⟩, ⟨by rw [HG1e.out]; exact L5.out.grow hb⟩, ⟨B5.out.trans (hb.mono B5.out.size)⟩⟩
        · go_wp2_with (go_at_call 9; refine (sane_calls _).mono ?_; rintro e w5 ⟨rfl, hb⟩; have B5 := Aside0.mk (B1.out.trans (hb.mono B1.out.size)); clear hb)
          go_ret
          exact ⟨rfl, B5.out⟩
theorem keeps_row (t : Int) (A : Option Addr) (len c : Nat) (ds : List DD) (w : World) (_ht : (Lit.int .i64 t).wf = true) (hd : ds.length = len ∧ DeedsAt w A ds) :
    Calls Try.prog 3 #[.int .i64 t, .slice A len c] w fun e w' => e = .returned (.bool true) ∧ Below w.heap.size w w' := by
  obtain ⟨rfl, hd⟩ := hd
  by_cases hl : ds.length ≤ 200
  · by_cases h : 1 ≤ t ∧ t ≤ 4
    · obtain ⟨n, rfl⟩ := Int.eq_ofNat_of_zero_le (show 0 ≤ t by omega)
      exact keeps_walk n A c ds w hd (by omega) (by omega) hl
    · exact keeps_none t A c ds w hl (by omega)
  · exact keeps_long t A c ds w (by omega)
end Go.Proofs.Ytgdadefobhfkcaa.Hy
