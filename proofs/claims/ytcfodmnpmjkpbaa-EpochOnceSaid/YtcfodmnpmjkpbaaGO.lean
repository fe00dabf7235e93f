/- The walk of EpochOnce: plain lemmas; no condition. -/
import Derived.Test.YtcfodmnpmjkpbaaGO0
import Derived.Test.YtcfodmnpmjkpbaaGK
import Derived.Test.YtcfodmnpmjkpbaaGR
namespace Go.Proofs.Ytcfodmnpmjkpbaa.Ep
open Go.RowKit Go.Proofs.YtcfodmnpmjkpbaaW.PrintWords Go.Proofs.YtcfodmnpmjkpbaaW.PrintLast Go.Proofs.YtcfodmnpmjkpbaaW.PrintMore
set_option linter.unusedVariables false
set_option linter.unusedSimpArgs false
set_option maxHeartbeats 8000000
set_option maxRecDepth 100000
/-- What a law's own list grows into leaves the manager alone. -/
theorem man_app {B base : Nat} {w W : World} {g : Nat} {tv wv v : Value} {m : EM} {xs : List Int} (hm : Man B w g tv wv m) (h : Kd.R (Kd.int .i64) 3 w base (fun _ => True) v xs) (hg : g < base) (htv : ∀ k, tv.ownBlock = some k → k < base) (hgr : w.grownBy W v.ownBlock) : Man B W g tv wv m := by
  refine man_keep hm (fun k hk => hgr.block k (hm.foot_lt k hk).2 (fun he => ?_))
  have hb := Kd.R_base h k he.symm
  rcases hk with rfl | hk | hk
  · omega
  · have := htv k hk; omega
  · obtain ⟨c, hc⟩ := Kd.R_typed h k he.symm
    obtain ⟨c2, hc2⟩ := own_tag hm.own k hk
    exact ne_of_tag hc2 hc (by decide) rfl
theorem x_cells {W : World} {b : Nat} {x : DD} (h : W.heap[b]? = some (.cells #[.int .i64 x.d, .int .i64 x.t, .int .i64 x.k, .int .i64 x.a] 45 (0, 0))) :
    W.cell? ⟨b, 0, none⟩ = some (.int .i64 x.d) ∧ W.cell? ⟨b, 1, none⟩ = some (.int .i64 x.t) ∧ W.cell? ⟨b, 2, none⟩ = some (.int .i64 x.k) ∧ W.cell? ⟨b, 3, none⟩ = some (.int .i64 x.a) := by
  refine ⟨?_, ?_, ?_, ?_⟩
  all_goals
    rw [Go.Lib.cell_of_heap h]
    rfl
theorem head_row {W : World} {base b n cap : Nat} {ok : Nat → Prop} {L : List Int} (h : Kd.R (Kd.int .i64) 3 W base ok (.slice (some ⟨b, 0, none⟩) n cap) L) (i : Nat) (hi : i ≤ L.length) :
    Kd.C (Kd.int .i64) W (some ⟨b, 0, none⟩) i (L.take i) := by
  have := (Kd.R_reads' (Kd.R_take h hi)).2.2
  have e : (L.take i).length = i := by simp; omega
  rwa [e] at this
theorem tail_row {W : World} {base b n cap : Nat} {ok : Nat → Prop} {L : List Int} (h : Kd.R (Kd.int .i64) 3 W base ok (.slice (some ⟨b, 0, none⟩) n cap) L) (i : Nat) (hi : i ≤ L.length) (A : Option Addr) (hA : i < L.length → A = some ⟨b, i, none⟩) :
    Kd.C (Kd.int .i64) W A (L.length - i) (L.drop i) := by
  obtain ⟨h1, h2, h3⟩ := (Kd.R_reads' h).2.2
  refine ⟨by simp, by omega, fun hp => ?_⟩
  obtain ⟨ad, e, hc⟩ := h3 (by omega)
  injection e with e
  subst e
  refine ⟨⟨b, i, none⟩, hA (by omega), fun j p hj => ?_⟩
  obtain ⟨c, c1, c2, c3⟩ := hc (i + j) p (by rw [List.getElem?_drop] at hj; exact hj)
  refine ⟨c, c1, c2, fun q u hq => ?_⟩
  have := c3 q u hq
  rw [add_plain] at this
  rw [show (⟨b, i, none⟩ : Addr).add (j * (Kd.int .i64).sz + q) = ⟨b, (i + j) * (Kd.int .i64).sz + q, none⟩ from ?_]
  · exact this
  · show (⟨b, i, none⟩ : Addr).add (j * 1 + q) = ⟨b, (i + j) * 1 + q, none⟩
    unfold Addr.add
    split
    · congr 1; omega
    · show (⟨b, i + (j * 1 + q), none⟩ : Addr) = _
      congr 1; omega
theorem empty_lit (w : World) (base : Nat) (hB : base ≤ w.heap.size) : Kd.R (Kd.int .i64) 3 (w.alloc (.cells #[] 3 (0, 0))) base (fun _ => True) (.slice (some ⟨w.heap.size, 0, none⟩) 0 0) [] := by
  refine Kd.R_of_own (xs := ([] : List Int)) ⟨rfl, .inr ⟨w.heap.size, 0, #[], rfl, hB, heap_alloc_new w _, Nat.le_refl _, by decide, rfl, rfl⟩⟩ (fun _ _ => trivial)
theorem once_walk (t : Int) (A : Option Addr) (c : Nat) (ds : List DD) (w : World) (hd : DeedsAt w A ds) :
    Calls Try.prog 8 #[.int .i64 t, .slice A ds.length c] w fun e w' => e = .returned (.bool true) ∧ Below w.heap.size w w' := by
  have HD := Aside0.mk hd
  clear hd
  go_enter Try.func8, Try.ntmps8
  go_wp2_with (first
    | (go_at_call 12; refine (awake_calls _).mono ?_; rintro e w1 ⟨rfl, hb⟩; have B1 := Aside0.mk hb; clear hb)
    | (go_at_call 22; refine (made_nil t w1).mono ?_; rintro e w2 ⟨n, g, tv, wv, cur, hn1, hn4, rfl, hm, hcs, hone, hb⟩; have M2 := Aside0.mk hm; have HCS := Aside0.mk hcs; have B2 := Aside0.mk (btrans B1.out hb); have hone := Aside0.mk hone; clear hm hcs hb)
    | ((with_reducible refine gate_ (.alloc 38) rfl ?_); refine wpList_alloc38 rfl rfl ?_; intro W3 hz hb hs; have HZ := Aside0.mk hz; have M3 := Aside0.mk (M2.out.grow hb); have B3 := Aside0.mk (btrans B2.out hb); have hsz2 := B2.out.size; clear hz hb hs)
    | ((with_reducible refine gate_ (.store 38 (.tmp 6) (.tmp 24)) rfl ?_); refine wpList_store_whole rfl 38 (.tmp 6) (.tmp 24) rfl w2.heap.size cur zero30 38 rfl rfl HZ.out HCS.out.symm (by rw [info38, HCS.out]) hone.out ?_; intro W4 h3 far e1 e2 e3 e4; have M4 := Aside0.mk (man_keep M3.out (w' := W4) (fun k hk => far k (by have := (M2.out.foot_lt k hk).2; omega))); have B4 := Aside0.mk (below_store B3.out hsz2 far e1 e2 e3 e4); clear h3 far e1 e2 e3 e4 M3 B3 HZ M2 hone HCS))
  have hw1 : w.heap.size ≤ w1.heap.size := B1.out.size
  have hgl := blk_lt M4.out.top
  have hg1 := M4.out.bg
  have HTL := Aside0.mk (fun k hk => own_lt M4.out.tow k hk)
  obtain ⟨b0, hb0⟩ : ∃ b0, b0 = W4.heap.size := ⟨_, rfl⟩
  have h0b : b0 ≤ W4.heap.size := by omega
  rw [← hb0] at hgl HTL
  clear hb0 B1 B2
  have HPL := Aside0.mk (playTo_low n ds)
  have HS1 := Aside0.mk (playTo_succ (newM n) ds)
  have HG := Aside0.mk (good_play n ds)
  go_loopg [8, 9, 10, 11, 12, 13, 14, 15, 16, 17] (min ds.length 150) (fun gg v8 v9 v10 v11 v12 v13 v14 v15 v16 v17 wr => ∃ (kk : Nat) (wvk : Value), kk ≤ min ds.length 150 ∧ min ds.length 150 - kk ≤ gg ∧ v9 = .int .i64 kk ∧ b0 ≤ wr.heap.size ∧ Aside0 (Man w1.heap.size wr g tv wvk (playTo (newM n) ds kk)) ∧ Aside0 (Kd.R (Kd.int .i64) 3 wr b0 (fun _ => True) v8 (addrs (playTo (newM n) ds kk))) ∧ Aside0 (Below w.heap.size w wr))
  case atStart => exact ⟨0, _, Nat.zero_le _, by omega, rfl, h0b, M4, ⟨Kd.R_nil _ _ _ _ _⟩, B4⟩
  case round =>
    clear M4 B4 h0b
    obtain ⟨kk, wvk, hkk, hgg, rfl, hbr, M4, R4, B4⟩ := hrel
    obtain ⟨⟨p1, p2, p3⟩, p4⟩ := HPL.out kk (by omega)
    have hal : (addrs (playTo (newM n) ds kk)).length ≤ 150 := by unfold addrs; rw [List.length_map]; omega
    by_cases hlt : kk < min ds.length 150
    · have hl1 : kk < ds.length := by omega
      have hl2 : kk < 150 := by omega
      have hl2i : (kk : Int) < 150 := by omega
      obtain ⟨ad, rfl, e1, e2, e3, e4⟩ := HD.out kk hl1
      rw [add_field ad (kk * 4) 1 (by decide)] at e2
      rw [add_field ad (kk * 4) 2 (by decide)] at e3
      rw [add_field ad (kk * 4) 3 (by decide)] at e4
      replace e1 := (B4.out.cell (World.block_lt_of_cell? w _ e1)).trans e1
      replace e2 := (B4.out.cell (World.block_lt_of_cell? w _ e2)).trans e2
      replace e3 := (B4.out.cell (World.block_lt_of_cell? w _ e3)).trans e3
      replace e4 := (B4.out.cell (World.block_lt_of_cell? w _ e4)).trans e4
      obtain ⟨⟨p5, p6, p7⟩, p8⟩ := HPL.out (kk + 1) (by omega)
      have hs1 := HS1.out kk hl1
      rw [show (step1 (playTo (newM n) ds kk) ds[kk]!).1 = (deed (playTo (newM n) ds kk) ds[kk]!.d ds[kk]!.t ds[kk]!.k ds[kk]!.a).1 from rfl] at hs1
      have hgood := HG.out kk (by omega)
      have hparts := parts_deed hgood ds[kk]!.d ds[kk]!.t ds[kk]!.k ds[kk]!.a
      have hond := own1_nodup hgood ds[kk]!.d ds[kk]!.t ds[kk]!.k ds[kk]!.a
      have hbl := back_len (playTo (newM n) ds kk) ds[kk]!.d ds[kk]!.t ds[kk]!.k ds[kk]!.a
      have hbef := before_no (m := playTo (newM n) ds kk) ds[kk]!.t ds[kk]!.k ds[kk]!.a
      have hown : own1 (playTo (newM n) ds kk) ds[kk]!.d ds[kk]!.t ds[kk]!.k ds[kk]!.a = if ds[kk]!.d = 4 ∧ (deed (playTo (newM n) ds kk) ds[kk]!.d ds[kk]!.t ds[kk]!.k ds[kk]!.a).2.2 = 0 then addrs (playTo (newM n) ds kk) ++ [ds[kk]!.a] else addrs (playTo (newM n) ds kk) := rfl
      generalize own1 (playTo (newM n) ds kk) ds[kk]!.d ds[kk]!.t ds[kk]!.k ds[kk]!.a = L0 at *
      generalize ds[kk]! = x at *
      generalize hG1 : playTo (newM n) ds (kk + 1) = S1 at *
      have HG1e := Aside0.mk hG1
      clear hG1
      generalize playTo (newM n) ds kk = S0 at *
      rw [← hs1] at hparts
      obtain ⟨bk, er, hde⟩ : ∃ bk er, deed S0 x.d x.t x.k x.a = (S1, bk, er) := ⟨_, _, Prod.ext hs1.symm rfl⟩
      have hwl : S0.ws.map (·.1) = addrs S0 := rfl
      have HWL := Aside0.mk hwl
      have hdo := fun (W : World) (hM : Man w1.heap.size W g tv wvk S0) (hB : w1.heap.size ≤ W.heap.size) => do_calls hM hB (by omega) (by omega) p2 (by omega) x.d x.t x.k x.a
      have hbe := (Below.refl wr.heap.size wr).alloc (Nat.le_refl _) (.cells #[.int .i64 x.d, .int .i64 x.t, .int .i64 x.k, .int .i64 x.a] 45 (0, 0))
      have hx0 : (wr.alloc (.cells #[.int .i64 x.d, .int .i64 x.t, .int .i64 x.k, .int .i64 x.a] 45 (0, 0))).heap[wr.heap.size]? = some (.cells #[.int .i64 x.d, .int .i64 x.t, .int .i64 x.k, .int .i64 x.a] 45 (0, 0)) := heap_alloc_new wr _
      have M6 := Aside0.mk ((M4.out.grow hbe).grow (below_drew1 (Below.refl _ _)))
      have R6 := Aside0.mk (Kd.R_drew (Kd.R_below R4.out hbe))
      have B6 := Aside0.mk (below_drew1 (B4.out.trans (hbe.mono B4.out.size)))
      have hbz := hbe.size
      have HX0 := Aside0.mk hx0
      have hpw : 0 < S0.th.length := by omega
      have hw1r : w1.heap.size ≤ wr.heap.size := by have := M4.out.bg; have := blk_lt M4.out.top; omega
      have MF := Aside0.mk (fun k hk => (M4.out.foot_lt k hk).2)
      have hsz6 : wr.heap.size < (wr.alloc (.cells #[.int .i64 x.d, .int .i64 x.t, .int .i64 x.k, .int .i64 x.a] 45 (0, 0))).drew.heap.size := by show _ < (wr.alloc _).heap.size; rw [alloc_size]; omega
      obtain ⟨c0, c1, c2, c3⟩ := x_cells hx0
      rw [hde] at hown hbl hparts
      simp only at hown hbl hparts
      obtain ⟨bf, hbf⟩ : ∃ bf, bf = (addrs S0).contains x.a := ⟨_, rfl⟩
      have hhas : ∀ A c W, ReadsI W A (addrs S0) → Calls Try.prog 25 #[.slice A (addrs S0).length c, .int .i64 x.a] W fun e w' => e = .returned (.bool bf) ∧ w' = W := fun A c W hr => by rw [hbf]; exact hasL_calls A c (addrs S0) x.a W hr (by omega)
      have HHAS := Aside0.mk hhas
      have HDO := Aside0.mk hdo
      have hd2 : ∀ W, Man w1.heap.size W g tv wvk S0 → w1.heap.size ≤ W.heap.size → Calls Try.prog 16 #[.pointer (some ⟨g, 0, none⟩), .agg #[.int .i64 x.d, .int .i64 x.t, .int .i64 x.k, .int .i64 x.a]] W (Told w1.heap.size W g tv wvk (S1, bk, er)) := fun W hM hB => by rw [← hde]; exact hdo W hM hB
      have HDO := Aside0.mk hd2
      have OL := Aside0.mk (Kd.R_lt R4.out)
      clear hdo hd2 hhas hx0 hbe M4 R4 B4
      have key : ((x.d == 4) = true ∧ er = 0 ∧ bf = false ∧ Aside0 (L0 = addrs S0 ++ [x.a])) ∨ ((x.d == 4) = true ∧ (er == 0) = false ∧ bf = true ∧ Aside0 (L0 = addrs S0)) ∨ ((x.d == 4) = true ∧ (er == 0) = false ∧ bf = false ∧ Aside0 (L0 = addrs S0)) ∨ ((x.d == 4) = false ∧ Aside0 (L0 = addrs S0)) := by
        by_cases f4 : x.d = 4
        · have g4 : (x.d == 4) = true := by simp [f4]
          by_cases f0 : er = 0
          · refine .inl ⟨g4, f0, ?_, ⟨by rw [hown, if_pos ⟨f4, f0⟩]⟩⟩
            rw [hbf]
            apply hbef
            have hde2 := hde
            rw [f4] at hde2
            rw [hde2]; exact f0
          · cases bf
            · exact .inr (.inr (.inl ⟨g4, by simpa using f0, rfl, ⟨by rw [hown, if_neg (fun q => f0 q.2)]⟩⟩))
            · exact .inr (.inl ⟨g4, by simpa using f0, rfl, ⟨by rw [hown, if_neg (fun q => f0 q.2)]⟩⟩)
        · exact .inr (.inr (.inr ⟨by simpa using f4, ⟨by rw [hown, if_neg (fun q => f4 q.1)]⟩⟩))
      have HPA := Aside0.mk hparts
      have HND := Aside0.mk hond
      have hL0 : L0.length ≤ 151 := by rw [hown]; split <;> first | (simp; omega) | omega
      clear hbf hown hbef hparts hond hde hs1 hwl hgood
      have hw6 : Calls Try.prog 19 #[.pointer (some ⟨g, 0, none⟩)] (wr.alloc (.cells #[.int .i64 x.d, .int .i64 x.t, .int .i64 x.k, .int .i64 x.a] 45 (0, 0))).drew fun e w' => ∃ v, e = .returned v ∧ Kd.R (Kd.int .i64) 3 w' (wr.alloc (.cells #[.int .i64 x.d, .int .i64 x.t, .int .i64 x.k, .int .i64 x.a] 45 (0, 0))).drew.heap.size (fun _ => True) v (addrs S0) ∧ Below (wr.alloc (.cells #[.int .i64 x.d, .int .i64 x.t, .int .i64 x.k, .int .i64 x.a] 45 (0, 0))).drew.heap.size (wr.alloc (.cells #[.int .i64 x.d, .int .i64 x.t, .int .i64 x.k, .int .i64 x.a] 45 (0, 0))).drew w' := waiting_calls M6.out hpw (by omega)
      have HW6 := Aside0.mk hw6
      have HX0d := Aside0.mk (show (wr.alloc (.cells #[.int .i64 x.d, .int .i64 x.t, .int .i64 x.k, .int .i64 x.a] 45 (0, 0))).drew.heap[wr.heap.size]? = _ from HX0.out)
      clear hw6
      go_wp2
      go_region_with (first
        | (go_at_call 19; refine (HW6.out).mono ?_; rintro e w7 ⟨v7, rfl, hr, hb⟩; obtain ⟨A7, c7, rfl⟩ := Kd.R_slice hr; have Q7 := Aside0.mk hr; have M7 := Aside0.mk (M6.out.grow hb); have R7 := Aside0.mk (Kd.R_below R6.out hb); have B7 := Aside0.mk (B6.out.trans (hb.mono B6.out.size)); have hsz7 := hb.size; have HX7 := Aside0.mk ((hb.block _ hsz6).trans HX0d.out); clear hr hb c0 c1 c2 c3; obtain ⟨c0, c1, c2, c3⟩ := x_cells HX7.out)
        | (go_at_call 25; refine (HHAS.out A7 c7 w7 (reads_R Q7.out)).mono ?_; rintro e w7b ⟨rfl, hw⟩; rw [hw]; clear hw))
      all_goals
        rcases key with ⟨f4, rfl, rfl, HOW⟩ | ⟨f4, f0, rfl, HOW⟩ | ⟨f4, f0, rfl, HOW⟩ | ⟨f4, HOW⟩
        case' inl =>
          go_wp2_with (first
            | (go_at_call 16; refine (HDO.out w7 M7.out (by omega)).mono ?_; rintro e w8 ⟨v, rfl, hr, wv8, hm, hk, hb, _⟩; obtain ⟨A8, c8, rfl⟩ := Kd.R_slice hr; have Q8 := Aside0.mk hr; have M8 := Aside0.mk hm; have R8 := Aside0.mk (R_deed R7.out M7.out hgl HTL.out hk); have B8 := Aside0.mk (B7.out.trans (hb.mono hw1)); have hsz8 := hk.1; have HX8 := Aside0.mk ((hk.2 wr.heap.size (by omega) (fun hf => by have := MF.out _ hf; omega)).trans HX7.out); clear hr hm hk hb c0 c1 c2 c3; obtain ⟨c0, c1, c2, c3⟩ := x_cells HX8.out)
            | ((with_reducible refine gate_builtin (b := .append) (xs := #[.tmp 61, .tmp 64]) rfl ?_); at_builtin; refine Kd.R_append (Kd.int .i64) (w0 := w8) b0 rfl (.tmp 61) (.tmp 64) 41 3 (.int .i64 0) 8 rfl Try.underlying41 info3 rfl (by decide) (by omega) u8 (addrs S0) x.a [.int .i64 x.a] (fun _ => True) (fun _ => False) rfl rfl ?aP (fun _ hk => hk.elim) (fun _ _ => trivial) R8.out (Below.refl _ _) (by omega) (by omega) ?_; (case aP => exact rfl); intro V W ho hb hg hat; have RW2 := Aside0.mk ho; have HGR := Aside0.mk hg; have HBN := Aside0.mk hb; have HX9 := Aside0.mk ((hg.block _ (by omega) (fun he => by have := OL.out _ he.symm; omega)).trans HX8.out); clear ho hb hg hat c0 c1 c2 c3; obtain ⟨c0, c1, c2, c3⟩ := x_cells HX9.out))
          have hszW := HBN.out.size
          have MW := Aside0.mk (man_app M8.out R8.out hgl HTL.out HGR.out)
          have BB := Aside0.mk (B8.out.trans (HBN.out.mono (by omega)))
          have RBk : Aside0 (Kd.R (Kd.int .i64) 3 W w7.heap.size (fun _ => True) (.slice A8 bk.length c8) bk) := ⟨Kd.R_grown2 Q8.out rfl HGR.out (fun k hk he => by have h1 := Kd.R_lt R7.out k hk; have h2 := Kd.R_base Q8.out k he.symm; omega)⟩
          rw [← HOW.out] at RW2
          clear HGR HBN Q8 R8 M8 B8 HX8 HX9 c0 c1 c2 c3
        case' inr.inl =>
          go_wp2_with (go_at_call 16; refine (HDO.out w7 M7.out (by omega)).mono ?_; rintro e w8 ⟨v, rfl, hr, wv8, hm, hk, hb, _⟩; obtain ⟨A8, c8, rfl⟩ := Kd.R_slice hr; have Q8 := Aside0.mk hr; have M8 := Aside0.mk hm; have R8 := Aside0.mk (R_deed R7.out M7.out hgl HTL.out hk); have B8 := Aside0.mk (B7.out.trans (hb.mono hw1)); have hsz8 := hk.1; have HX8 := Aside0.mk ((hk.2 wr.heap.size (by omega) (fun hf => by have := MF.out _ hf; omega)).trans HX7.out); clear hr hm hk hb c0 c1 c2 c3; obtain ⟨c0, c1, c2, c3⟩ := x_cells HX8.out)
          have hszW : w8.heap.size ≤ w8.heap.size := Nat.le_refl _
          have MW := M8
          have BB := B8
          have RBk := Q8
          have RW2 := R8
          rw [← HOW.out] at RW2
          clear Q8 R8 M8 B8 HX8 c0 c1 c2 c3
          obtain ⟨W, hW⟩ : ∃ W : World, W = w8 := ⟨_, rfl⟩
          subst hW
          obtain ⟨V, hV⟩ : ∃ V : Value, V = u8 := ⟨_, rfl⟩
          subst hV
        case' inr.inr.inl =>
          go_wp2_with (go_at_call 16; refine (HDO.out w7 M7.out (by omega)).mono ?_; rintro e w8 ⟨v, rfl, hr, wv8, hm, hk, hb, _⟩; obtain ⟨A8, c8, rfl⟩ := Kd.R_slice hr; have Q8 := Aside0.mk hr; have M8 := Aside0.mk hm; have R8 := Aside0.mk (R_deed R7.out M7.out hgl HTL.out hk); have B8 := Aside0.mk (B7.out.trans (hb.mono hw1)); have hsz8 := hk.1; have HX8 := Aside0.mk ((hk.2 wr.heap.size (by omega) (fun hf => by have := MF.out _ hf; omega)).trans HX7.out); clear hr hm hk hb c0 c1 c2 c3; obtain ⟨c0, c1, c2, c3⟩ := x_cells HX8.out)
          have hszW : w8.heap.size ≤ w8.heap.size := Nat.le_refl _
          have MW := M8
          have BB := B8
          have RBk := Q8
          have RW2 := R8
          rw [← HOW.out] at RW2
          clear Q8 R8 M8 B8 HX8 c0 c1 c2 c3
          obtain ⟨W, hW⟩ : ∃ W : World, W = w8 := ⟨_, rfl⟩
          subst hW
          obtain ⟨V, hV⟩ : ∃ V : Value, V = u8 := ⟨_, rfl⟩
          subst hV
        case' inr.inr.inr =>
          go_wp2_with (go_at_call 16; refine (HDO.out w7 M7.out (by omega)).mono ?_; rintro e w8 ⟨v, rfl, hr, wv8, hm, hk, hb, _⟩; obtain ⟨A8, c8, rfl⟩ := Kd.R_slice hr; have Q8 := Aside0.mk hr; have M8 := Aside0.mk hm; have R8 := Aside0.mk (R_deed R7.out M7.out hgl HTL.out hk); have B8 := Aside0.mk (B7.out.trans (hb.mono hw1)); have hsz8 := hk.1; have HX8 := Aside0.mk ((hk.2 wr.heap.size (by omega) (fun hf => by have := MF.out _ hf; omega)).trans HX7.out); clear hr hm hk hb c0 c1 c2 c3; obtain ⟨c0, c1, c2, c3⟩ := x_cells HX8.out)
          have hszW : w8.heap.size ≤ w8.heap.size := Nat.le_refl _
          have MW := M8
          have BB := B8
          have RBk := Q8
          have RW2 := R8
          rw [← HOW.out] at RW2
          clear Q8 R8 M8 B8 HX8 c0 c1 c2 c3
          obtain ⟨W, hW⟩ : ∃ W : World, W = w8 := ⟨_, rfl⟩
          subst hW
          obtain ⟨V, hV⟩ : ∃ V : Value, V = u8 := ⟨_, rfl⟩
          subst hV
        all_goals
          clear HOW HDO HX7 M7 R7 Q7 B7 HHAS HPL HS1 HG
          have HBW := Aside0.mk (Below.refl W.heap.size W)
          go_loopg [8, 14, 15, 16, 17] bk.length (fun gg v8 v14 v15 v16 v17 wr2 => ∃ jj : Nat, jj ≤ bk.length ∧ bk.length - jj ≤ gg ∧ v14 = .int .i64 jj ∧ Aside0 (Below W.heap.size W wr2) ∧ Aside0 (Kd.R (Kd.int .i64) 3 wr2 b0 (fun _ => True) v8 (less L0 bk jj)))
          case atStart => exact ⟨0, Nat.zero_le _, by omega, rfl, HBW, ⟨by rw [less_zero]; exact RW2.out⟩⟩
          case round =>
            clear HBW RW2
            obtain ⟨jj, hjj, hg2, rfl, HBW, RW2⟩ := hrel
            obtain ⟨wk, hwk⟩ : ∃ wk : World, wk = wr := ⟨_, rfl⟩
            subst hwk
            by_cases hj : jj < bk.length
            · obtain ⟨ab, rfl, hcb⟩ := reads_R (Kd.R_below RBk.out HBW.out) jj hj
              have hmem := less_has HPA.out jj hj
              have hnd := less_nodup HND.out bk jj
              obtain ⟨i0, hi1, hi2, hi3, hi4⟩ := cut_at (less L0 bk jj) (bk.getD jj 0) hnd hmem
              rw [less_succ L0 bk jj hj] at hi4
              have hll := less_len L0 bk jj
              have HI4 := Aside0.mk hi4
              have HI2 := Aside0.mk hi2
              have HI3 := Aside0.mk hi3
              clear hmem hnd hi4 hi2 hi3
              generalize less L0 bk jj = LJ at *
              generalize bk.getD jj 0 = y at *
              obtain ⟨b, cap, rfl, hb1, hb2, _⟩ := Kd.R_form RW2.out (by omega)
              have hcap := (Kd.R_reads' RW2.out).2.1
              have HRD := Aside0.mk (reads_R RW2.out)
              have hlt0 : i0 < LJ.length := hi1
              have hjlt : (jj : Int) < bk.length := by omega
              go_wp2
              go_loopg [15, 16] LJ.length (fun gg v15 v16 wi => ∃ i q : Nat, i ≤ LJ.length ∧ LJ.length - i ≤ gg ∧ v16 = .int .i64 i ∧ v15 = .int .i64 (if i0 < i then (i0 : Int) else -1) ∧ wi = wk.drewN q)
              case atStart => exact ⟨0, 0, Nat.zero_le _, by omega, rfl, by rw [if_neg (by omega)], rfl⟩
              case round =>
                obtain ⟨i, q, hi, hg3, rfl, hv15, rfl⟩ := hrel
                by_cases hil : i < LJ.length
                · obtain ⟨ad2, had2, hci⟩ := HRD.out i hil
                  injection had2 with had2
                  subst had2
                  rw [add_plain] at hci
                  rcases Nat.lt_trichotomy i i0 with hii | hii | hii
                  · have hf := HI3.out i hii
                    rw [if_neg (by omega)] at hv15
                    subst hv15
                    generalize LJ.getD i 0 = z at *
                    go_wp2
                    go_quiet (fail)
                    go_wp2
                    go_roundg (LJ.length - (i + 1))
                    case measure => omega
                    case rel => exact ⟨i + 1, _, by omega, by omega, by go_num, by rw [if_neg (by omega)], rfl⟩
                  · have hf := HI2.out
                    rw [hii, hf] at hci
                    rw [if_neg (by omega)] at hv15
                    subst hv15
                    have hfy : (y == y) = true := by simp
                    go_wp2
                    go_quiet (fail)
                    go_wp2
                    go_roundg (LJ.length - (i + 1))
                    case measure => omega
                    case rel => exact ⟨i + 1, _, by omega, by omega, by go_num, by rw [if_pos (by omega), hii], rfl⟩
                  · rw [if_pos (by omega)] at hv15
                    subst hv15
                    have hneg : decide ((i0 : Int) < 0) = false := decide_eq_false (by omega)
                    go_wp2
                    go_quiet (fail)
                    go_wp2
                    go_roundg (LJ.length - (i + 1))
                    case measure => omega
                    case rel => exact ⟨i + 1, _, by omega, by omega, by go_num, by rw [if_pos (by omega)], rfl⟩
                · have hin : i = LJ.length := by omega
                  subst hin
                  rw [if_pos (by omega)] at hv15
                  subst hv15
                  have hneg : decide ((i0 : Int) < 0) = false := decide_eq_false (by omega)
                  have hbe := (Below.refl (wk.drewN q).heap.size (wk.drewN q)).alloc (Nat.le_refl _) (.cells #[] 3 (0, 0))
                  have RD := Aside0.mk (Kd.R_drewN RW2.out q)
                  have hed := head_row (Kd.R_below RD.out hbe) i0 (by omega)
                  have EML := Aside0.mk (empty_lit (wk.drewN q) (wk.drewN q).heap.size (Nat.le_refl _))
                  have HBE := Aside0.mk hbe
                  have hbes := hbe.size
                  have HBK := Aside0.mk (pw_below_drewN HBW.out q)
                  have hszk : W.heap.size ≤ (wk.drewN q).heap.size := HBK.out.size
                  obtain ⟨T, hT⟩ : ∃ T, T = LJ.take i0 := ⟨_, rfl⟩
                  have hTl : T.length = i0 := by rw [hT]; simp; omega
                  rw [← hT] at hed
                  have hi4 := HI4.out
                  rw [← hT] at hi4
                  have HI5 := Aside0.mk hi4
                  have HED := Aside0.mk hed
                  clear hed hT hi4
                  have hl30 : (([] : List Int).length + i0) * 8 ≤ 140737488355328 := by simp only [List.length_nil]; omega
                  have hl31 : (T.length + (LJ.length - (i0 + 1))) * 8 ≤ 140737488355328 := by omega
                  clear hbe
                  by_cases hce : cap = i0 + 1
                  all_goals
                    go_wp2_with (first
                      | ((with_reducible refine gate_builtin (b := .append) (xs := #[.tmp 104, .tmp 107]) rfl ?_); at_builtin; refine Kd.R_append_rows (Kd.int .i64) (w0 := wk.drewN q) (wk.drewN q).heap.size rfl (.tmp 104) (.tmp 107) 41 3 (.int .i64 0) 8 rfl Try.underlying41 info3 rfl (by decide) (by omega) (.slice (some ⟨(wk.drewN q).heap.size, 0, none⟩) 0 0) [] T _ _ _ (fun _ => True) (fun _ => False) rfl rfl EML.out HED.out (fun _ _ h => h) (fun _ h => h.elim) (fun _ _ => trivial) HBE.out hbes hl30 ?_; intro v1 wn ho hb hg hat; rw [List.nil_append] at ho; have HBN := Aside0.mk hb; have hszn := hb.size; obtain ⟨A9, c9, rfl⟩ := Kd.R_slice ho; rw [hTl] at ho; have HO1 := Aside0.mk ho; have RN := Aside0.mk (Kd.R_below RD.out hb); clear ho hb hg hat)
                      | ((with_reducible refine gate_builtin (b := .append) (xs := #[.tmp 109, .tmp 113]) rfl ?_); at_builtin; refine Kd.R_append_rows (Kd.int .i64) (w0 := wk.drewN q) (wk.drewN q).heap.size rfl (.tmp 109) (.tmp 113) 41 3 (.int .i64 0) 8 rfl Try.underlying41 info3 rfl (by decide) (by omega) (.slice A9 i0 c9) T (LJ.drop (i0 + 1)) _ _ _ (fun _ => True) (fun _ => False) rfl rfl HO1.out (tail_row RN.out (i0 + 1) (by omega) _ (by first | (intro h; exfalso; omega) | (intro h; rfl))) (fun _ _ h => h) (fun _ h => h.elim) (fun _ _ => trivial) HBN.out hszn hl31 ?_; intro v2 w2b ho hb hg hat; rw [HI5.out] at ho; have HO2 := Aside0.mk (Kd.R_lower ho (by omega : b0 ≤ _)); have HB2 := Aside0.mk (HBK.out.trans (hb.mono hszk)); clear ho hb hg hat))
                    go_roundg (bk.length - (jj + 1))
                    case measure => omega
                    case rel => exact ⟨jj + 1, by omega, by omega, by go_num, HB2, HO2⟩
            · have hj2 : jj = bk.length := by omega
              subst hj2
              have hln : less L0 bk bk.length = addrs S1 := less_all HPA.out
              rw [hln] at RW2
              have MR := Aside0.mk (MW.out.grow HBW.out)
              have BR := Aside0.mk (BB.out.trans (HBW.out.mono BB.out.size))
              have hsk := HBW.out.size
              go_wp2
              go_roundg (min ds.length 150 - (kk + 1))
              case measure => omega
              case rel => exact ⟨kk + 1, wv8, by omega, by omega, by go_num, by omega, by rw [HG1e.out]; exact MR, by rw [HG1e.out]; exact RW2, BR⟩
    · have hcase : (kk < ds.length ∧ ¬ (kk < 150)) ∨ ¬ (kk < ds.length) := by omega
      have hpw : 0 < (playTo (newM n) ds kk).th.length := by omega
      generalize playTo (newM n) ds kk = S0 at *
      obtain ⟨LL, hLL⟩ : ∃ LL, LL = addrs S0 := ⟨_, rfl⟩
      rw [← hLL] at R4 hal
      have hw4 : Calls Try.prog 19 #[.pointer (some ⟨g, 0, none⟩)] wr fun e w' => ∃ v, e = .returned v ∧ Kd.R (Kd.int .i64) 3 w' wr.heap.size (fun _ => True) v LL ∧ Below wr.heap.size wr w' := by rw [hLL]; exact waiting_calls M4.out hpw (by omega)
      have HW4 := Aside0.mk hw4
      obtain ⟨A4, c4, rfl⟩ := Kd.R_slice R4.out
      have hLl : LL.length ≤ 1000000 := by omega
      clear hw4 hLL
      rcases hcase with ⟨h1, h2⟩ | h1
      all_goals
        go_wp2_with (first
          | (go_at_call 19; refine (HW4.out).mono ?_; rintro e w6 ⟨v6, rfl, hr, hb⟩; obtain ⟨A6, c6, rfl⟩ := Kd.R_slice hr; have Q6 := Aside0.mk hr; have R6 := Aside0.mk (Kd.R_below R4.out hb); have B6 := Aside0.mk (B4.out.trans (hb.mono B4.out.size)); clear hr hb)
          | (go_at_call 18; refine (same_calls A4 A6 c4 c6 LL LL _ (reads_R R6.out) (reads_R Q6.out) hLl).mono ?_; rw [decide_eq_true (rfl : LL = LL)]; rintro e w7 ⟨rfl, q, hw⟩; have B7 : Aside0 (Below w.heap.size w w7) := ⟨by rw [hw]; exact pw_below_drewN B6.out q⟩; clear hw))
        go_ret
        exact ⟨rfl, B7.out⟩
theorem once_row (t : Int) (A : Option Addr) (len c : Nat) (ds : List DD) (w : World) (_ht : (Lit.int .i64 t).wf = true) (hd : ds.length = len ∧ DeedsAt w A ds) :
    Calls Try.prog 8 #[.int .i64 t, .slice A len c] w fun e w' => e = .returned (.bool true) ∧ Below w.heap.size w w' := by
  obtain ⟨rfl, hd⟩ := hd
  exact once_walk t A c ds w hd
end Go.Proofs.Ytcfodmnpmjkpbaa.Ep
