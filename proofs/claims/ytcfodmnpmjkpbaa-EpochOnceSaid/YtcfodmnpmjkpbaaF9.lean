/- made: the walk: plain lemmas; no condition. -/
import Derived.Test.YtcfodmnpmjkpbaaF8
import Derived.Deep.RegionHeld3
namespace Go.Proofs.Ytcfodmnpmjkpbaa.Ep
open Go.RowKit Go.Proofs.YtcfodmnpmjkpbaaW.PrintWords Go.Proofs.YtcfodmnpmjkpbaaW.PrintLast Go.Proofs.YtcfodmnpmjkpbaaW.PrintMore
set_option linter.unusedVariables false
set_option linter.unusedSimpArgs false
set_option maxHeartbeats 8000000
set_option maxRecDepth 100000
/-- The manager and its reference lie beside each other; b5: a block that is the call's own. -/
structure Both (B : Nat) (w : World) (g r : Nat) (tv wv iv : Value) (m : EM) (rm : RM) : Prop where
  man : Man B w g tv wv m
  ref : Ref B w r iv rm
theorem step_load_whole {ops : Array Oper} {o : Oper} {a : Act} {W : World} {K : Act → World → Prop} {Q : Exit → Act → World → Prop} (hw : Region.wanted o (yielded ops a.tmps) = true) (x : Operand) (ho : o.op = .load 38 x)
    (b : Nat) (cur : Array Value) (hx : a.eval x = .pointer (some ⟨b, 0, none⟩)) (hb : W.heap[b]? = some (.cells cur 38 (0, 0))) (hsz : cur.size = 30) (h : K (a.put o.dst (.agg cur)) W) :
    if Region.wanted o (yielded ops a.tmps) = true then Oper.wp Try.prog o a W K Q else K (a.put o.dst undef) W := by
  rw [if_pos hw]
  exact wp_load_row 38 x ho b hx 38 cur (0, 0) _ hb Try.underlying38 rfl (by rw [info38, hsz]) h
theorem step_store_whole {ops : Array Oper} {op : Oper} {a : Act} {W : World} {K : Act → World → Prop} {Q : Exit → Act → World → Prop} (hw : Region.wanted op (yielded ops a.tmps) = true) (x y : Operand) (ho : op.op = .store 38 x y)
    (b : Nat) (cells old : Array Value) (hx : a.eval x = .pointer (some ⟨b, 0, none⟩)) (hy : a.eval y = .agg cells) (hb : W.heap[b]? = some (.cells old 38 (0, 0))) (hsz : old.size = cells.size)
    (hi : cells.size = 30) (h1 : cells.all (·.oneCell') = true)
    (h : ∀ W2, W2.heap[b]? = some (.cells cells 38 (0, 0)) → (∀ k, k ≠ b → W2.heap[k]? = W.heap[k]?) → W2.os = W.os → W2.tape = W.tape → W2.output = W.output → W2.heap.size = W.heap.size → K (a.put op.dst undef) W2) :
    if Region.wanted op (yielded ops a.tmps) = true then Oper.wp Try.prog op a W K Q else K (a.put op.dst undef) W := by
  rw [if_pos hw]
  obtain ⟨cur', h3, h4, h5⟩ := setCells_row (g := b) (e := 38) cells.toList 0 W old hb (by simp [hsz])
  obtain ⟨s1, s2, s3, s4⟩ := setCells_same b cells.toList 0 W
  have e : cur' = cells := by
    apply Array.ext'
    rw [h5]
    simp [hsz]
  subst e
  refine wp_store_mid (P := Try.prog) 38 x y ho b 0 cur' hx hy (fun j hj => ⟨?_, blk_frozen hb _⟩) (by rw [info38, hi]) h1 ?_
  · rw [Go.Lib.cell_of_heap hb]
    have : 0 + j < old.size := by omega
    rw [Array.getElem?_eq_getElem this]; rfl
  · exact h _ h3 (fun k hk => setCells_far _ _ k hk) s1 s2 s3 s4
theorem zero_apart {B : Nat} {w : World} {g b : Nat} {tv wv : Value} {m : EM} {c : Array Value} (hm : Man B w g tv wv m) (hb : w.heap[b]? = some (.cells c 38 (0, 0))) : ¬ foot g tv wv b := by
  rintro (rfl | hq | hq)
  · exact ne_of_tag hm.top hb (by decide) rfl
  · obtain ⟨c, hc⟩ := own_tag hm.tow b hq; exact ne_of_tag hc hb (by decide) rfl
  · obtain ⟨c, hc⟩ := own_tag hm.own b hq; exact ne_of_tag hc hb (by decide) rfl
theorem zero_rapart {B : Nat} {w : World} {r b : Nat} {iv : Value} {m : RM} {c : Array Value} (hr : Ref B w r iv m) (hb : w.heap[b]? = some (.cells c 38 (0, 0))) (hne : b ≠ r) : ¬ rfoot r iv b := by
  rintro (rfl | hq)
  · exact hne rfl
  · obtain ⟨c, hc⟩ := own_tag hr.own b hq; exact ne_of_tag hc hb (by decide) rfl
/-- What made leaves. -/
def MadeAt (w : World) (ds : List DD) (K : Nat) (e : Ending) (w' : World) : Prop :=
  ∃ (n g : Nat) (tv wv iv : Value) (cur : Array Value), 1 ≤ n ∧ n ≤ 4 ∧ e = .returned (.tuple #[.pointer (some ⟨g, 0, none⟩), .agg cur, .int .i64 n]) ∧ Man w.heap.size w' g tv wv (playTo (newM n) ds K) ∧
    RefB cur iv (rplayTo (rnew n) ds K) ∧ w'.ownsRow w.heap.size 80 8 iv (rplayTo (rnew n) ds K).its.length (flat8 (rplayTo (rnew n) ds K).its) ∧ Below w.heap.size w w'
theorem made_calls (t : Int) (A : Option Addr) (c : Nat) (ds : List DD) (w : World) (hd : DeedsAt w A ds) :
    Calls Try.prog 22 #[.int .i64 t, .slice A ds.length c] w (MadeAt w ds (min ds.length 150)) := by
  obtain ⟨q, hq, hand⟩ := i64_and3 t
  have hnew : ∀ W, w.heap.size ≤ W.heap.size → Calls Try.prog 14 #[.int .i64 ((q : Int) + 1)] W fun e w' => ∃ g tv, e = .returned (.tuple #[.pointer (some ⟨g, 0, none⟩), .int .i64 0]) ∧ Man w.heap.size w' g tv (.slice none 0 0) (newM (q + 1)) ∧ Below W.heap.size W w' ∧ ∀ k, foot g tv (.slice none 0 0) k → W.heap.size ≤ k := fun W h => new_calls w.heap.size (q + 1) W h (by omega) (by omega)
  have hrnew : ∀ W, Calls Try.prog 15 #[.int .i64 2, .int .i64 ((q : Int) + 1)] W fun e w' => e = .returned (.tuple #[.agg (new30 ((q : Int) + 1)), .int .i64 0]) ∧ Below W.heap.size W w' := fun W => rnew_calls (q + 1) W (by omega) (by omega)
  have hrb : RefB (new30 ((q : Int) + 1)) (.slice none 0 0) (rnew (q + 1)) := new30_is (q + 1)
  have HN := Aside0.mk hnew
  have HRN := Aside0.mk hrnew
  have HRB := Aside0.mk hrb
  have HD := Aside0.mk hd
  have HPL := Aside0.mk (playTo_low (q + 1) ds)
  have HRL := Aside0.mk (rplayTo_low (q + 1) ds)
  have HS1 := Aside0.mk (playTo_succ (newM (q + 1)) ds)
  have HS2 := Aside0.mk (rplayTo_succ (rnew (q + 1)) ds)
  clear hd hnew hrnew hrb
  have hqw : IntKind.i64.wrap (1 + (q : Int)) = (q : Int) + 1 := by rw [IntKind.wrap_i64]; omega
  have tokA : True := trivial
  go_enter Try.func22, Try.ntmps22
  go_wp2_with (first
    | ((with_reducible refine gate_ (.alloc 38) rfl ?_); have _t := tokA; clear _t tokA; refine wpList_alloc38 rfl rfl ?_; intro W2 hz hb hs; have HZ5 := Aside0.mk hz; have HB2 := Aside0.mk hb; have HS2_ := Aside0.mk hs; clear hz hb hs)
    | (go_at_call 14; refine (HN.out _ HB2.out.size).mono ?_; rintro e w3 ⟨g, tv, rfl, hm, hb, _⟩; have M3 := Aside0.mk hm; have B3 := Aside0.mk (btrans HB2.out hb); have Z3 := Aside0.mk ((hb.block _ (blk_lt HZ5.out)).trans HZ5.out); clear hm hb)
    | (go_at_call 15; refine (HRN.out _).mono ?_; rintro e w4 ⟨rfl, hb⟩; have M4 := Aside0.mk (M3.out.grow hb); have B4 := Aside0.mk (btrans B3.out hb); have Z4 := Aside0.mk ((hb.block _ (blk_lt Z3.out)).trans Z3.out); clear hb M3 Z3; have tokB : True := trivial)
    | ((with_reducible refine gate_ (.alloc 38) rfl ?_); have _t := tokB; clear _t tokB; refine wpList_alloc38 rfl rfl ?_; intro W5 hz hb hs; have ZZ5 := Aside0.mk hz; have M5 := Aside0.mk (M4.out.grow hb); have B5 := Aside0.mk (btrans B4.out hb); have Z5 := Aside0.mk ((hb.block _ (blk_lt Z4.out)).trans Z4.out); have HLT := Aside0.mk (blk_lt Z4.out); have hr4 := B4.out.size; clear hz hb hs Z4)
    | ((with_reducible refine gate_ (.store 38 (.tmp 10) (.tmp 24)) rfl ?_); refine wpList_store_whole rfl 38 (.tmp 10) (.tmp 24) rfl w4.heap.size (new30 ((q : Int) + 1)) zero30 38 rfl rfl ZZ5.out rfl info38 (HRB.out.one rfl) ?_; intro W6 h3 far e1 e2 e3 e4; have M6 := Aside0.mk (man_keep M5.out (w' := W6) (fun k hk => far k (by have := (M4.out.foot_lt k hk).2; omega))); have R6 : Aside0 (Ref w.heap.size W6 w4.heap.size (.slice none 0 0) (rnew (q + 1))) := ⟨⟨by show q + 1 ≤ 4; omega, hr4, ⟨_, h3, HRB.out⟩, ⟨rfl, .inl ⟨rfl, rfl⟩⟩⟩⟩; have Z6 := Aside0.mk ((far w.heap.size (by have := HLT.out; omega)).trans Z5.out); have B6 : Aside0 (Below w.heap.size w W6) := ⟨B5.out.trans ⟨e1, e2, e3, by omega, fun k hk => far k (by omega)⟩⟩; clear h3 far e1 e2 e3 e4 M5 Z5 B5 ZZ5 M4 B4 HZ5 HB2 HS2_ B3))
  generalize w4.heap.size = r at *
  go_loopg [12] (min ds.length 150) (fun gg v12 wr => ∃ (kk : Nat) (wvk ivk : Value), kk ≤ min ds.length 150 ∧ min ds.length 150 - kk ≤ gg ∧ v12 = .int .i64 kk ∧ Aside0 (Man w.heap.size wr g tv wvk (playTo (newM (q + 1)) ds kk)) ∧ Aside0 (Ref w.heap.size wr r ivk (rplayTo (rnew (q + 1)) ds kk)) ∧ Aside0 (wr.heap[w.heap.size]? = some (.cells zero30 38 (0, 0))) ∧ Aside0 (Below w.heap.size w wr))
  case atStart => exact ⟨0, _, _, Nat.zero_le _, by omega, rfl, M6, R6, Z6, B6⟩
  case round =>
    clear M6 R6 Z6 B6
    obtain ⟨kk, wvk, ivk, hkk, hgg, rfl, M6, R6, Z6, B6⟩ := hrel
    by_cases hlt : kk < min ds.length 150
    · have hl1 : kk < ds.length := by omega
      have hl2 : kk < 150 := by omega
      have hl2i : (kk : Int) < 150 := by omega
      obtain ⟨ad, rfl, e1, e2, e3, e4⟩ := HD.out kk hl1
      rw [add_field ad (kk * 4) 1 (by decide)] at e2
      rw [add_field ad (kk * 4) 2 (by decide)] at e3
      rw [add_field ad (kk * 4) 3 (by decide)] at e4
      obtain ⟨⟨p1, p2, p3⟩, p4⟩ := HPL.out kk (by omega)
      obtain ⟨⟨r1, r2, r3⟩, r4⟩ := HRL.out kk (by omega)
      have hs1 := HS1.out kk hl1
      have hs2 := HS2.out kk hl1
      have hdo := do_calls M6.out B6.out.size (by omega) (by omega) p2 (by omega) ds[kk]!.d ds[kk]!.t ds[kk]!.k ds[kk]!.a
      have HDO := Aside0.mk hdo
      have hto := fun (W : World) (iv' : Value) (h : Ref w.heap.size W r iv' (rplayTo (rnew (q + 1)) ds kk)) (hB : w.heap.size ≤ W.heap.size) => told_calls h hB (by omega) r2 (by omega) ds[kk]!.d ds[kk]!.t ds[kk]!.k ds[kk]!.a
      have HTO := Aside0.mk hto
      have HSN1 := Aside0.mk hs1
      have HSN2 := Aside0.mk hs2
      generalize ds[kk]! = x at *
      clear hs1 hs2 hdo hto p1 p2 p3 p4 r1 r2 r3 r4
      have E4 := Aside0.mk (fun (W : World) (hW : Below w.heap.size w W) => (⟨(hW.cell (World.block_lt_of_cell? w _ e1)).trans e1, (hW.cell (World.block_lt_of_cell? w _ e2)).trans e2, (hW.cell (World.block_lt_of_cell? w _ e3)).trans e3, (hW.cell (World.block_lt_of_cell? w _ e4)).trans e4⟩ : _ ∧ _ ∧ _ ∧ _))
      clear e1 e2 e3 e4
      obtain ⟨e1, e2, e3, e4⟩ := E4.out _ B6.out
      go_wp2_with (first
        | (go_at_call 16; refine (HDO.out).mono ?_; rintro e w7 ⟨v, rfl, _, wv7, hm, hk, hb, _⟩; have M7 := Aside0.mk hm; have R7 := Aside0.mk (ref_beside M6.out R6.out hk); have B7 := Aside0.mk (B6.out.trans hb); have Z7 : Aside0 (w7.heap[w.heap.size]? = some (.cells zero30 38 (0, 0))) := ⟨(hk.2 _ (blk_lt Z6.out) (zero_apart M6.out Z6.out)).trans Z6.out⟩; clear hm hk hb e1 e2 e3 e4; obtain ⟨e1, e2, e3, e4⟩ := E4.out _ B7.out)
        | (go_at_call 17; refine (HTO.out _ _ R7.out B7.out.size).mono ?_; rintro e w8 ⟨v8, rfl, _, iv8, hr, hk, hb, _⟩; have R8 := Aside0.mk hr; have M8 := Aside0.mk (man_beside M7.out R7.out hk); have B8 := Aside0.mk (B7.out.trans hb); have Z8 : Aside0 (w8.heap[w.heap.size]? = some (.cells zero30 38 (0, 0))) := ⟨(hk.2 _ (blk_lt Z7.out) (zero_rapart R7.out Z7.out (by have := HLT.out; omega))).trans Z7.out⟩; clear hr hk hb e1 e2 e3 e4))
      go_roundg (min ds.length 150 - (kk + 1))
      case measure => omega
      case rel => exact ⟨kk + 1, _, _, by omega, by omega, by go_num, by rw [HSN1.out]; exact M8, by rw [HSN2.out]; exact R8, Z8, B8⟩
    · have hkk2 : kk = min ds.length 150 := by omega
      have hcase : (kk < ds.length ∧ ¬ (kk < 150)) ∨ ¬ (kk < ds.length) := by omega
      rcases hcase with ⟨h1, h2⟩ | h1
      all_goals
        have hrt := R6.out.top
        obtain ⟨cur, c1, c2⟩ := hrt
        obtain ⟨A5, c5, hiv⟩ := own_form R6.out.own
        have hone := c2.one (by rw [hiv]; rfl)
        have hown := R6.out.own
        have C1 := Aside0.mk c1
        have C2 := Aside0.mk c2
        have HONE := Aside0.mk hone
        have HOWN := Aside0.mk hown
        obtain ⟨cs, rfl⟩ : ∃ cs : List Value, cur = cs.toArray := ⟨cur.toList, by simp⟩
        have hl30 : cs.length = 30 := by have := c2.size; simpa using this
        have hra : wr.rangeAt r 0 cs := fun j v hv => by rw [Go.Lib.cell_of_heap c1]; simpa using hv
        have hth : wr.there w.heap.size 0 30 := fun j hj => ⟨by rw [Go.Lib.cell_of_heap Z6.out, Nat.zero_add, Array.getElem?_eq_getElem (by exact hj)]; rfl, blk_frozen Z6.out _⟩
        have hu := Try.underlying38
        have hi : (Try.prog.info? 38).map (·.size) = some cs.length := by rw [hl30]; exact info38
        have h1c : ∀ v ∈ cs, v.oneCell' = true := fun v hv => Array.all_eq_true_iff_forall_mem.1 hone v (by simpa using hv)
        clear c1 c2 hone hown hiv R6
        go_wp2
        refine wp_region_held_drew (S := fun w' => w'.rangeAt r 0 cs ∧ w'.there w.heap.size 0 30) (by kernel_rfl) ⟨hra, hth⟩ (fun hHeld => ?_)
        refine wpAnyH_take (i := 1) (oi := _) (v := .agg cs.toArray) rfl (by kernel_rfl) (by kernel_rfl) (by kernel_rfl) (fun _ _ _ h => h) (yieldsIf_load_mid (by rfl) 38 (.tmp 10) rfl r 0 rfl cs _ (fun w h => h.1) hu rfl hi) hHeld ?_
        simp only [Act.put, List.getElem_toArray, List.getElem_cons_zero, List.getElem_cons_succ, List.setIfInBounds_toArray, List.set_cons_zero, List.set_cons_succ]
        refine wpAnyH_take (i := 0) (oi := _) (v := .pointer (some ⟨g, 0, none⟩)) rfl (by kernel_rfl) (by kernel_rfl) (by kernel_rfl) (fun _ _ _ h => h) (.inl ⟨by rfl, fun w hSw => by rfl⟩) hHeld ?_
        simp only [Act.put, List.getElem_toArray, List.getElem_cons_zero, List.getElem_cons_succ, List.setIfInBounds_toArray, List.set_cons_zero, List.set_cons_succ]
        refine wpAnyH_take (i := 2) (oi := _) (v := .int .i64 ((q : Int) + 1)) rfl (by kernel_rfl) (by kernel_rfl) (by kernel_rfl) (fun _ _ _ h => h) (.inl ⟨by rfl, fun w hSw => by rfl⟩) hHeld ?_
        simp only [Act.put, List.getElem_toArray, List.getElem_cons_zero, List.getElem_cons_succ, List.setIfInBounds_toArray, List.set_cons_zero, List.set_cons_succ]
        refine wpAnyH_take (i := 3) (oi := _) (v := .pointer (some ⟨g, 0, none⟩)) rfl (by kernel_rfl) (by kernel_rfl) (by kernel_rfl) (fun _ _ _ h => h) (.inl ⟨by rfl, fun w hSw => by rfl⟩) hHeld ?_
        simp only [Act.put, List.getElem_toArray, List.getElem_cons_zero, List.getElem_cons_succ, List.setIfInBounds_toArray, List.set_cons_zero, List.set_cons_succ]
        refine wpAnyH_ready (rs := [4]) (by decide +kernel) (by simp) ?_
        refine AllReadyH.cons (o := _) rfl (fun K hK => ?_) AllReadyH.nil
        refine step_store_whole (by rfl) (.tmp 5) (.tmp 52) rfl w.heap.size cs.toArray zero30 rfl rfl Z6.out (by rw [show cs.toArray.size = cs.length from rfl, hl30]; rfl) (by rw [List.size_toArray, hl30]) HONE.out ?_
        intro W9 h3 far e1 e2 e3 e4
        refine hK.out _ _ ?_ (fun hHeld2 => ?_)
        · refine ⟨fun j v hv => ?_, fun j hj => ⟨?_, blk_frozen h3 _⟩⟩
          · have h9 := (far r (by have := HLT.out; omega)).trans C1.out
            rw [Go.Lib.cell_of_heap h9]; simpa using hv
          · rw [Go.Lib.cell_of_heap h3, Nat.zero_add, Array.getElem?_eq_getElem (by rw [show cs.toArray.size = cs.length from rfl, hl30]; exact hj)]; rfl
        · simp only [Act.put, List.getElem_toArray, List.getElem_cons_zero, List.getElem_cons_succ, List.setIfInBounds_toArray, List.set_cons_zero, List.set_cons_succ]
          refine wpAnyH_take (i := 5) (oi := _) (v := .int .i64 ((q : Int) + 1)) rfl (by decide +kernel) (by decide +kernel) (by decide +kernel) (fun _ _ _ h => h) (.inl ⟨by rfl, fun w hSw => by rfl⟩) hHeld2 ?_
          simp only [Act.put, List.getElem_toArray, List.getElem_cons_zero, List.getElem_cons_succ, List.setIfInBounds_toArray, List.set_cons_zero, List.set_cons_succ]
          refine wpAnyH_done (by decide +kernel) ?_ _
          have HRES := Aside0.mk h3
          have hb9 : Below w.heap.size w W9 := B6.out.trans ⟨e1, e2, e3, by rw [e4]; exact Nat.le_refl _, fun k hk => far k (by omega)⟩
          have hm9 := man_keep M6.out (w' := W9) (fun k hk => far k (fun e => zero_apart M6.out Z6.out (e ▸ hk)))
          have ho9 := own_move HOWN.out (w1 := W9) (fun k hk => far k (fun e => by
            obtain ⟨c, hc⟩ := own_tag HOWN.out k hk
            exact ne_of_tag hc Z6.out (by decide) e))
          have HB9 := Aside0.mk hb9
          have HM9 := Aside0.mk hm9
          have HO9 := Aside0.mk ho9
          clear h3 far e1 e2 e3 e4 hb9 hm9 ho9 hHeld hHeld2 hK hra hth
          go_wp2
          refine bodyPost_ret (results_list (rs := [.tmp 4, .cell 5 38, .tmp 6]) rfl (by simp) (.tmp (.cell w.heap.size 38 cs.toArray (0, 0) _ rfl HRES.out Try.underlying38 rfl hi (.tmp .nil)))) rfl ?_
          rw [← hkk2]
          exact ⟨q + 1, g, tv, wvk, ivk, cs.toArray, by omega, by omega, rfl, HM9.out, C2.out, HO9.out, HB9.out⟩
end Go.Proofs.Ytcfodmnpmjkpbaa.Ep
