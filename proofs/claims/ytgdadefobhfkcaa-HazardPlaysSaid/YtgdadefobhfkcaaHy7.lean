/- Retire that takes an address: plain lemmas; no condition. -/
import Derived.Test.YtgdadefobhfkcaaHy6
import Derived.Deep.RegionLaw
namespace Go.Proofs.Ytgdadefobhfkcaa.Hy
open Go.RowKit Go.Proofs.YtgdadefobhfkcaaW.PrintWords Go.Proofs.YtgdadefobhfkcaaW.PrintLast Go.Proofs.YtgdadefobhfkcaaW.PrintMore
set_option linter.unusedVariables false
set_option linter.unusedSimpArgs false

def retired (m : HM) (t a : Int) : HM := { m with ws := m.ws ++ [(t, a)] }
def mine (m : HM) (t : Int) : Nat := (m.ws.filter fun x => x.1 == t).length
theorem man_retired {B : Nat} {w W1 : World} {g : Nat} {A : Option Addr} {wv v1 : Value} {m : HM} {t a : Int} (hm : Man B w g A wv m) (hB : B ≤ w.heap.size)
    (ho : W1.ownsRow B 61 2 v1 (m.ws.length + 1) (flat m.ws ++ [.int .i64 t, .int .i64 a])) (hb : Below B w W1) (hg : w.grownBy W1 wv.ownBlock) (hat : v1.ownBlock = wv.ownBlock ∨ ∃ b, v1.ownBlock = some b ∧ w.heap.size ≤ b) :
    Man B (W1.setCell ⟨g, 1, none⟩ v1) g A v1 (retired m t a) ∧ Kept w (W1.setCell ⟨g, 1, none⟩ v1) (foot g A wv) ∧ Below B w (W1.setCell ⟨g, 1, none⟩ v1) ∧ ∀ k, v1.ownBlock = some k → wv.ownBlock = some k ∨ w.heap.size ≤ k := by
  have hgl := blk_lt hm.topc
  have ht : W1.heap[g]? = w.heap[g]? := hg.block g hgl (fun e => by
    obtain ⟨c, hc⟩ := own_tag hm.own g e.symm
    exact ne_of_tag hm.topc hc (by decide) rfl)
  have htop := ht.trans hm.topc
  have far : ∀ k, k ≠ g → (W1.setCell ⟨g, 1, none⟩ v1).heap[k]? = W1.heap[k]? := fun k hk => Below.heap_setCell W1 ⟨g, 1, none⟩ _ k hk
  have hset := blk_set htop 1 v1
  have hlow := hb.setCell (p := ⟨g, 1, none⟩) hm.bg v1
  have hsz : (W1.setCell ⟨g, 1, none⟩ v1).heap.size = W1.heap.size := by simp [World.setCell]
  generalize W1.setCell ⟨g, 1, none⟩ v1 = w2 at *
  have hsize := hg.size
  refine ⟨⟨hm.len, hm.small, hm.bg, ⟨hm.top.choose, by rw [hset]; rfl⟩, hm.none_, fun b hb => ?_, ?_⟩, ⟨by omega, fun k hk hf => ?_⟩, hlow, fun k hk => ?_⟩
  · obtain ⟨h, e, h1, tl, h2⟩ := hm.row b hb
    refine ⟨h, e, h1, tl, (far h (fun e2 => ne_of_tag h2 hm.topc (by decide) e2)).trans ((hg.block h (blk_lt h2) (fun e3 => ?_)).trans h2)⟩
    obtain ⟨c, hc⟩ := own_tag hm.own h e3.symm
    exact ne_of_tag h2 hc (by decide) rfl
  · have e : flat (retired m t a).ws = flat m.ws ++ [.int .i64 t, .int .i64 a] := flat_append _ _
    have e2 : (retired m t a).ws.length = m.ws.length + 1 := by simp [retired]
    rw [e, e2]
    obtain ⟨h1, h2⟩ := ho
    refine ⟨h1, h2.imp_right ?_⟩
    rintro ⟨b, cap, cur, e, h3, h4, h5⟩
    exact ⟨b, cap, cur, e, h3, (far b (fun e2 => ne_of_tag h4 htop (by decide) e2)).trans h4, h5⟩
  · rw [far k (fun e => hf (.inl e)), hg.block k hk (fun e => hf (.inr (.inr e.symm)))]
  · rcases hat with h | ⟨b, h, hb2⟩
    · exact .inl (h ▸ hk)
    · rw [h] at hk; injection hk with hk; exact .inr (by omega)
theorem take_mine (t : Int) (l : List P2) (k : Nat) (hk : k < l.length) : ((l.take (k + 1)).filter fun x => x.1 == t).length = ((l.take k).filter fun x => x.1 == t).length + (if (l.getD k (0, 0)).1 == t then 1 else 0) := by
  rw [List.take_succ_eq_append_getElem hk, List.filter_append, List.length_append]
  congr 1
  have : l.getD k (0, 0) = l[k] := by simp [hk]
  rw [this]
  cases h : l[k].1 == t <;> simp [h]
theorem own_form {B : Nat} {w : World} {v : Value} {n : Nat} {xs : List Value} (h : w.ownsRow B 61 2 v n xs) : ∃ A c, v = .slice A n c := by
  obtain ⟨_, ⟨e, h⟩ | ⟨b, cap, cur, e, _⟩⟩ := h
  · exact ⟨none, 0, by rw [e, h]⟩
  · exact ⟨_, _, e⟩
theorem ne_own {B : Nat} {w : World} {g : Nat} {A : Option Addr} {wv : Value} {m : HM} (hm : Man B w g A wv m) (k : Nat) (hk : k = g ∨ ∃ a, A = some a ∧ a.block = k) : some k ≠ wv.ownBlock := by
  intro e
  obtain ⟨c, hc⟩ := own_tag hm.own k e.symm
  rcases hk with rfl | ⟨a, ha, rfl⟩
  · exact ne_of_tag hm.topc hc (by decide) rfl
  · obtain ⟨h, e2, _, tl, hh⟩ := hm.row a ha
    subst e2
    exact ne_of_tag hh hc (by decide) rfl
set_option maxHeartbeats 8000000 in
set_option maxRecDepth 100000 in
theorem retire_add {B : Nat} {w : World} {g : Nat} {A : Option Addr} {wv : Value} {m : HM} (hm : Man B w g A wv m) (hB : B ≤ w.heap.size) (hl : m.ws.length ≤ 100000) (t a : Int) (h1 : bad m t = false) (h2 : ¬ a < 1) (h3 : (m.ws.any fun x => x.2 == a) = false) :
    Calls Try.prog 26 #[.pointer (some ⟨g, 0, none⟩), .int .i64 t, .int .i64 a] w fun e w' => ∃ v, e = .returned (.tuple #[v, .int .i64 0]) ∧
      Kd.R (Kd.int .i64) 3 w' w.heap.size (fun _ => True) v (if mine (retired m t a) t ≤ 3 * m.n then [] else backs (retired m t a) t) ∧
      After B w g A wv (if mine (retired m t a) t ≤ 3 * m.n then retired m t a else scanned (retired m t a) t) w' := by
  have hbe := (Below.refl w.heap.size w).alloc (Nat.le_refl _) (.cells #[.int .i64 a] 3 (0, 0))
  have hm2 := hm.grow hbe
  have hc := no_calls hm2 t
  rw [h1] at hc
  have hgl := blk_lt hm.topc
  obtain ⟨A0, c0, rfl⟩ := wv_form hm
  have hd := dups hm2 (by omega) a w.heap.size (Go.Lib.cell_of_heap (heap_alloc_new w (.cells #[.int .i64 a] 3 (0, 0))) 0)
  rw [h3] at hd
  have c1 := hm2.c1
  have hd1 : decide (a < 1) = false := by simpa using h2
  have HM0 := Aside0.mk hm
  have HM2 := Aside0.mk hm2
  have HBE := Aside0.mk hbe
  have ca := Go.Lib.cell_of_heap (heap_alloc_new w (.cells #[.int .i64 a] 3 (0, 0))) 0
  simp only [List.getElem?_toArray, List.getElem?_cons_zero] at ca
  have CA := Aside0.mk ca
  clear hm hm2 h1 h3 hbe ca
  go_enter Try.func26, Try.ntmps26
  go_wp2_with (first | (go_at_call 41; refine hc.mono ?_; rintro e w' ⟨rfl, rfl⟩) | (go_at_call 42; refine hd.mono ?_; rintro e w1 ⟨rfl, hb2⟩; have HM1 := Aside0.mk (HM2.out.grow hb2); have HB1 := Aside0.mk (btrans HBE.out hb2); have c11 := HM1.out.c1; have f11 : w1.frozen? ⟨g, 1, none⟩ = false := blk_frozen HM1.out.topc 1; have ca : w1.cell? ⟨w.heap.size, 0, none⟩ = some (.int .i64 a) := (hb2.cell (p := ⟨w.heap.size, 0, none⟩) (World.block_lt_of_cell? _ _ CA.out)).trans CA.out; clear hb2))
  have hown : w1.drew.ownsRow B 61 2 (.slice A0 m.ws.length c0) m.ws.length (flat m.ws) := HM1.out.own
  have hsize : B ≤ w1.drew.heap.size := Nat.le_trans hB HB1.out.size
  have hlim : (m.ws.length + 1) * 16 ≤ 140737488355328 := by omega
  have hone : ∀ u ∈ [Value.int .i64 t, Value.int .i64 a], u.oneCell' = true := by
    intro u hu
    simp at hu
    rcases hu with rfl | rfl <;> rfl
  have HMD := Aside0.mk (HM1.out.grow (below_drew1 (Below.refl _ _)))
  have c12 : (w1.alloc (.cells #[.int .i64 t, .int .i64 a] 61 (0, 0))).cell? ⟨g, 1, none⟩ = some (.slice A0 m.ws.length c0) := (((Below.refl w1.heap.size w1).alloc (Nat.le_refl _) _).cell (p := ⟨g, 1, none⟩) (blk_lt HM1.out.topc)).trans c11
  clear hc hd c1 hd1 h2
  go_region_law (refine step_append_cells (w0 := w1.drew) (W := w1.drew) B ?hw (.tmp 28) (.tmp 32) 51 61 (.agg #[.int .i64 0, .int .i64 0]) 2 16 rfl Try.underlying51 info61 rfl (by decide) (by decide) (.slice A0 m.ws.length c0) m.ws.length (flat m.ws) [.int .i64 t, .int .i64 a] ?hs ?hx rfl hone hown (Below.refl _ _) hsize hlim ?_; (case hw => exact (by simp [Region.wanted])); (case hs => exact (by simp [Act.eval, Act.put])); (case hx => exact (by simp [Act.eval, Act.put])); intro v1 wn ho hb hg hat; have HX := Aside0.mk (man_retired HMD.out hsize ho hb hg hat); obtain ⟨A1, d1, rfl⟩ := own_form ho; have hgn := hg.block g (blk_lt HMD.out.topc) (fun e => ne_own HMD.out g (.inl rfl) e); have cn : wn.cell? ⟨g, 1, none⟩ = some (.slice A0 m.ws.length c0) := (by rw [Go.Lib.cell_of_heap (hgn.trans HMD.out.topc)]; rfl); have fn : wn.frozen? ⟨g, 1, none⟩ = false := blk_frozen (hgn.trans HMD.out.topc) 1; clear ho hb hg hat hgn)
  all_goals
    obtain ⟨hmW, hkW, hbW, hwW⟩ := HX.out
    have hLl : (retired m t a).ws.length = m.ws.length + 1 := by simp [retired]
    have hmine : ∀ k, k < (retired m t a).ws.length → (((retired m t a).ws.take (k + 1)).filter fun x => x.1 == t).length = (((retired m t a).ws.take k).filter fun x => x.1 == t).length + (if ((retired m t a).ws.getD k (0, 0)).1 == t then 1 else 0) := fun k hk => take_mine t (retired m t a).ws k hk
    have hlL : m.ws.length + 1 ≤ 1000000 := by omega
    generalize m.ws.length + 1 = L at *
    generalize wn.setCell ⟨g, 1, none⟩ (.slice A1 L d1) = W at *
    have c1W := hmW.c1
    have HMW := Aside0.mk hmW
    have HKW := Aside0.mk hkW
    have HBW := Aside0.mk hbW
    have HWW := Aside0.mk hwW
    have HMI := Aside0.mk hmine
    clear hmW hkW hbW hwW HX hmine cn fn c12 HMD hlim hsize hown hone ca f11 c11
    have hkA : Kept w W (foot g A (.slice A0 m.ws.length c0)) := (Kept.of_below (below_drew1 HB1.out) _).then_ HKW.out (fun k h => .inl h)
    have hbA : Below B w W := (below_drew1 (HB1.out.mono hB)).trans HBW.out
    have hwA : ∀ k, (Value.slice A1 L d1).ownBlock = some k → (Value.slice A0 m.ws.length c0).ownBlock = some k ∨ w.heap.size ≤ k := fun k hk => by
      rcases HWW.out k hk with h | h
      · exact .inl h
      · exact .inr (Nat.le_trans HB1.out.size h)
    have HKA := Aside0.mk hkA
    have HBA := Aside0.mk hbA
    have HWA := Aside0.mk hwA
    have hBW : B ≤ W.heap.size := Nat.le_trans hB hkA.1
    have hwW : w.heap.size ≤ W.heap.size := hkA.1
    have HR0 := Aside0.mk (Below.refl W.heap.size W)
    clear hkA hbA hwA HKW HBW HWW HM1 HM2 HBE CA HM0
    go_wp2
    go_loopg [8, 41, 10] L (fun gg v8 v41 v10 wr => ∃ kk : Nat, kk ≤ L ∧ L - kk ≤ gg ∧ v8 = .int .i64 ((((retired m t a).ws.take kk).filter fun x => x.1 == t).length : Nat) ∧ v41 = .int .i64 kk ∧ Aside0 (Below W.heap.size W wr))
    case atStart => exact ⟨0, Nat.zero_le _, by omega, rfl, rfl, HR0⟩
    case round =>
      clear HR0
      obtain ⟨kk, hkk, hgg, rfl, rfl, HR⟩ := hrel
      have hcn : (((retired m t a).ws.take kk).filter fun x => x.1 == t).length ≤ 1000000 := by
        refine Nat.le_trans (List.length_filter_le _ _) ?_
        rw [List.length_take]
        omega
      by_cases hlt : kk < L
      · obtain ⟨b, cap, e, _, hb2, hx, hy⟩ := wait_cell HMW.out.own kk (by omega)
        injection e with e1 hL2 e2
        clear hL2
        subst e1; subst e2
        replace hx := (HR.out.cell (p := ⟨b, kk * 2, none⟩) hb2).trans hx
        replace hy := (HR.out.cell (p := ⟨b, kk * 2 + 1, none⟩) hb2).trans hy
        have hmi := HMI.out kk (by omega)
        generalize ((retired m t a).ws.getD kk (0, 0)).1 = x at hx hmi
        generalize ((retired m t a).ws.getD kk (0, 0)).2 = y at hy
        generalize (((retired m t a).ws.take kk).filter fun x => x.1 == t).length = N at hmi hcn
        cases hq : (x == t) with
        | true =>
          rw [hq, if_pos rfl] at hmi
          have HMi := Aside0.mk hmi
          clear hmi
          go_wp2
          go_roundg (L - (kk + 1))
          case measure => omega
          case rel => exact ⟨kk + 1, by omega, by omega, by rw [HMi.out]; rfl, by go_num, ⟨HR.out.alloc HR.out.size _⟩⟩
        | false =>
          rw [hq, if_neg (by decide), Nat.add_zero] at hmi
          have HMi := Aside0.mk hmi
          clear hmi
          go_wp2
          go_roundg (L - (kk + 1))
          case measure => omega
          case rel => exact ⟨kk + 1, by omega, by omega, by rw [HMi.out]; rfl, by go_num, ⟨HR.out.alloc HR.out.size _⟩⟩
      · have hkk2 : kk = L := by omega
        subst hkk2
        have hN : (((retired m t a).ws.take kk).filter fun x => x.1 == t).length = mine (retired m t a) t := by
          unfold mine
          rw [List.take_of_length_le (by omega)]
        rw [hN] at hcn
        rw [hN]
        have HMr := Aside0.mk (HMW.out.grow HR.out)
        obtain ⟨cp, c0r⟩ := HMr.out.c0
        have hsm : (retired m t a).n ≤ 4 := HMr.out.small
        have hn : (retired m t a).n = m.n := rfl
        rw [hn] at c0r hsm
        have HAr := Aside0.mk (After.grow HMW.out hBW HR.out)
        have hsz := HR.out.size
        by_cases hle : mine (retired m t a) t ≤ 3 * m.n
        · have hd : decide (((mine (retired m t a) t : Nat) : Int) ≤ 3 * (m.n : Int)) = true := decide_eq_true (by omega)
          clear hN HMI
          go_wp2
          go_ret2
          refine ⟨_, rfl, ?_, ?_⟩
          · exact Kd.R_nil _ _ _ _ _
          · exact After.then_ HKA.out HBA.out HWA.out HAr.out
        · have hd : decide (((mine (retired m t a) t : Nat) : Int) ≤ 3 * (m.n : Int)) = false := decide_eq_false (by omega)
          have hsc := scan_calls HMr.out (Nat.le_trans hBW hsz) (by omega) t
          have HSC := Aside0.mk hsc
          clear hsc hN HMI
          go_wp2_with (go_at_call 40; refine (HSC.out).mono ?_; rintro e w' ⟨v, wv2, rfl, p1, p2, p3, p4, p5⟩; have HP := Aside0.mk (⟨p1, p2, p3, p4, p5⟩ : _ ∧ _ ∧ _ ∧ _ ∧ _); clear p1 p2 p3 p4 p5)
          go_ret2
          obtain ⟨p1, p2, p3, p4, p5⟩ := HP.out
          refine ⟨_, rfl, ?_, ?_⟩
          · exact Kd.R_lower p1 (by omega)
          · exact After.then_ HKA.out HBA.out HWA.out (After.then_ (Kept.of_below HR.out _) (HR.out.mono hBW) (fun k hk => .inl hk) ⟨wv2, p2, p3, p4, fun k hk => .inl (p5 k hk)⟩)
end Go.Proofs.Ytgdadefobhfkcaa.Hy
