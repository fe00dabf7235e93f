/- Copy of a hazard manager: plain lemmas; no condition. -/
import Derived.Test.YtgdadefobhfkcaaHy12
import Derived.Deep.RegionLaw
import Derived.Lib.SliceRun
namespace Go.Proofs.Ytgdadefobhfkcaa.Hy
open Go.RowKit Go.Proofs.YtgdadefobhfkcaaW.PrintWords Go.Proofs.YtgdadefobhfkcaaW.PrintLast Go.Proofs.YtgdadefobhfkcaaW.PrintMore
set_option linter.unusedVariables false
set_option linter.unusedSimpArgs false
set_option maxHeartbeats 8000000
set_option maxRecDepth 100000
theorem flat_one (l : List P2) : ∀ u ∈ flat l, u.oneCell' = true := by
  induction l with
  | nil => intro u hu; cases hu
  | cons p r ih =>
    intro u hu
    rcases List.mem_cons.1 hu with rfl | hu
    · rfl
    · rcases List.mem_cons.1 hu with rfl | hu
      · rfl
      · exact ih u hu
theorem ints_one (l : List Int) : ∀ u ∈ ints l, u.oneCell' = true := by
  intro u hu
  obtain ⟨x, _, rfl⟩ := List.mem_map.1 hu
  rfl
theorem own_below {B : Nat} {w w' : World} {e : TypeId} {s n : Nat} {v : Value} {xs : List Value} (h : w.ownsRow B e s v n xs) (hb : Below w.heap.size w w') : w'.ownsRow B e s v n xs := pw_own_below h hb
theorem clone_ws {B : Nat} {w : World} {wv : Value} {l : List P2} (ho : w.ownsRow B 61 2 wv l.length (flat l)) (hl : l.length ≤ 100000) :
    Calls Try.prog 39 #[wv] w fun e w' => ∃ v', e = .returned v' ∧ w'.ownsRow w.heap.size 61 2 v' l.length (flat l) ∧ Below w.heap.size w w' := by
  have hcell := fun j (hj : j < l.length) => wait_cell ho j hj
  have q67 : ∀ (w : World) (a : Option Addr) (n c n' c' : Nat), (binOp .eql 51 (.slice a n c) (.slice none n' c')).run Try.prog w = .ok (.bool a.isNone) w := fun w a n c n' c' => Lib.run_eql_slice_nil w _ _ a n c n' c' Try.underlying51
  obtain ⟨h1, ⟨e, h⟩ | ⟨b, cap, cur, e, h3, h4, h5, h6, h7, h8⟩⟩ := ho
  · subst e
    have hl0 : l = [] := List.eq_nil_of_length_eq_zero h
    subst hl0
    have hb := Below.refl w.heap.size w
    go_enter Try.func39, Try.ntmps39
    go_wp2
    go_ret
    exact ⟨_, rfl, ⟨rfl, .inl ⟨rfl, rfl⟩⟩, hb⟩
  · subst e
    obtain ⟨i0, hi, hzz⟩ := Option.map_eq_some_iff.1 info61
    simp only [Prod.mk.injEq] at hzz
    obtain ⟨hz0, hz1, hz2⟩ := hzz
    have hlim : (0 + l.length) * 16 ≤ 140737488355328 := by omega
    have hmade : (w.alloc (.cells #[] 61 (0, 0))).ownsRow w.heap.size 61 2 (.slice (some ⟨w.heap.size, 0, none⟩) 0 0) 0 [] := ⟨rfl, .inr ⟨w.heap.size, 0, #[], rfl, Nat.le_refl _, heap_alloc_new _ _, Nat.le_refl _, by simp [maxLen], rfl, rfl⟩⟩
    have hnews : ∀ j u, (flat l)[j]? = some u → (w.alloc (.cells #[] 61 (0, 0))).cell? ((⟨b, 0, none⟩ : Addr).add j) = some u := fun j u hj => by
      have hjl : j < (flat l).length := (List.getElem?_eq_some_iff.1 hj).1
      have hbe := (Below.refl w.heap.size w).alloc (Nat.le_refl _) (.cells #[] 61 (0, 0))
      rw [add_plain, hbe.cell (p := ⟨b, j, none⟩) (blk_lt h4), Go.Lib.cell_of_heap h4]
      rw [← h8] at hj
      rw [← h8] at hjl
      have : j < l.length * 2 := by rw [List.length_take] at hjl; omega
      rw [List.getElem?_take_of_lt this] at hj
      simpa using hj
    have hone : ∀ u ∈ flat l, u.oneCell' = true := flat_one l
    have HNEWS := Aside0.mk hnews
    have HONE := Aside0.mk hone
    have HMADE := Aside0.mk hmade
    have hfl := flat_len l
    have HFL := Aside0.mk hfl
    clear hnews hone hmade hcell h4 h8 hfl
    go_enter Try.func39, Try.ntmps39
    go_wp2_with (at_builtin; refine wpList_append_own _ rfl (.tmp 5) (.tmp 6) 51 rfl w.heap.size 61 i0 (.agg #[.int .i64 0, .int .i64 0]) 2 16 Try.underlying51 hi hz0 hz1 hz2 rfl (by decide) _ _ _ rfl HMADE.out ⟨b, 0, none⟩ l.length cap (flat l) rfl HFL.out HNEWS.out HONE.out (by unfold maxLen; omega) hlim (by simp) ?_; intro v' w1 hown hgrow hnil; have HO := Aside0.mk hown; have HG := Aside0.mk hgrow; clear hown hgrow hnil)
    go_ret
    refine ⟨_, rfl, by simpa using HO.out, ?_⟩
    exact ((Below.refl _ w).alloc (Nat.le_refl _) _).grown HG.out (by rw [alloc_size]; omega) (fun k hk => Nat.le_of_eq (Option.some.inj hk))
/-- Holds in a row of their own. -/
theorem clone_hs {w : World} {h n cp : Nat} {hs : List Int} {tl : List Value} (hlen : hs.length = n * 3) (hn : 0 < n) (h4n : n ≤ 4) (hh : w.heap[h]? = some (.cells (ints hs ++ tl).toArray 66 (0, 0))) :
    Calls Try.prog 38 #[.slice (some ⟨h, 0, none⟩) n cp] w fun e w' => ∃ b c tl', e = .returned (.slice (some ⟨b, 0, none⟩) n c) ∧ w.heap.size ≤ b ∧ w'.heap[b]? = some (.cells (ints hs ++ tl').toArray 66 (0, 0)) ∧ Below w.heap.size w w' := by
  have q50 : ∀ (w : World) (a : Option Addr) (n c n' c' : Nat), (binOp .eql 50 (.slice a n c) (.slice none n' c')).run Try.prog w = .ok (.bool a.isNone) w := fun w a n c n' c' => Lib.run_eql_slice_nil w _ _ a n c n' c' Try.underlying50
  obtain ⟨i0, hi, hzz⟩ := Option.map_eq_some_iff.1 info66
  simp only [Prod.mk.injEq] at hzz
  obtain ⟨hz0, hz1, hz2⟩ := hzz
  have hlim : (0 + n) * 24 ≤ 140737488355328 := by omega
  have hmade : (w.alloc (.cells #[] 66 (0, 0))).ownsRow w.heap.size 66 3 (.slice (some ⟨w.heap.size, 0, none⟩) 0 0) 0 [] := ⟨rfl, .inr ⟨w.heap.size, 0, #[], rfl, Nat.le_refl _, heap_alloc_new _ _, Nat.le_refl _, by simp [maxLen], rfl, rfl⟩⟩
  have hnews : ∀ j u, (ints hs)[j]? = some u → (w.alloc (.cells #[] 66 (0, 0))).cell? ((⟨h, 0, none⟩ : Addr).add j) = some u := fun j u hj => by
    have hjl : j < (ints hs).length := (List.getElem?_eq_some_iff.1 hj).1
    have hbe := (Below.refl w.heap.size w).alloc (Nat.le_refl _) (.cells #[] 66 (0, 0))
    rw [add_plain, hbe.cell (p := ⟨h, j, none⟩) (blk_lt hh), Go.Lib.cell_of_heap hh]
    simpa [List.getElem?_append_left hjl] using hj
  have hfl : (ints hs).length = n * 3 := by rw [ints_len, hlen]
  have HNEWS := Aside0.mk hnews
  have HONE := Aside0.mk (ints_one hs)
  have HMADE := Aside0.mk hmade
  have HFL := Aside0.mk hfl
  clear hnews hmade hh hfl
  go_enter Try.func38, Try.ntmps38
  go_wp2_with (at_builtin; refine wpList_append_own _ rfl (.tmp 5) (.tmp 6) 50 rfl w.heap.size 66 i0 (.agg #[.int .i64 0, .int .i64 0, .int .i64 0]) 3 24 Try.underlying50 hi hz0 hz1 hz2 rfl (by decide) _ _ _ rfl HMADE.out ⟨h, 0, none⟩ n cp (ints hs) rfl HFL.out HNEWS.out HONE.out (by unfold maxLen; omega) hlim (by simp) ?_; intro v' w1 hown hgrow hnil; have HO := Aside0.mk hown; have HG := Aside0.mk hgrow; clear hown hgrow hnil)
  go_ret
  obtain ⟨p1, ⟨e, p2⟩ | ⟨b, cap, cur, e, q1, q2, q3, q4, q5, q6⟩⟩ := HO.out
  · omega
  · rw [Nat.zero_add] at e q6
    rw [List.nil_append] at q6
    refine ⟨b, cap, cur.toList.drop (n * 3), by rw [e]; rfl, q1, ?_, ((Below.refl _ w).alloc (Nat.le_refl _) _).grown HG.out (by rw [alloc_size]; omega) (fun k hk => Nat.le_of_eq (Option.some.inj hk))⟩
    rw [← q6, List.take_append_drop]
    exact q2
theorem copy_calls {B : Nat} {w : World} {g : Nat} {A : Option Addr} {wv : Value} {m : HM} (hm : Man B w g A wv m) (h0 : 0 < m.n) (hl : m.ws.length ≤ 100000) :
    Calls Try.prog 23 #[.pointer (some ⟨g, 0, none⟩)] w fun e w' => ∃ g2 A2 wv2, e = .returned (.pointer (some ⟨g2, 0, none⟩)) ∧ Man w.heap.size w' g2 A2 wv2 m ∧ Below w.heap.size w w' := by
  have hsm := hm.small
  have hlen := hm.len
  have hA : A ≠ none := fun hA => by have := hm.none_ hA; omega
  obtain ⟨ad, rfl⟩ := Option.ne_none_iff_exists'.1 hA
  obtain ⟨h, rfl, hB, tl, hh⟩ := hm.row _ rfl
  have q50 : ∀ (w : World) (a : Option Addr) (n c n' c' : Nat), (binOp .eql 50 (.slice a n c) (.slice none n' c')).run Try.prog w = .ok (.bool a.isNone) w := fun w a n c n' c' => Lib.run_eql_slice_nil w _ _ a n c n' c' Try.underlying50
  have HM0 := Aside0.mk hm
  obtain ⟨cp, c0⟩ := hm.c0
  have c1 := hm.c1
  have HH := Aside0.mk hh
  have HT := Aside0.mk (fun (W : World) (hW : W.heap[h]? = some (.cells (ints m.hs ++ tl).toArray 66 (0, 0))) => clone_hs (cp := cp) hlen h0 hsm hW)
  have HWS := Aside0.mk (fun (W : World) (hW : Man B W g (some ⟨h, 0, none⟩) wv m) => clone_ws hW.own hl)
  clear hm hh hA
  go_enter Try.func23, Try.ntmps23
  go_wp2
  have MD := Aside0.mk (HM0.out.grow (below_drew1 (Below.refl w.heap.size w)))
  have HHD := Aside0.mk (show w.drew.heap[h]? = _ from HH.out)
  have tokA : True := trivial
  go_region_with (first
    | (go_at_call 38; have _t := tokA; clear _t tokA; refine (HT.out w.drew HHD.out).mono ?_; rintro e w1 ⟨b1, k1, tl1, rfl, p1, p2, hb⟩; have HR1 := Aside0.mk p2; have HP1 := Aside0.mk p1; have M1 := Aside0.mk (MD.out.grow hb); have B1 := Aside0.mk hb; have d1 := M1.out.c1; clear hb p1 p2; have tokB : True := trivial)
    | (go_at_call 39; have _t := tokB; clear _t tokB; refine (HWS.out w1 M1.out).mono ?_; rintro e w2 ⟨wv2, rfl, ho, hb⟩; obtain ⟨A2, c2_, rfl⟩ := own_form ho; have HO2 := Aside0.mk ho; have HR2 := Aside0.mk ((hb.block b1 (blk_lt HR1.out)).trans HR1.out); have B2 := Aside0.mk (btrans B1.out hb); clear ho hb))
  all_goals go_wp2
  all_goals go_ret
  all_goals
    have hsz : w.heap.size ≤ w2.heap.size := B2.out.size
    have hn := heap_alloc_new w2 (.cells #[.slice (some ⟨b1, 0, none⟩) m.n k1, .slice A2 m.ws.length c2_] 53 (0, 0))
    have hbn := (Below.refl w2.heap.size w2).alloc (Nat.le_refl _) (.cells #[.slice (some ⟨b1, 0, none⟩) m.n k1, .slice A2 m.ws.length c2_] 53 (0, 0))
    have hb : Below w.heap.size w w2 := ⟨B2.out.os, B2.out.tape, B2.out.output, B2.out.size, B2.out.block⟩
    refine ⟨_, _, _, rfl, ⟨hlen, hsm, hsz, ⟨k1, hn⟩, fun h => absurd h (by simp), fun a ha => ?_, ?_⟩, btrans hb hbn⟩
    · injection ha with ha
      exact ⟨b1, ha.symm, HP1.out, tl1, (hbn.block b1 (blk_lt HR2.out)).trans HR2.out⟩
    · have := HO2.out
      have h2 : w2.ownsRow w.heap.size 61 2 (.slice A2 m.ws.length c2_) m.ws.length (flat m.ws) := by
        obtain ⟨p1, p2⟩ := this
        refine ⟨p1, p2.imp_right ?_⟩
        rintro ⟨b, cap, cur, e, h3, h5⟩
        exact ⟨b, cap, cur, e, Nat.le_trans B1.out.size h3, h5⟩
      exact pw_own_below h2 hbn
end Go.Proofs.Ytgdadefobhfkcaa.Hy
