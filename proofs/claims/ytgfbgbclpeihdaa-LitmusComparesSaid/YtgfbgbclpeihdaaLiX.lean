/- The reference's AtLeast, walked: plain lemmas; no condition. -/
import Derived.Test.YtgfbgbclpeihdaaLiV
import Derived.Test.YtgfbgbclpeihdaaLiT
namespace Go.Proofs.Ytgfbgbclpeihdaa.Li
open Go.RowKit Go.Proofs.YtgfbgbclpeihdaaW.PrintWords Go.Proofs.YtgfbgbclpeihdaaW.PrintLast Go.Proofs.YtgfbgbclpeihdaaW.PrintMore
set_option linter.unusedVariables false
set_option linter.unusedSimpArgs false
set_option maxHeartbeats 8000000
set_option maxRecDepth 100000
attribute [local go_sem high] eqOp
theorem stronger_calls (a b : Int) (w : World) : Calls Try.prog 55 #[.int .i64 a, .int .i64 b] w fun e w' => e = .returned (.bool (covL a b)) ∧ w' = w := by
  unfold covL
  by_cases h1 : a = b
  · subst h1
    go_enter Try.func55, Try.ntmps55
    go_wp2
    go_ret
    exact ⟨by simp, rfl⟩
  · have h1b : (a == b) = false := by simp [h1]
    by_cases h4 : a = 4
    · subst h4
      go_enter Try.func55, Try.ntmps55
      go_wp2
      go_ret
      exact ⟨by simp, rfl⟩
    · have h4b : (a == 4) = false := by simp [h4]
      by_cases h0 : b = 0
      · subst h0
        go_enter Try.func55, Try.ntmps55
        go_wp2
        go_ret
        exact ⟨by simp, rfl⟩
      · have h0b : (b == 0) = false := by simp [h0]
        by_cases h3 : a = 3
        · subst h3
          by_cases b1 : b = 1
          · subst b1
            go_enter Try.func55, Try.ntmps55
            go_wp2
            go_ret
            exact ⟨by simp, rfl⟩
          · have b1b : (b == 1) = false := by simp [b1]
            go_enter Try.func55, Try.ntmps55
            go_wp2
            go_ret
            exact ⟨by simp [h1, h0, b1]; rfl, rfl⟩
        · have h3b : (a == 3) = false := by simp [h3]
          go_enter Try.func55, Try.ntmps55
          go_wp2
          go_ret
          exact ⟨by simp [h1, h4, h0, h3], rfl⟩
def reO (x y : LOp) : Bool := covL x.o y.o && (decide (x.k = y.k) && (decide (x.l = y.l) && (decide (x.v = y.v) && decide (x.w = y.w))))
def ratL (P Q : List (List LOp)) : Bool × Int := if checkL P = 0 then (if checkL Q = 0 then (all2 (all2 reO) P Q, 0) else (false, checkL Q)) else (false, checkL P)
theorem all2_more {α : Type} {f : α → α → Bool} {L M : List α} {i : Nat} (hl : L.length = M.length) (h1 : i < L.length) (h : ((L.take i).zip (M.take i)).all (fun p => f p.1 p.2) = true) (h2 : f L[i] (M[i]'(by omega)) = true) : ((L.take (i + 1)).zip (M.take (i + 1))).all (fun p => f p.1 p.2) = true := by
  rw [all2_next h1 (by omega), h, h2]; rfl
theorem ratLeast_calls (P Q : List (List LOp)) (A B : Option Addr) (c d : Nat) (w : World) (hp : PAt w A P) (hq : PAt w B Q) (hc : P.length ≤ c) (hd : Q.length ≤ d) (hl : P.length ≤ 1000) (hm : Q.length ≤ 1000) (hpl : P.flatten.length ≤ 1000000) (hql : Q.flatten.length ≤ 1000000) :
    Calls Try.prog 22 #[.agg #[.slice A P.length c], .agg #[.slice B Q.length d]] w fun e w' => e = .returned (.tuple #[.bool (ratL P Q).1, .int .i64 (ratL P Q).2]) ∧ Below w.heap.size w w' := by
  have rl : ∀ (P : List (List LOp)), P.flatten.length ≤ 1000000 → ∀ r ∈ P, r.length ≤ 1000000 := fun P h r hr => by
    have := List.Sublist.length_le (List.sublist_flatten_of_mem hr)
    omega
  have RP := Aside0.mk (rl P hpl)
  have RQ := Aside0.mk (rl Q hql)
  have b2 := below2 w (.cells #[.slice A P.length c] 24 (0, 0)) (.cells #[.slice B Q.length d] 24 (0, 0))
  have h1 := heap_alloc_new (w.alloc (.cells #[.slice A P.length c] 24 (0, 0))) (.cells #[.slice B Q.length d] 24 (0, 0))
  have h0 := (((Below.refl _ (w.alloc (.cells #[.slice A P.length c] 24 (0, 0)))).alloc (Nat.le_refl _) (.cells #[.slice B Q.length d] 24 (0, 0))).block _ (blk_lt (heap_alloc_new w (.cells #[.slice A P.length c] 24 (0, 0))))).trans (heap_alloc_new w (.cells #[.slice A P.length c] 24 (0, 0)))
  have k0 := (Go.Lib.cell_of_heap h0 0).trans rfl
  have k1 := (Go.Lib.cell_of_heap h1 0).trans rfl
  have h1s : (w.alloc (.cells #[.slice A P.length c] 24 (0, 0))).heap.size = w.heap.size + 1 := by show (w.heap.push _).size = _; rw [Array.size_push]
  rw [h1s] at h1 k1
  have H0 := Aside0.mk h0
  have H1 := Aside0.mk h1
  have HB := Aside0.mk b2
  have HP := Aside0.mk hp
  have HQ := Aside0.mk hq
  have HCP := Aside0.mk (fun w' (h : PAt w' A P) => rcheck_calls P A c w' h hc hpl hl)
  have HCQ := Aside0.mk (fun w' (h : PAt w' B Q) => rcheck_calls Q B d w' h hd hql hm)
  obtain ⟨r, hr⟩ : ∃ r, r = ratL P Q := ⟨_, rfl⟩
  rw [← hr]
  unfold ratL at hr
  have HPC := Aside0.mk (HCP.out _ (hp.below b2))
  obtain ⟨eP, heP⟩ : ∃ e, e = checkL P := ⟨_, rfl⟩
  obtain ⟨eQ, heQ⟩ : ∃ e, e = checkL Q := ⟨_, rfl⟩
  rw [← heP] at hr HCP HPC
  rw [← heQ] at hr HCQ
  have HR := Aside0.mk hr
  clear hp hq hpl hql b2 h0 h1 h1s hr rl heP heQ hc hd
  by_cases hz : eP = 0
  · have hzb : (eP == 0) = true := by simp [hz]
    have hzc : (eP != 0) = false := by simp [hz]
    have HR := Aside0.mk (show r = if eQ = 0 then (all2 (all2 reO) P Q, 0) else (false, eQ) from by rw [HR.out, if_pos hz])
    clear hz
    by_cases hy : eQ = 0
    · have hyb : (eQ == 0) = true := by simp [hy]
      have hyc : (eQ != 0) = false := by simp [hy]
      have HR := Aside0.mk (show r = (all2 (all2 reO) P Q, 0) from by rw [HR.out, if_pos hy])
      clear hy
      by_cases hne : P.length = Q.length
      · have hnb : ((P.length : Int) != (Q.length : Int)) = false := by simp [hne]
        have HNE := Aside0.mk hne
        clear hne
        go_enter Try.func22, Try.ntmps22
        have tok := True.intro
        go_wp2_with (first | (have _t := tok; go_at_call 15; refine HPC.out.mono ?_; rintro e w2 ⟨rfl, hb⟩; replace H0 := Aside0.mk ((hb.block _ (blk_lt H0.out)).trans H0.out); replace H1 := Aside0.mk ((hb.block _ (blk_lt H1.out)).trans H1.out); replace HB := Aside0.mk (btrans HB.out hb); replace k0 := (Go.Lib.cell_of_heap H0.out 0).trans rfl; replace k1 := (Go.Lib.cell_of_heap H1.out 0).trans rfl; have HQC := Aside0.mk (HCQ.out _ (HQ.out.below HB.out)); clear hb tok _t) | (go_at_call 15; refine HQC.out.mono ?_; rintro e w3 ⟨rfl, hb⟩; replace H0 := Aside0.mk ((hb.block _ (blk_lt H0.out)).trans H0.out); replace H1 := Aside0.mk ((hb.block _ (blk_lt H1.out)).trans H1.out); replace HB := Aside0.mk (btrans HB.out hb); replace k0 := (Go.Lib.cell_of_heap H0.out 0).trans rfl; replace k1 := (Go.Lib.cell_of_heap H1.out 0).trans rfl; clear hb))
        go_loopg [8] P.length (fun gg v8 wr => ∃ t : Nat, t ≤ P.length ∧ P.length - t ≤ gg ∧ v8 = .int .i64 t ∧ Aside0 (wr.heap[w.heap.size]? = some (.cells #[.slice A P.length c] 24 (0, 0))) ∧ Aside0 (wr.heap[w.heap.size + 1]? = some (.cells #[.slice B Q.length d] 24 (0, 0))) ∧ Aside0 (Below w.heap.size w wr) ∧ Aside0 (((P.take t).zip (Q.take t)).all (fun p => all2 reO p.1 p.2) = true))
        case atStart => exact ⟨0, by omega, by omega, rfl, H0, H1, HB, ⟨rfl⟩⟩
        case round =>
          clear H0 H1 HB HPC HQC k0 k1
          obtain ⟨t, ht, hgg, rfl, H0, H1, HB, HI⟩ := hrel
          have k0 := (Go.Lib.cell_of_heap H0.out 0).trans rfl
          have k1 := (Go.Lib.cell_of_heap H1.out 0).trans rfl
          simp only [List.getElem?_toArray, List.getElem?_cons_zero] at k0 k1
          by_cases hlt : t < P.length
          · have hii : (t : Int) < (P.length : Int) := by omega
            have hlm : t < Q.length := by have := HNE.out; omega
            have hij : (t : Int) < (Q.length : Int) := by omega
            obtain ⟨ad, A1, c1, rfl, e0, _, hLL⟩ := HP.out.below HB.out t hlt
            obtain ⟨ae, B1, d1, rfl, f0, _, hMM⟩ := HQ.out.below HB.out t hlm
            have HE0 := Aside0.mk e0
            have HF0 := Aside0.mk f0
            have HLL := Aside0.mk hLL
            have HMM := Aside0.mk hMM
            have HN := Aside0.mk (fun h => all2_more (f := all2 reO) HNE.out hlt HI.out h)
            have HBD := Aside0.mk (all2_bad (f := all2 reO) hlt hlm)
            have hLl := RP.out _ (List.getElem_mem hlt)
            have hMl := RQ.out _ (List.getElem_mem hlm)
            clear hLL hMM
            generalize P[t] = L at *
            generalize Q[t] = M at *
            by_cases hlen : L.length = M.length
            · have hlb : ((L.length : Int) != (M.length : Int)) = false := by simp [hlen]
              have HLN := Aside0.mk hlen
              clear hlen
              go_wp2
              go_quiet (fail)
              go_wp2
              go_loopg [9] L.length (fun gg v9 wi => ∃ i : Nat, i ≤ L.length ∧ L.length - i ≤ gg ∧ v9 = .int .i64 i ∧ Aside0 (wi.heap[w.heap.size]? = some (.cells #[.slice (some ad) P.length c] 24 (0, 0))) ∧ Aside0 (wi.heap[w.heap.size + 1]? = some (.cells #[.slice (some ae) Q.length d] 24 (0, 0))) ∧ Aside0 (Below w.heap.size w wi) ∧ Aside0 (Below wr.heap.size wr wi) ∧ Aside0 (((L.take i).zip (M.take i)).all (fun p => reO p.1 p.2) = true))
              case atStart => exact ⟨0, by omega, by omega, rfl, ⟨blk_drewN H0.out _⟩, ⟨blk_drewN H1.out _⟩, ⟨bdrew HB.out _⟩, ⟨bdrew (Below.refl wr.heap.size wr) _⟩, ⟨rfl⟩⟩
              case round =>
                clear H0 H1 HB k0 k1 e0 f0
                obtain ⟨i, hi, hgi, rfl, H0, H1, HB, BW, HI2⟩ := hrel
                have k0 := (Go.Lib.cell_of_heap H0.out 0).trans rfl
                have k1 := (Go.Lib.cell_of_heap H1.out 0).trans rfl
                simp only [List.getElem?_toArray, List.getElem?_cons_zero] at k0 k1
                have e0 := (BW.out.cell (World.block_lt_of_cell? _ _ HE0.out)).trans HE0.out
                have f0 := (BW.out.cell (World.block_lt_of_cell? _ _ HF0.out)).trans HF0.out
                by_cases hil : i < L.length
                · have hili : (i : Int) < (L.length : Int) := by omega
                  have him : i < M.length := by have := HLN.out; omega
                  have himi : (i : Int) < (M.length : Int) := by omega
                  obtain ⟨ad2, rfl, c0, c1, c2, c3, c4⟩ := HLL.out.below BW.out i hil
                  have b1 := al1 wr (.cells #[.int .i64 (L[i]).k, .int .i64 (L[i]).l, .int .i64 (L[i]).v, .int .i64 (L[i]).w, .int .i64 (L[i]).o] 44 (0, 0))
                  obtain ⟨ae2, rfl, d0, d1, d2, d3, d4⟩ := (HMM.out.below BW.out).below b1 i him
                  rw [add_field ad2 (i * 5) 1 (by decide)] at c1
                  rw [add_field ad2 (i * 5) 2 (by decide)] at c2
                  rw [add_field ad2 (i * 5) 3 (by decide)] at c3
                  rw [add_field ad2 (i * 5) 4 (by decide)] at c4
                  rw [add_field ae2 (i * 5) 1 (by decide)] at d1
                  rw [add_field ae2 (i * 5) 2 (by decide)] at d2
                  rw [add_field ae2 (i * 5) 3 (by decide)] at d3
                  rw [add_field ae2 (i * 5) 4 (by decide)] at d4
                  have k1' := (b1.cell (World.block_lt_of_cell? _ _ k1)).trans k1
                  have f0' := (b1.cell (World.block_lt_of_cell? _ _ f0)).trans f0
                  have HN2 := Aside0.mk (fun h => all2_more (f := reO) HLN.out hil HI2.out h)
                  have HBD2 := Aside0.mk (all2_bad (f := reO) hil him)
                  generalize L[i] = x at *
                  generalize M[i] = y at *
                  obtain ⟨k, l, v, u, o⟩ := x
                  obtain ⟨k', l', v', u', o'⟩ := y
                  simp only at c0 c1 c2 c3 c4 d0 d1 d2 d3 d4 b1 k1' f0'
                  have h0 := heap_alloc_new wr (.cells #[.int .i64 k, .int .i64 l, .int .i64 v, .int .i64 u, .int .i64 o] 44 (0, 0))
                  have h1 := heap_alloc_new (wr.alloc (.cells #[.int .i64 k, .int .i64 l, .int .i64 v, .int .i64 u, .int .i64 o] 44 (0, 0))) (.cells #[.int .i64 k', .int .i64 l', .int .i64 v', .int .i64 u', .int .i64 o'] 44 (0, 0))
                  have b2 := below2 wr (.cells #[.int .i64 k, .int .i64 l, .int .i64 v, .int .i64 u, .int .i64 o] 44 (0, 0)) (.cells #[.int .i64 k', .int .i64 l', .int .i64 v', .int .i64 u', .int .i64 o'] 44 (0, 0))
                  have HB2 := Aside0.mk (btrans HB.out b2)
                  have BW2 := Aside0.mk (btrans BW.out b2)
                  have G0 := Aside0.mk ((b2.block _ (blk_lt H0.out)).trans H0.out)
                  have G1 := Aside0.mk ((b2.block _ (blk_lt H1.out)).trans H1.out)
                  have hlow : w.heap.size ≤ wr.heap.size := HB.out.size
                  have hlow2 := BW.out.size
                  have hg0 : w.heap.size ≠ wr.heap.size := Nat.ne_of_lt (blk_lt H0.out)
                  have hg1 : w.heap.size + 1 ≠ wr.heap.size := Nat.ne_of_lt (blk_lt H1.out)
                  have hRE : reO ⟨k, l, v, u, o⟩ ⟨k', l', v', u', o'⟩ = (covL o o' && !(!(k == k') || (!(l == l') || (!(v == v') || !(u == u'))))) := by
                    unfold reO; simp only [Bool.not_or, Bool.not_not]; rfl
                  obtain ⟨q1, hq1⟩ : ∃ q, q = covL o o' := ⟨_, rfl⟩
                  obtain ⟨q2, hq2⟩ : ∃ q, q = (!(k == k') || (!(l == l') || (!(v == v') || !(u == u')))) := ⟨_, rfl⟩
                  rw [← hq1, ← hq2] at hRE
                  have HRE := Aside0.mk hRE
                  have HST := Aside0.mk (fun w => stronger_calls o o' w)
                  rw [← hq1] at HST
                  replace hq2 := hq2.symm
                  clear hRE hq1
                  cases q1 with
                  | false =>
                    go_wp2_with (first | (go_at_call 55; refine (HST.out _).mono ?_; rintro e w2 ⟨rfl, hw⟩; rw [hw]; clear hw))
                    go_ret2
                    exact ⟨by rw [HR.out, HBD.out (HBD2.out (by rw [HRE.out]; rfl))]; rfl, HB2.out⟩
                  | true =>
                    cases q2 with
                    | true =>
                      go_wp2_with (first | (go_at_call 55; refine (HST.out _).mono ?_; rintro e w2 ⟨rfl, hw⟩; rw [hw]; clear hw))
                      go_ret2
                      exact ⟨by rw [HR.out, HBD.out (HBD2.out (by rw [HRE.out]; rfl))]; rfl, btrans HB.out (below2 wr _ _)⟩
                    | false =>
                      go_wp2_with (first | (go_at_call 55; refine (HST.out _).mono ?_; rintro e w2 ⟨rfl, hw⟩; rw [hw]; clear hw))
                      go_roundg (L.length - (i + 1))
                      case measure => omega
                      case rel => exact ⟨i + 1, by omega, by omega, by go_num, ⟨((below2 wr _ _).block _ (blk_lt H0.out)).trans H0.out⟩, ⟨((below2 wr _ _).block _ (blk_lt H1.out)).trans H1.out⟩, ⟨btrans HB.out (below2 wr _ _)⟩, ⟨btrans BW.out (below2 wr _ _)⟩, ⟨HN2.out (by rw [HRE.out]; rfl)⟩⟩
                · have hili : ¬ (i : Int) < (L.length : Int) := by omega
                  go_wp2
                  go_roundg (P.length - (t + 1))
                  case measure => omega
                  case rel => exact ⟨t + 1, by omega, by omega, by go_num, H0, H1, HB, ⟨HN.out (all2_end HLN.out hil HI2.out)⟩⟩
            · have hlb : ((L.length : Int) != (M.length : Int)) = true := by simp; omega
              have HLN := Aside0.mk (all2_ne (f := reO) hlen)
              clear hlen
              go_wp2
              repeat (go_quiet (fail); try go_wp2)
              go_ret2
              exact ⟨by rw [HR.out, HBD.out HLN.out]; rfl, bdrew HB.out _⟩
          · have hii : ¬ (t : Int) < (P.length : Int) := by omega
            go_wp2
            go_ret2
            exact ⟨by rw [HR.out, all2_end HNE.out hlt HI.out]; rfl, HB.out⟩
      · have hnb : ((P.length : Int) != (Q.length : Int)) = true := by simp; omega
        have HE := Aside0.mk (all2_ne (f := all2 reO) hne)
        clear hne
        go_enter Try.func22, Try.ntmps22
        have tok := True.intro
        go_wp2_with (first | (have _t := tok; go_at_call 15; refine HPC.out.mono ?_; rintro e w2 ⟨rfl, hb⟩; replace H0 := Aside0.mk ((hb.block _ (blk_lt H0.out)).trans H0.out); replace H1 := Aside0.mk ((hb.block _ (blk_lt H1.out)).trans H1.out); replace HB := Aside0.mk (btrans HB.out hb); replace k0 := (Go.Lib.cell_of_heap H0.out 0).trans rfl; replace k1 := (Go.Lib.cell_of_heap H1.out 0).trans rfl; have HQC := Aside0.mk (HCQ.out _ (HQ.out.below HB.out)); clear hb tok _t) | (go_at_call 15; refine HQC.out.mono ?_; rintro e w3 ⟨rfl, hb⟩; replace H0 := Aside0.mk ((hb.block _ (blk_lt H0.out)).trans H0.out); replace H1 := Aside0.mk ((hb.block _ (blk_lt H1.out)).trans H1.out); replace HB := Aside0.mk (btrans HB.out hb); replace k0 := (Go.Lib.cell_of_heap H0.out 0).trans rfl; replace k1 := (Go.Lib.cell_of_heap H1.out 0).trans rfl; clear hb))
        go_ret2
        exact ⟨by rw [HR.out, HE.out]; rfl, HB.out⟩
    · have hyb : (eQ == 0) = false := by simp [hy]
      have hyc : (eQ != 0) = true := by simp [hy]
      have HR := Aside0.mk (show r = (false, eQ) from by rw [HR.out, if_neg hy])
      clear hy
      go_enter Try.func22, Try.ntmps22
      have tok := True.intro
      go_wp2_with (first | (have _t := tok; go_at_call 15; refine HPC.out.mono ?_; rintro e w2 ⟨rfl, hb⟩; replace H1 := Aside0.mk ((hb.block _ (blk_lt H1.out)).trans H1.out); replace HB := Aside0.mk (btrans HB.out hb); replace k1 := (Go.Lib.cell_of_heap H1.out 0).trans rfl; have HQC := Aside0.mk (HCQ.out _ (HQ.out.below HB.out)); clear hb tok _t) | (go_at_call 15; refine HQC.out.mono ?_; rintro e w3 ⟨rfl, hb⟩; replace HB := Aside0.mk (btrans HB.out hb); clear hb))
      go_ret2
      exact ⟨by rw [HR.out]; rfl, HB.out⟩
  · have hzb : (eP == 0) = false := by simp [hz]
    have hzc : (eP != 0) = true := by simp [hz]
    have HR := Aside0.mk (show r = (false, eP) from by rw [HR.out, if_neg hz])
    clear hz
    go_enter Try.func22, Try.ntmps22
    go_wp2_with (first | (go_at_call 15; refine HPC.out.mono ?_; rintro e w2 ⟨rfl, hb⟩; replace HB := Aside0.mk (btrans HB.out hb); clear hb))
    go_ret2
    exact ⟨by rw [HR.out]; rfl, HB.out⟩
end Go.Proofs.Ytgfbgbclpeihdaa.Li
