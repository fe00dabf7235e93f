/- Rows of operations compared: slices.Equal, slices.EqualFunc, litmus.Same, litmus.AtLeast, walked: plain lemmas; no condition. -/
import Derived.Test.YtgfbgbclpeihdaaLiU
import Derived.Test.YtgfbgbclpeihdaaLiC
namespace Go.Proofs.Ytgfbgbclpeihdaa.Li
open Go.RowKit Go.Proofs.YtgfbgbclpeihdaaW.PrintWords Go.Proofs.YtgfbgbclpeihdaaW.PrintLast Go.Proofs.YtgfbgbclpeihdaaW.PrintMore
set_option linter.unusedVariables false
set_option linter.unusedSimpArgs false
set_option maxHeartbeats 8000000
set_option maxRecDepth 100000
theorem eqOp (d : Nat) (w : World) (x0 y0 : Int) (x1 y1 : Int) (x2 y2 : Int) (x3 y3 : Int) (x4 y4 : Int) :
    (Op.equalIn (d + 2) 44 (.agg #[.int .i64 x0, .int .i64 x1, .int .i64 x2, .int .i64 x3, .int .i64 x4]) (.agg #[.int .i64 y0, .int .i64 y1, .int .i64 y2, .int .i64 y3, .int .i64 y4])).run Try.prog w = .ok (x0 == y0 && (x1 == y1 && (x2 == y2 && (x3 == y3 && (x4 == y4))))) w := by
  refine eqA_of Try.underlying44 (by kernel_rfl) ?_
  refine eqf_cons (by rfl) (by go_simp; rfl) (by go_simp; rfl) (by go_simp) ?_
  refine eqf_cons (by rfl) (by go_simp; rfl) (by go_simp; rfl) (by go_simp) ?_
  refine eqf_cons (by rfl) (by go_simp; rfl) (by go_simp; rfl) (by go_simp) ?_
  refine eqf_cons (by rfl) (by go_simp; rfl) (by go_simp; rfl) (by go_simp) ?_
  exact eqf_last (by rfl) (by go_simp; rfl) (by go_simp; rfl) (by go_simp)
attribute [local go_sem high] eqOp
/-- Two rows alike, by a test. -/
def all2 {α : Type} (f : α → α → Bool) (L M : List α) : Bool := decide (L.length = M.length) && (L.zip M).all (fun p => f p.1 p.2)
theorem all2_next {α : Type} {f : α → α → Bool} {L M : List α} {i : Nat} (h1 : i < L.length) (h2 : i < M.length) : ((L.take (i + 1)).zip (M.take (i + 1))).all (fun p => f p.1 p.2) = (((L.take i).zip (M.take i)).all (fun p => f p.1 p.2) && f L[i] M[i]) := by
  rw [List.take_succ_eq_append_getElem h1, List.take_succ_eq_append_getElem h2, List.zip_append (by rw [List.length_take, List.length_take]; omega), List.all_append]
  simp
theorem all2_bad {α : Type} {f : α → α → Bool} {L M : List α} {i : Nat} (h1 : i < L.length) (h2 : i < M.length) (h : f L[i] M[i] = false) : all2 f L M = false := by
  unfold all2
  rw [Bool.and_eq_false_iff]
  right
  rw [List.all_eq_false]
  refine ⟨(L[i], M[i]), ?_, by rw [h]; simp⟩
  rw [List.mem_iff_getElem]
  exact ⟨i, by rw [List.length_zip]; omega, by simp⟩
theorem all2_end {α : Type} {f : α → α → Bool} {L M : List α} {i : Nat} (hl : L.length = M.length) (hi : ¬ i < L.length) (h : ((L.take i).zip (M.take i)).all (fun p => f p.1 p.2) = true) : all2 f L M = true := by
  unfold all2
  rw [List.take_of_length_le (by omega), List.take_of_length_le (by omega)] at h
  rw [h, hl]; simp
theorem all2_ne {α : Type} {f : α → α → Bool} {L M : List α} (hl : ¬ L.length = M.length) : all2 f L M = false := by unfold all2; simp [hl]
theorem equalOps_calls (L M : List LOp) (A B : Option Addr) (c d : Nat) (w : World) (hL : OAt w A L) (hM : OAt w B M) (hl : L.length ≤ 1000000) (hm : M.length ≤ 1000000) :
    Calls Try.prog 56 #[.slice A L.length c, .slice B M.length d] w fun e w' => e = .returned (.bool (all2 eqO L M)) ∧ Below w.heap.size w w' := by
  have hu := Try.underlying44
  by_cases hne : L.length = M.length
  · have hnb : ((L.length : Int) != (M.length : Int)) = false := by simp [hne]
    have HNE := Aside0.mk hne
    have HL := Aside0.mk hL
    have HM := Aside0.mk hM
    clear hL hM hne
    go_enter Try.func56, Try.ntmps56
    go_wp2
    go_loopg [13] L.length (fun gg v13 wr => ∃ i : Nat, i ≤ L.length ∧ L.length - i ≤ gg ∧ v13 = .int .i64 i ∧ Aside0 (((L.take i).zip (M.take i)).all (fun p => eqO p.1 p.2) = true) ∧ Aside0 (Below w.heap.size w wr))
    case atStart => exact ⟨0, by omega, by omega, rfl, ⟨rfl⟩, ⟨Below.refl _ _⟩⟩
    case round =>
      obtain ⟨i, hi, hgg, rfl, HI, HB⟩ := hrel
      by_cases hlt : i < L.length
      · have hii : (i : Int) < (L.length : Int) := by omega
        have hlm : i < M.length := by have := HNE.out; omega
        have hij : (i : Int) < (M.length : Int) := by omega
        obtain ⟨ad, rfl, c0, c1, c2, c3, c4⟩ := HL.out.below HB.out i hlt
        obtain ⟨ae, rfl, d0, d1, d2, d3, d4⟩ := HM.out.below HB.out i hlm
        rw [add_field ad (i * 5) 1 (by decide)] at c1
        rw [add_field ad (i * 5) 2 (by decide)] at c2
        rw [add_field ad (i * 5) 3 (by decide)] at c3
        rw [add_field ad (i * 5) 4 (by decide)] at c4
        rw [add_field ae (i * 5) 1 (by decide)] at d1
        rw [add_field ae (i * 5) 2 (by decide)] at d2
        rw [add_field ae (i * 5) 3 (by decide)] at d3
        rw [add_field ae (i * 5) 4 (by decide)] at d4
        have HN := Aside0.mk (all2_next (f := eqO) hlt hlm)
        have HBD := Aside0.mk (all2_bad (f := eqO) hlt hlm)
        generalize L[i] = x at *
        generalize M[i] = y at *
        obtain ⟨k, l, v, u, o⟩ := x
        obtain ⟨k', l', v', u', o'⟩ := y
        simp only at c0 c1 c2 c3 c4 d0 d1 d2 d3 d4
        have HE : eqO ⟨k, l, v, u, o⟩ ⟨k', l', v', u', o'⟩ = !(!(k == k') || (!(l == l') || (!(v == v') || (!(u == u') || !(o == o'))))) := by
          unfold eqO; simp only [Bool.not_or, Bool.not_not]; rfl
        obtain ⟨q, hq⟩ : ∃ q, q = (!(k == k') || (!(l == l') || (!(v == v') || (!(u == u') || !(o == o'))))) := ⟨_, rfl⟩
        rw [← hq] at HE
        replace HE := Aside0.mk HE
        cases q with
        | true =>
          replace hq := hq.symm
          go_wp2
          repeat (go_quiet (fail); try go_wp2)
          go_ret
          exact ⟨by rw [HBD.out (by rw [HE.out]; rfl)]; rfl, bdrew HB.out _⟩
        | false =>
          replace hq := hq.symm
          go_wp2
          repeat (go_quiet (fail); try go_wp2)
          go_roundg (L.length - (i + 1))
          case measure => omega
          case rel => exact ⟨i + 1, by omega, by omega, by go_num, ⟨by rw [HN.out, HI.out, HE.out]; rfl⟩, ⟨bdrew HB.out _⟩⟩
      · have hii : ¬ (i : Int) < (L.length : Int) := by omega
        go_wp2
        go_ret
        exact ⟨by rw [all2_end HNE.out hlt HI.out]; rfl, HB.out⟩
  · have hnb : ((L.length : Int) != (M.length : Int)) = true := by simp; omega
    have HE := Aside0.mk (all2_ne (f := eqO) hne)
    clear hne
    go_enter Try.func56, Try.ntmps56
    go_wp2
    go_ret
    exact ⟨by rw [HE.out]; rfl, Below.refl _ _⟩
theorem eqGe_calls (L M : List LOp) (A B : Option Addr) (c d : Nat) (w : World) (hL : OAt w A L) (hM : OAt w B M) (hl : L.length ≤ 1000000) (hm : M.length ≤ 1000000) :
    Calls Try.prog 52 #[.slice A L.length c, .slice B M.length d, .func (.func 53) #[] #[]] w fun e w' => e = .returned (.bool (all2 geO L M)) ∧ Below w.heap.size w w' := by
  have eg : ∀ args w, (callFunc 53 args).run Try.prog w = .ok (.enter 53 args) w := enters_of Try.func53 (by kernel_rfl) rfl
  by_cases hne : L.length = M.length
  · have hnb : ((L.length : Int) != (M.length : Int)) = false := by simp [hne]
    have HNE := Aside0.mk hne
    have HL := Aside0.mk hL
    have HM := Aside0.mk hM
    clear hL hM hne
    go_enter Try.func52, Try.ntmps52
    go_wp2
    go_loopg [17] L.length (fun gg v17 wr => ∃ i : Nat, i ≤ L.length ∧ L.length - i ≤ gg ∧ v17 = .int .i64 i ∧ Aside0 (((L.take i).zip (M.take i)).all (fun p => geO p.1 p.2) = true) ∧ Aside0 (Below w.heap.size w wr))
    case atStart => exact ⟨0, by omega, by omega, rfl, ⟨rfl⟩, ⟨Below.refl _ _⟩⟩
    case round =>
      obtain ⟨i, hi, hgg, rfl, HI, HB⟩ := hrel
      by_cases hlt : i < L.length
      · have hii : (i : Int) < (L.length : Int) := by omega
        have hlm : i < M.length := by have := HNE.out; omega
        have hij : (i : Int) < (M.length : Int) := by omega
        obtain ⟨ad, rfl, c0, c1, c2, c3, c4⟩ := HL.out.below HB.out i hlt
        have HMM := HM.out.below HB.out
        have HN := Aside0.mk (all2_next (f := geO) hlt hlm)
        have HBD := Aside0.mk (all2_bad (f := geO) hlt hlm)
        have b1 := al1 wr (.cells #[.int .i64 (L[i]).k, .int .i64 (L[i]).l, .int .i64 (L[i]).v, .int .i64 (L[i]).w, .int .i64 (L[i]).o] 44 (0, 0))
        obtain ⟨ae, rfl, d0, d1, d2, d3, d4⟩ := HMM.below b1 i hlm
        rw [add_field ad (i * 5) 1 (by decide)] at c1
        rw [add_field ad (i * 5) 2 (by decide)] at c2
        rw [add_field ad (i * 5) 3 (by decide)] at c3
        rw [add_field ad (i * 5) 4 (by decide)] at c4
        rw [add_field ae (i * 5) 1 (by decide)] at d1
        rw [add_field ae (i * 5) 2 (by decide)] at d2
        rw [add_field ae (i * 5) 3 (by decide)] at d3
        rw [add_field ae (i * 5) 4 (by decide)] at d4
        have HG := Aside0.mk (fun w => opGe_calls L[i] M[i] w)
        clear HMM
        generalize L[i] = x at *
        generalize M[i] = y at *
        obtain ⟨k, l, v, u, o⟩ := x
        obtain ⟨k', l', v', u', o'⟩ := y
        simp only at c0 c1 c2 c3 c4 d0 d1 d2 d3 d4 b1
        have h0 := heap_alloc_new wr (.cells #[.int .i64 k, .int .i64 l, .int .i64 v, .int .i64 u, .int .i64 o] 44 (0, 0))
        have a0 := (Go.Lib.cell_of_heap h0 0).trans rfl
        have a1 := (Go.Lib.cell_of_heap h0 1).trans rfl
        have a2 := (Go.Lib.cell_of_heap h0 2).trans rfl
        have a3 := (Go.Lib.cell_of_heap h0 3).trans rfl
        have a4 := (Go.Lib.cell_of_heap h0 4).trans rfl
        have h1 := heap_alloc_new (wr.alloc (.cells #[.int .i64 k, .int .i64 l, .int .i64 v, .int .i64 u, .int .i64 o] 44 (0, 0))) (.cells #[.int .i64 k', .int .i64 l', .int .i64 v', .int .i64 u', .int .i64 o'] 44 (0, 0))
        have b2 := below2 wr (.cells #[.int .i64 k, .int .i64 l, .int .i64 v, .int .i64 u, .int .i64 o] 44 (0, 0)) (.cells #[.int .i64 k', .int .i64 l', .int .i64 v', .int .i64 u', .int .i64 o'] 44 (0, 0))
        have HB2 := Aside0.mk (btrans HB.out b2)
        generalize geO ⟨k, l, v, u, o⟩ ⟨k', l', v', u', o'⟩ = q at *
        cases q with
        | false =>
          go_wp2_with (first | (go_at_fn 53; refine (HG.out _).mono ?_; rintro e w2 ⟨rfl, hb⟩; have HB3 := Aside0.mk (btrans HB2.out hb); clear hb))
          go_ret
          exact ⟨by rw [HBD.out trivial]; rfl, HB3.out⟩
        | true =>
          go_wp2_with (first | (go_at_fn 53; refine (HG.out _).mono ?_; rintro e w2 ⟨rfl, hb⟩; have HB3 := Aside0.mk (btrans HB2.out hb); clear hb))
          go_roundg (L.length - (i + 1))
          case measure => omega
          case rel => exact ⟨i + 1, by omega, by omega, by go_num, ⟨by rw [HN.out, HI.out]; rfl⟩, HB3⟩
      · have hii : ¬ (i : Int) < (L.length : Int) := by omega
        go_wp2
        go_ret
        exact ⟨by rw [all2_end HNE.out hlt HI.out]; rfl, HB.out⟩
  · have hnb : ((L.length : Int) != (M.length : Int)) = true := by simp; omega
    have HE := Aside0.mk (all2_ne (f := geO) hne)
    clear hne
    go_enter Try.func52, Try.ntmps52
    go_wp2
    go_ret
    exact ⟨by rw [HE.out]; rfl, Below.refl _ _⟩
theorem atLeast1_calls (L M : List LOp) (A B : Option Addr) (c d : Nat) (w : World) (hL : OAt w A L) (hM : OAt w B M) (hl : L.length ≤ 1000000) (hm : M.length ≤ 1000000) :
    Calls Try.prog 51 #[.slice A L.length c, .slice B M.length d] w fun e w' => e = .returned (.bool (all2 geO L M)) ∧ Below w.heap.size w w' := by
  have HC := Aside0.mk (eqGe_calls L M A B c d w hL hM hl hm)
  clear hL hM
  generalize all2 geO L M = q at *
  go_enter Try.func51, Try.ntmps51
  go_wp2_with (first | (go_at_call 52; refine HC.out.mono ?_; rintro e w2 ⟨rfl, hb⟩; have HB := Aside0.mk hb; clear hb))
  go_ret
  exact ⟨rfl, HB.out⟩
theorem eqRows_calls (f : LOp → LOp → Bool) (g : Nat) (eg : ∀ args w, (callFunc g args).run Try.prog w = .ok (.enter g args) w)
    (hg : ∀ (L M : List LOp) (A B : Option Addr) (c d : Nat) (w : World), OAt w A L → OAt w B M → L.length ≤ 1000000 → M.length ≤ 1000000 → Calls Try.prog g #[.slice A L.length c, .slice B M.length d] w fun e w' => e = .returned (.bool (all2 f L M)) ∧ Below w.heap.size w w')
    (P Q : List (List LOp)) (A B : Option Addr) (c d : Nat) (w : World) (hp : PAt w A P) (hq : PAt w B Q) (hl : P.length ≤ 1000000) (hm : Q.length ≤ 1000000) (hpl : ∀ r ∈ P, r.length ≤ 1000000) (hql : ∀ r ∈ Q, r.length ≤ 1000000) :
    Calls Try.prog 50 #[.slice A P.length c, .slice B Q.length d, .func (.func g) #[] #[]] w fun e w' => e = .returned (.bool (all2 (all2 f) P Q)) ∧ Below w.heap.size w w' := by
  by_cases hne : P.length = Q.length
  · have hnb : ((P.length : Int) != (Q.length : Int)) = false := by simp [hne]
    have HNE := Aside0.mk hne
    have HP := Aside0.mk hp
    have HQ := Aside0.mk hq
    have HPL := Aside0.mk hpl
    have HQL := Aside0.mk hql
    have HG := Aside0.mk hg
    clear hp hq hpl hql hg hne
    go_enter Try.func50, Try.ntmps50
    go_wp2
    go_loopg [17] P.length (fun gg v17 wr => ∃ i : Nat, i ≤ P.length ∧ P.length - i ≤ gg ∧ v17 = .int .i64 i ∧ Aside0 (((P.take i).zip (Q.take i)).all (fun p => all2 f p.1 p.2) = true) ∧ Aside0 (Below w.heap.size w wr))
    case atStart => exact ⟨0, by omega, by omega, rfl, ⟨rfl⟩, ⟨Below.refl _ _⟩⟩
    case round =>
      obtain ⟨i, hi, hgg, rfl, HI, HB⟩ := hrel
      by_cases hlt : i < P.length
      · have hii : (i : Int) < (P.length : Int) := by omega
        have hlm : i < Q.length := by have := HNE.out; omega
        have hij : (i : Int) < (Q.length : Int) := by omega
        obtain ⟨ad, A1, c1, rfl, e0, _, hLL⟩ := HP.out.below HB.out i hlt
        obtain ⟨ae, B1, d1, rfl, f0, _, hMM⟩ := HQ.out.below HB.out i hlm
        have HN := Aside0.mk (all2_next (f := all2 f) hlt hlm)
        have HBD := Aside0.mk (all2_bad (f := all2 f) hlt hlm)
        have HC := Aside0.mk (HG.out P[i] Q[i] A1 B1 c1 d1 wr hLL hMM (HPL.out _ (List.getElem_mem hlt)) (HQL.out _ (List.getElem_mem hlm)))
        clear hLL hMM
        generalize all2 f P[i] Q[i] = q at *
        generalize (P[i]).length = n1 at *
        generalize (Q[i]).length = n2 at *
        cases q with
        | false =>
          go_wp2_with (first | (go_at_fn g; refine HC.out.mono ?_; rintro e w2 ⟨rfl, hb⟩; have HB3 := Aside0.mk (btrans HB.out hb); clear hb))
          go_ret
          exact ⟨by rw [HBD.out trivial]; rfl, HB3.out⟩
        | true =>
          go_wp2_with (first | (go_at_fn g; refine HC.out.mono ?_; rintro e w2 ⟨rfl, hb⟩; have HB3 := Aside0.mk (btrans HB.out hb); clear hb))
          go_roundg (P.length - (i + 1))
          case measure => omega
          case rel => exact ⟨i + 1, by omega, by omega, by go_num, ⟨by rw [HN.out, HI.out]; rfl⟩, HB3⟩
      · have hii : ¬ (i : Int) < (P.length : Int) := by omega
        go_wp2
        go_ret
        exact ⟨by rw [all2_end HNE.out hlt HI.out]; rfl, HB.out⟩
  · have hnb : ((P.length : Int) != (Q.length : Int)) = true := by simp; omega
    have HE := Aside0.mk (all2_ne (f := all2 f) hne)
    clear hne hg
    go_enter Try.func50, Try.ntmps50
    go_wp2
    go_ret
    exact ⟨by rw [HE.out]; rfl, Below.refl _ _⟩
theorem same_calls (P Q : List (List LOp)) (A B : Option Addr) (c d : Nat) (w : World) (hp : PAt w A P) (hq : PAt w B Q) (hl : P.length ≤ 1000000) (hm : Q.length ≤ 1000000) (hpl : ∀ r ∈ P, r.length ≤ 1000000) (hql : ∀ r ∈ Q, r.length ≤ 1000000) :
    Calls Try.prog 23 #[.agg #[.slice A P.length c], .agg #[.slice B Q.length d]] w fun e w' => e = .returned (.bool (all2 (all2 eqO) P Q)) ∧ Below w.heap.size w w' := by
  have eg : ∀ args w, (callFunc 56 args).run Try.prog w = .ok (.enter 56 args) w := enters_of Try.func56 (by kernel_rfl) rfl
  have b2 := below2 w (.cells #[.slice A P.length c] 24 (0, 0)) (.cells #[.slice B Q.length d] 24 (0, 0))
  have HC := Aside0.mk (eqRows_calls eqO 56 eg equalOps_calls P Q A B c d _ (hp.below b2) (hq.below b2) hl hm hpl hql)
  have k0 : (w.alloc (.cells #[.slice A P.length c] 24 (0, 0))).cell? ⟨w.heap.size, 0, none⟩ = some (.slice A P.length c) := (Go.Lib.cell_of_heap (heap_alloc_new w (.cells #[.slice A P.length c] 24 (0, 0))) 0).trans rfl
  have HB2 := Aside0.mk b2
  clear hp hq hpl hql b2 eg
  generalize all2 (all2 eqO) P Q = q at *
  go_enter Try.func23, Try.ntmps23
  go_wp2_with (first | (go_at_call 50; refine HC.out.mono ?_; rintro e w2 ⟨rfl, hb⟩; have HB := Aside0.mk (btrans HB2.out hb); clear hb))
  go_ret
  exact ⟨rfl, HB.out⟩
def atL (P Q : List (List LOp)) : Bool × Int := if checkL P = 0 then (if checkL Q = 0 then (all2 (all2 geO) P Q, 0) else (false, checkL Q)) else (false, checkL P)
theorem atLeast_calls (P Q : List (List LOp)) (A B : Option Addr) (c d : Nat) (w : World) (hp : PAt w A P) (hq : PAt w B Q) (hl : P.length ≤ 1000000) (hm : Q.length ≤ 1000000) (hpl : P.flatten.length ≤ 1000000) (hql : Q.flatten.length ≤ 1000000) :
    Calls Try.prog 21 #[.agg #[.slice A P.length c], .agg #[.slice B Q.length d]] w fun e w' => e = .returned (.tuple #[.bool (atL P Q).1, .int .i64 (atL P Q).2]) ∧ Below w.heap.size w w' := by
  have eg : ∀ args w, (callFunc 51 args).run Try.prog w = .ok (.enter 51 args) w := enters_of Try.func51 (by kernel_rfl) rfl
  have rl : ∀ (P : List (List LOp)), P.flatten.length ≤ 1000000 → ∀ r ∈ P, r.length ≤ 1000000 := fun P h r hr => by
    have := List.Sublist.length_le (List.sublist_flatten_of_mem hr)
    omega
  have b2 := below2 w (.cells #[.slice A P.length c] 24 (0, 0)) (.cells #[.slice B Q.length d] 24 (0, 0))
  have h1 := heap_alloc_new (w.alloc (.cells #[.slice A P.length c] 24 (0, 0))) (.cells #[.slice B Q.length d] 24 (0, 0))
  have h0 := (((Below.refl _ (w.alloc (.cells #[.slice A P.length c] 24 (0, 0)))).alloc (Nat.le_refl _) (.cells #[.slice B Q.length d] 24 (0, 0))).block _ (blk_lt (heap_alloc_new w (.cells #[.slice A P.length c] 24 (0, 0))))).trans (heap_alloc_new w (.cells #[.slice A P.length c] 24 (0, 0)))
  have k0 := (Go.Lib.cell_of_heap h0 0).trans rfl
  have k1 := (Go.Lib.cell_of_heap h1 0).trans rfl
  have h2 := heap_alloc_new ((w.alloc (.cells #[.slice A P.length c] 24 (0, 0))).alloc (.cells #[.slice B Q.length d] 24 (0, 0))) (.cells #[.slice A P.length c, .slice B Q.length d] 24 (0, 0))
  have h2s : ((w.alloc (.cells #[.slice A P.length c] 24 (0, 0))).alloc (.cells #[.slice B Q.length d] 24 (0, 0))).heap.size = w.heap.size + 1 + 1 := by show ((w.heap.push _).push _).size = _; rw [Array.size_push, Array.size_push]
  have bb := al1 ((w.alloc (.cells #[.slice A P.length c] 24 (0, 0))).alloc (.cells #[.slice B Q.length d] 24 (0, 0))) (.cells #[.slice A P.length c, .slice B Q.length d] 24 (0, 0))
  have H0 := Aside0.mk ((bb.block _ (blk_lt h0)).trans h0)
  have H1 := Aside0.mk ((bb.block _ (blk_lt h1)).trans h1)
  rw [h2s] at h2
  have h1s : (w.alloc (.cells #[.slice A P.length c] 24 (0, 0))).heap.size = w.heap.size + 1 := by show (w.heap.push _).size = _; rw [Array.size_push]
  rw [h1s] at H1
  have H2 := Aside0.mk h2
  have HB := Aside0.mk (btrans b2 bb)
  have HP := Aside0.mk hp
  have HQ := Aside0.mk hq
  have HCP := Aside0.mk (fun w' (h : PAt w' A P) => check_calls P A c w' h hpl hl)
  have HCQ := Aside0.mk (fun w' (h : PAt w' B Q) => check_calls Q B d w' h hql hm)
  have HEQ := Aside0.mk (fun w' (h : PAt w' A P) (h2 : PAt w' B Q) => eqRows_calls geO 51 eg atLeast1_calls P Q A B c d w' h h2 hl hm (rl P hpl) (rl Q hql))
  obtain ⟨r, hr⟩ : ∃ r, r = atL P Q := ⟨_, rfl⟩
  rw [← hr]
  unfold atL at hr
  generalize checkL P = eP at *
  generalize checkL Q = eQ at *
  generalize all2 (all2 geO) P Q = q at *
  have HR := Aside0.mk hr
  clear hp hq hpl hql b2 h0 h1 h2 h2s bb h1s hr eg rl
  go_enter Try.func21, Try.ntmps21
  go_wp2
  generalize ((w.alloc (.cells #[.slice A P.length c] 24 (0, 0))).alloc (.cells #[.slice B Q.length d] 24 (0, 0))).alloc (.cells #[.slice A P.length c, .slice B Q.length d] 24 (0, 0)) = W1 at *
  go_loopg [13] 2 (fun gg v13 wr => ∃ i : Nat, i ≤ 2 ∧ 2 - i ≤ gg ∧ v13 = .int .i64 i ∧ Aside0 (wr.heap[w.heap.size]? = some (.cells #[.slice A P.length c] 24 (0, 0))) ∧ Aside0 (wr.heap[w.heap.size + 1]? = some (.cells #[.slice B Q.length d] 24 (0, 0))) ∧ Aside0 (wr.heap[w.heap.size + 1 + 1]? = some (.cells #[.slice A P.length c, .slice B Q.length d] 24 (0, 0))) ∧ Aside0 (Below w.heap.size w wr) ∧ Aside0 ((1 ≤ i → eP = 0) ∧ (2 ≤ i → eQ = 0)))
  case atStart => exact ⟨0, by omega, by omega, rfl, H0, H1, H2, HB, ⟨⟨by omega, by omega⟩⟩⟩
  case round =>
    clear H0 H1 H2 HB
    obtain ⟨i, hi, hgg, rfl, H0, H1, H2, HB, HI⟩ := hrel
    have k0 := (Go.Lib.cell_of_heap H0.out 0).trans rfl
    have k1 := (Go.Lib.cell_of_heap H1.out 0).trans rfl
    have m0 := (Go.Lib.cell_of_heap H2.out 0).trans rfl
    have m1 := (Go.Lib.cell_of_heap H2.out 1).trans rfl
    simp only [List.getElem?_toArray, List.getElem?_cons_succ, List.getElem?_cons_zero] at k0 k1 m0 m1
    rcases (show i = 0 ∨ i = 1 ∨ i = 2 by omega) with rfl | rfl | rfl
    · have bx := al1 wr (.cells #[.slice A P.length c] 24 (0, 0))
      have HX := Aside0.mk (btrans HB.out bx)
      have HCK := Aside0.mk (HCP.out _ (HP.out.below HX.out))
      have G0 := Aside0.mk ((bx.block _ (blk_lt H0.out)).trans H0.out)
      have G1 := Aside0.mk ((bx.block _ (blk_lt H1.out)).trans H1.out)
      have G2 := Aside0.mk ((bx.block _ (blk_lt H2.out)).trans H2.out)
      have kn : (wr.alloc (.cells #[.slice A P.length c] 24 (0, 0))).cell? ⟨wr.heap.size, 0, none⟩ = some (.slice A P.length c) := (Go.Lib.cell_of_heap (heap_alloc_new wr _) 0).trans rfl
      clear bx
      by_cases hz : eP = 0
      · have hzb : (eP == 0) = true := by simp [hz]
        have hzc : (eP != 0) = false := by simp [hz]
        have HZ := Aside0.mk hz
        clear hz
        go_wp2_with (first | (go_at_call 14; refine HCK.out.mono ?_; rintro e w2 ⟨rfl, hb⟩; have HB3 := Aside0.mk (btrans HX.out hb); have G0 := Aside0.mk ((hb.block _ (blk_lt G0.out)).trans G0.out); have G1 := Aside0.mk ((hb.block _ (blk_lt G1.out)).trans G1.out); have G2 := Aside0.mk ((hb.block _ (blk_lt G2.out)).trans G2.out); clear hb))
        go_roundg 1
        case measure => omega
        case rel => exact ⟨1, by omega, by omega, by go_num, G0, G1, G2, HB3, ⟨⟨fun _ => HZ.out, by omega⟩⟩⟩
      · have hzb : (eP == 0) = false := by simp [hz]
        have hzc : (eP != 0) = true := by simp [hz]
        have HZ := Aside0.mk hz
        clear hz
        go_wp2_with (first | (go_at_call 14; refine HCK.out.mono ?_; rintro e w2 ⟨rfl, hb⟩; have HB3 := Aside0.mk (btrans HX.out hb); clear hb))
        go_ret2
        exact ⟨by rw [HR.out, if_neg HZ.out]; rfl, HB3.out⟩
    · have bx := al1 wr (.cells #[.slice B Q.length d] 24 (0, 0))
      have HX := Aside0.mk (btrans HB.out bx)
      have HCK := Aside0.mk (HCQ.out _ (HQ.out.below HX.out))
      have G0 := Aside0.mk ((bx.block _ (blk_lt H0.out)).trans H0.out)
      have G1 := Aside0.mk ((bx.block _ (blk_lt H1.out)).trans H1.out)
      have G2 := Aside0.mk ((bx.block _ (blk_lt H2.out)).trans H2.out)
      have kn : (wr.alloc (.cells #[.slice B Q.length d] 24 (0, 0))).cell? ⟨wr.heap.size, 0, none⟩ = some (.slice B Q.length d) := (Go.Lib.cell_of_heap (heap_alloc_new wr _) 0).trans rfl
      have HZP := Aside0.mk (HI.out.1 (by omega))
      clear bx
      by_cases hz : eQ = 0
      · have hzb : (eQ == 0) = true := by simp [hz]
        have hzc : (eQ != 0) = false := by simp [hz]
        have HZ := Aside0.mk hz
        clear hz
        go_wp2_with (first | (go_at_call 14; refine HCK.out.mono ?_; rintro e w2 ⟨rfl, hb⟩; have HB3 := Aside0.mk (btrans HX.out hb); have G0 := Aside0.mk ((hb.block _ (blk_lt G0.out)).trans G0.out); have G1 := Aside0.mk ((hb.block _ (blk_lt G1.out)).trans G1.out); have G2 := Aside0.mk ((hb.block _ (blk_lt G2.out)).trans G2.out); clear hb))
        go_roundg 0
        case measure => omega
        case rel => exact ⟨2, by omega, by omega, by go_num, G0, G1, G2, HB3, ⟨⟨fun _ => HZP.out, fun _ => HZ.out⟩⟩⟩
      · have hzb : (eQ == 0) = false := by simp [hz]
        have hzc : (eQ != 0) = true := by simp [hz]
        have HZ := Aside0.mk hz
        clear hz
        go_wp2_with (first | (go_at_call 14; refine HCK.out.mono ?_; rintro e w2 ⟨rfl, hb⟩; have HB3 := Aside0.mk (btrans HX.out hb); clear hb))
        go_ret2
        exact ⟨by rw [HR.out, if_pos HZP.out, if_neg HZ.out]; rfl, HB3.out⟩
    · have HE := Aside0.mk (HEQ.out wr (HP.out.below HB.out) (HQ.out.below HB.out))
      have HZ := Aside0.mk (HI.out.1 (by omega))
      have HZ2 := Aside0.mk (HI.out.2 (by omega))
      go_wp2_with (first | (go_at_call 50; refine HE.out.mono ?_; rintro e w2 ⟨rfl, hb⟩; have HB3 := Aside0.mk (btrans HB.out hb); clear hb))
      go_ret2
      exact ⟨by rw [HR.out, if_pos HZ.out, if_pos HZ2.out]; rfl, HB3.out⟩
end Go.Proofs.Ytgfbgbclpeihdaa.Li
