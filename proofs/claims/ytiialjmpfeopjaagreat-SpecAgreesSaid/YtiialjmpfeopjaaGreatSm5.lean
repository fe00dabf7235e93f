/- The rules of the specification, walked: what a call may do, Valid, Start, Do, Run: plain lemmas; no condition. -/
import Derived.Test.YtiialjmpfeopjaaGreatSm4
import Derived.BigQuiet
import Derived.Deep.RegionHeld3
namespace Go.Proofs.YtiialjmpfeopjaaGreat.Sp
open Go.RowKit Go.Sort Go.Proofs.YtiialjmpfeopjaaGreatW.PrintWords Go.Proofs.YtiialjmpfeopjaaGreatW.PrintLast Go.Proofs.YtiialjmpfeopjaaGreatW.PrintMore
set_option linter.unusedVariables false
set_option linter.unusedSimpArgs false
set_option maxHeartbeats 8000000
set_option maxRecDepth 100000
def argB (lo hi : Int) (used : Bool) (x : Int) : Bool := if used then decide (lo ≤ x) && decide (x ≤ hi) else decide (x = 0)
def takesB (a : ActS) (x y : Int) : Bool := argB a.lo a.hi (decide (0 < a.args)) x && argB a.lo a.hi (decide (1 < a.args)) y
theorem takes1_calls (lo hi x : Int) (u : Bool) (b : Nat) (w : World) (h2 : w.cell? ⟨b, 2, none⟩ = some (.int .i64 lo)) (h3 : w.cell? ⟨b, 3, none⟩ = some (.int .i64 hi)) :
    Calls Tryz.prog 120 #[.int .i64 x, .bool u, .pointer (some ⟨b, 0, none⟩)] w fun e w' => e = .returned (.bool (argB lo hi u x)) ∧ w' = w := by
  cases u with
  | true =>
    go_enter Tryz.func120, Tryz.ntmps120
    go_wp2
    all_goals go_ret
    all_goals (by_cases q1 : lo ≤ x <;> by_cases q2 : x ≤ hi <;> simp_all [argB] <;> omega)
  | false =>
    go_enter Tryz.func120, Tryz.ntmps120
    go_wp2
    all_goals go_ret
    all_goals (by_cases q : x = 0 <;> simp_all [argB])
theorem takes_calls (a : ActS) (V : Value) (op : ByteArray) (x y : Int) (w : World) :
    Calls Tryz.prog 73 #[.agg (acells a V).toArray, .agg #[.string op, .int .i64 x, .int .i64 y]] w fun e w' => e = .returned (.bool (takesB a x y)) ∧ Below w.heap.size w w' := by
  obtain ⟨nm, args, lo, hi, thr, rd, pre, D⟩ := a
  have BB := Aside0.mk (fun o o' => al2 w o o')
  have eg : ∀ args w, (callFunc 120 args).run Tryz.prog w = .ok (.enter 120 args) w := enters_of Tryz.func120 (by kernel_rfl) rfl
  have h2 := fun o => Go.Lib.cell_of_heap (blk_alloc (heap_alloc_new w (.cells #[.string nm, .int .i64 args, .int .i64 lo, .int .i64 hi, .int .i64 thr, .bool rd, V] 87 (0, 0))) o) 2
  have h3 := fun o => Go.Lib.cell_of_heap (blk_alloc (heap_alloc_new w (.cells #[.string nm, .int .i64 args, .int .i64 lo, .int .i64 hi, .int .i64 thr, .bool rd, V] 87 (0, 0))) o) 3
  unfold takesB acells
  go_enter Tryz.func73, Tryz.ntmps73
  have tok1 : True := trivial
  go_wp2_with (first
    | (go_at_fn 120; have _t := tok1; refine (takes1_calls lo hi _ _ _ _ (h2 _) (h3 _)).mono ?_; rintro e w1 ⟨rfl, hw⟩; rw [hw]; clear hw tok1; have tok2 : True := trivial)
    | (go_at_fn 120; have _t := tok2; refine (takes1_calls lo hi _ _ _ _ (h2 _) (h3 _)).mono ?_; rintro e w1 ⟨rfl, hw⟩; rw [hw]; clear hw tok2))
  all_goals go_ret
  all_goals (refine ⟨?_, BB.out _ _⟩; simp_all)
end Go.Proofs.YtiialjmpfeopjaaGreat.Sp

namespace Go.Proofs.YtiialjmpfeopjaaGreat.Sp
open Go.RowKit Go.Sort Go.Proofs.YtiialjmpfeopjaaGreatW.PrintWords Go.Proofs.YtiialjmpfeopjaaGreatW.PrintLast Go.Proofs.YtiialjmpfeopjaaGreatW.PrintMore
set_option linter.unusedVariables false
set_option linter.unusedSimpArgs false
set_option maxHeartbeats 8000000
set_option maxRecDepth 100000
def doesB (op : ByteArray) (x y t : Int) (a : ActS) : Bool := decide (a.name.toList = op.toList) && takesB a x y && decide (0 ≤ t) && decide (t < a.thr)
def actS (l : List ActS) (op : ByteArray) (x y t : Int) : Option ActS := l.find? (doesB op x y t)
theorem ActsV.cellAt {w : World} {A : Option Addr} {n c : Nat} {l : List ActS} (h : ActsV w (.slice A n c) l) (j : Nat) (hj : j < l.length) :
    ∃ g V, A = some ⟨g, 0, none⟩ ∧ g < w.heap.size ∧ DoV w V (l[j]).pre (l[j]).D ∧ ∀ i u, (acells (l[j]) V)[i]? = some u → w.cell? ⟨g, j * 7 + i, none⟩ = some u := by
  obtain ⟨base, Vs, hl, hr, hd⟩ := h
  have hlen : (List.zipWith acells l Vs).length = l.length := by rw [List.length_zipWith]; omega
  obtain ⟨g, cap, he, hb, hlt, _⟩ := Kd.R_form hr (by omega)
  injection he with e1 e2 e3
  subst e1
  have hn : n = l.length := by rw [e2, hlen]
  obtain ⟨cs, hcl, hM, hcc, _⟩ := Kd.R_elem hr ([] : List Value) (j : Int) (by omega) (by omega)
  have hV : j < Vs.length := by omega
  refine ⟨g, Vs[j], rfl, hlt, hd j _ _ (List.getElem?_eq_getElem hj) (List.getElem?_eq_getElem hV), fun i u hu => ?_⟩
  have hx : (List.zipWith acells l Vs).getD (j : Int).toNat [] = acells (l[j]) (Vs[j]) := by
    rw [Int.toNat_natCast, List.getD_eq_getElem?_getD, List.getElem?_eq_getElem (by omega)]
    simp
  rw [hx] at hM
  have := hcc i u (by rw [hM.1]; exact hu)
  rw [Int.toNat_natCast] at this
  exact this
theorem act_hit {p : ActS → Bool} {l : List ActS} {k : Nat} {a : ActS} (hk : k < l.length) (h0 : (l.take k).find? p = none) (ha : a = l[k]) (h : p a = true) : l.find? p = some a := by
  rw [← List.take_append_drop k l, List.find?_append, h0, Option.none_or, List.drop_eq_getElem_cons hk, List.find?_cons, ← ha, h]
theorem act_pass {p : ActS → Bool} {l : List ActS} {k : Nat} {a : ActS} (hk : k < l.length) (h0 : (l.take k).find? p = none) (ha : a = l[k]) (h : p a = false) : (l.take (k + 1)).find? p = none := by
  rw [List.take_succ_eq_append_getElem hk, List.find?_append, h0, Option.none_or, List.find?_cons, ← ha, h]
  rfl
theorem act_calls (va V vs : Value) (l : List ActS) (op : ByteArray) (x y t : Int) (w : World) (hA : ActsV w va l) (hl : l.length ≤ 100) (oV : V.oneCell' = true) (oS : vs.oneCell' = true) :
    Calls Tryz.prog 37 #[.agg #[va, V, vs], .agg #[.string op, .int .i64 x, .int .i64 y], .int .i64 t] w fun e w' =>
      (∃ v a, actS l op x y t = some a ∧ e = .returned (.tuple #[v, .bool true]) ∧ ActV w' v a ∧ Below w.heap.size w w') ∨
      (actS l op x y t = none ∧ e = .returned (.tuple #[.agg zeroAct, .bool false]) ∧ Below w.heap.size w w') := by
  obtain ⟨A, c, rfl⟩ := hA.slice
  let W3 := ((w.alloc (.cells #[.slice A l.length c, V, vs] 67 (0, 0))).alloc (.cells #[.string op, .int .i64 x, .int .i64 y] 24 (0, 0))).alloc (.cells zeroAct 87 (0, 0))
  have b3 : Below w.heap.size w W3 := below3 w _ _ _
  have z3 : W3.heap.size = w.heap.size + 3 := by simp [W3]
  have HA := Aside0.mk (hA.below b3)
  have HL := Aside0.mk hl
  have HB0 : Aside0 (Below W3.heap.size W3 W3) := ⟨Below.refl _ _⟩
  have n1 : W3.heap[w.heap.size + 1]? = some (.cells #[.string op, .int .i64 x, .int .i64 y] 24 (0, 0)) := blk_alloc (by have := heap_alloc_new (w.alloc (.cells #[.slice A l.length c, V, vs] 67 (0, 0))) (.cells #[.string op, .int .i64 x, .int .i64 y] 24 (0, 0)); rwa [alloc_size] at this) _
  have n2 : W3.heap[w.heap.size + 2]? = some (.cells zeroAct 87 (0, 0)) := by have := heap_alloc_new ((w.alloc (.cells #[.slice A l.length c, V, vs] 67 (0, 0))).alloc (.cells #[.string op, .int .i64 x, .int .i64 y] 24 (0, 0))) (.cells zeroAct 87 (0, 0)); rwa [alloc_size, alloc_size] at this
  have N1 := Aside0.mk n1
  have N2 := Aside0.mk n2
  have B3 := Aside0.mk b3
  have Z3 := Aside0.mk z3
  clear hA b3 z3 n1 n2 hl
  go_enter Tryz.func37, Tryz.ntmps37
  go_wp2
  go_loopg [13] l.length (fun gg v13 wr => ∃ kk : Nat, kk ≤ l.length ∧ l.length - kk ≤ gg ∧ v13 = .int .i64 kk ∧ Aside0 (Below W3.heap.size W3 wr) ∧ Aside0 ((l.take kk).find? (doesB op x y t) = none))
  case atStart => exact ⟨0, Nat.zero_le _, by omega, rfl, HB0, ⟨by simp⟩⟩
  case round =>
    clear HB0
    obtain ⟨kk, hkk, hg, rfl, HB, HF⟩ := hrel
    have hkl : kk ≤ 100 := by have := HL.out; omega
    have N1' := Aside0.mk ((HB.out.block _ (blk_lt N1.out)).trans N1.out)
    have N2' := Aside0.mk ((HB.out.block _ (blk_lt N2.out)).trans N2.out)
    by_cases hlt : kk < l.length
    · obtain ⟨g, V1, rfl, hgl, hd, hc⟩ := (HA.out.below HB.out).cellAt kk hlt
      obtain ⟨⟨nm, args, lo, hi, thr, rd, pre, D⟩, ha⟩ : ∃ a, a = l[kk] := ⟨_, rfl⟩
      rw [← ha] at hc hd
      have HD0 := Aside0.mk hd
      have HAK := Aside0.mk ha
      obtain ⟨g1, cap1, rfl, _⟩ := hd
      have c0 : wr.cell? ⟨g, kk * 7, none⟩ = some (.string nm) := hc 0 _ rfl
      have c1 : wr.cell? ⟨g, kk * 7 + 1, none⟩ = some (.int .i64 args) := hc 1 _ rfl
      have c2 : wr.cell? ⟨g, kk * 7 + 2, none⟩ = some (.int .i64 lo) := hc 2 _ rfl
      have c3 : wr.cell? ⟨g, kk * 7 + 3, none⟩ = some (.int .i64 hi) := hc 3 _ rfl
      have c4 : wr.cell? ⟨g, kk * 7 + 4, none⟩ = some (.int .i64 thr) := hc 4 _ rfl
      have c5 : wr.cell? ⟨g, kk * 7 + 5, none⟩ = some (.bool rd) := hc 5 _ rfl
      have c6 : wr.cell? ⟨g, kk * 7 + 6, none⟩ = some (.func (.func g1) #[] cap1) := hc 6 _ rfl
      clear hc ha
      have hq0 := Go.Lib.cell_of_heap N1'.out 0
      have hq1 := Go.Lib.cell_of_heap N1'.out 1
      have hq2 := Go.Lib.cell_of_heap N1'.out 2
      have hlt1 : w.heap.size + 1 < wr.heap.size := blk_lt N1'.out
      have n9 := heap_alloc_new wr (.cells #[.string nm, .int .i64 args, .int .i64 lo, .int .i64 hi, .int .i64 thr, .bool rd, .func (.func g1) #[] cap1] 87 (0, 0))
      have N9 := Aside0.mk n9
      clear n9
      go_wp2_with (go_at_call 73; refine (takes_calls ⟨nm, args, lo, hi, thr, rd, pre, D⟩ _ op x y _).mono ?_; rintro e w1 ⟨rfl, hb⟩; have n9' := (hb.block _ (blk_lt N9.out)).trans N9.out; have hc9 := fun j : Nat => Go.Lib.cell_of_heap n9' j; have hq := Aside0.mk hb; have n2' := (hb.block _ (blk_lt (blk_alloc N2'.out _))).trans (blk_alloc N2'.out _); have hfz : ∀ j : Nat, w1.frozen? ⟨w.heap.size + 1 + 1, j, none⟩ = false := (fun j => (row_old n2' j).1); have hcz : ∀ j : Nat, w1.cell? ⟨w.heap.size + 1 + 1, j, none⟩ = zeroAct[j]? := (fun j => (row_old n2' j).2); unfold zeroAct at hcz; have N22 := Aside0.mk n2'; clear hb n9' n2')
      · rename_i q1 q2 q3 q4
        have hp : doesB op x y t ⟨nm, args, lo, hi, thr, rd, pre, D⟩ = true := by simp [doesB, q1, q2, q3, q4]
        refine bodyPost_ret (v := .tuple #[.agg #[.string nm, .int .i64 args, .int .i64 lo, .int .i64 hi, .int .i64 thr, .bool rd, .func (.func g1) #[] cap1], .bool true]) (by simp [results, Tryz.results37, go_sem, hcz]) rfl (Or.inl ⟨_, ⟨nm, args, lo, hi, thr, rd, pre, D⟩, act_hit hlt HF.out HAK.out hp, rfl, ⟨_, rfl, ?_⟩, ?_⟩)
        · exact (HD0.out.mono (Stays.of (btrans (al1 wr _) hq.out)) (btrans (al1 wr _) hq.out).size).mono (stays7 N22.out (.inl rfl)) (by rw [size7]; exact Nat.le_refl _)
        · exact below7 ((B3.out.trans (HB.out.mono (by rw [Z3.out]; omega))).trans ((btrans (al1 wr _) hq.out).mono (by omega))) (by omega)
      · rename_i q1 q2 q3 q4
        have hp : doesB op x y t ⟨nm, args, lo, hi, thr, rd, pre, D⟩ = false := by simp [doesB, q1, q2, q3, q4]
        go_roundg (l.length - (kk + 1))
        case measure => omega
        case rel => exact ⟨kk + 1, hlt, by omega, by go_num, ⟨HB.out.trans ((btrans (al1 wr _) hq.out).mono HB.out.size)⟩, ⟨act_pass hlt HF.out HAK.out hp⟩⟩
      · rename_i q1 q2 q3
        have hp : doesB op x y t ⟨nm, args, lo, hi, thr, rd, pre, D⟩ = false := by simp [doesB, q1, q2, q3]; omega
        go_roundg (l.length - (kk + 1))
        case measure => omega
        case rel => exact ⟨kk + 1, hlt, by omega, by go_num, ⟨HB.out.trans ((btrans (al1 wr _) hq.out).mono HB.out.size)⟩, ⟨act_pass hlt HF.out HAK.out hp⟩⟩
      · rename_i q1 q2
        have hp : doesB op x y t ⟨nm, args, lo, hi, thr, rd, pre, D⟩ = false := by simp [doesB, q1, q2]
        go_roundg (l.length - (kk + 1))
        case measure => omega
        case rel => exact ⟨kk + 1, hlt, by omega, by go_num, ⟨HB.out.trans ((btrans (al1 wr _) hq.out).mono HB.out.size)⟩, ⟨act_pass hlt HF.out HAK.out hp⟩⟩
      · rename_i q1
        have hp : doesB op x y t ⟨nm, args, lo, hi, thr, rd, pre, D⟩ = false := by simp [doesB, q1]
        go_roundg (l.length - (kk + 1))
        case measure => omega
        case rel => exact ⟨kk + 1, hlt, by omega, by go_num, ⟨HB.out.trans ((al1 wr _).mono HB.out.size)⟩, ⟨act_pass hlt HF.out HAK.out hp⟩⟩
    · obtain rfl : kk = l.length := by omega
      have hk : IntKind.i64.wrap (l.length : Int) = l.length := IntWalk.i64_in _ (by omega)
      have hfz : ∀ j : Nat, wr.frozen? ⟨w.heap.size + 1 + 1, j, none⟩ = false := (fun j => (row_old N2'.out j).1)
      have hcz : ∀ j : Nat, wr.cell? ⟨w.heap.size + 1 + 1, j, none⟩ = zeroAct[j]? := (fun j => (row_old N2'.out j).2)
      unfold zeroAct at hcz
      go_wp2
      rw [List.take_length] at HF
      refine bodyPost_ret (v := .tuple #[.agg zeroAct, .bool false]) (by simp [results, Tryz.results37, go_sem, hcz, zeroAct]) rfl (Or.inr ⟨HF.out, rfl, ?_⟩)
      exact below7 (B3.out.trans (HB.out.mono (by rw [Z3.out]; omega))) (by omega)
end Go.Proofs.YtiialjmpfeopjaaGreat.Sp

namespace Go.Proofs.YtiialjmpfeopjaaGreat.Sp
open Go.RowKit Go.Sort Go.Proofs.YtiialjmpfeopjaaGreatW.PrintWords Go.Proofs.YtiialjmpfeopjaaGreatW.PrintLast Go.Proofs.YtiialjmpfeopjaaGreatW.PrintMore
set_option linter.unusedVariables false
set_option linter.unusedSimpArgs false
set_option maxHeartbeats 8000000
set_option maxRecDepth 100000
def effS (r n : Int) (s : List Int) (op : ByteArray) (x y t : Int) : Option (List Eff) :=
  match ruleS r n with
  | none => none
  | some R => if R.good s = true then (actS R.acts op x y t).map fun a => a.D s x y t else none
/-- What the plain laws of the rules hand to the walk. -/
def Fit (r n : Int) (s : List Int) (op : ByteArray) (x y t : Int) : Prop := ∀ R a, ruleS r n = some R → R.good s = true → actS R.acts op x y t = some a → s.length ≤ 1000 ∧ a.pre s x y t
theorem ruleS_cases {r n : Int} {R : RuleS} (h : ruleS r n = some R) : (1 ≤ n ∧ n ≤ 8) ∧ ((r = 1 ∧ R = rule1) ∨ (r = 2 ∧ R = rule2) ∨ (r = 3 ∧ R = rule3 n) ∨ (r = 4 ∧ R = rule4) ∨ (r = 5 ∧ R = rule5) ∨ (r = 6 ∧ R = rule6) ∨ (r = 7 ∧ R = rule7) ∨ (r = 8 ∧ R = rule8) ∨ (r = 9 ∧ R = rule9) ∨ (r = 10 ∧ R = rule10) ∨ (r = 11 ∧ R = rule11) ∨ (r = 12 ∧ R = rule12) ∨ (r = 13 ∧ R = rule13) ∨ (r = 14 ∧ R = rule14) ∨ (r = 15 ∧ R = rule15) ∨ (r = 16 ∧ R = rule16)) := by
  unfold ruleS at h
  by_cases hn : n < 1 ∨ 8 < n
  · rw [if_pos hn] at h; exact absurd h (by simp)
  rw [if_neg hn] at h
  refine ⟨by omega, ?_⟩
  by_cases e1 : r = 1
  · subst e1; simp at h; exact .inl ⟨rfl, h.symm⟩
  rw [if_neg e1] at h
  by_cases e2 : r = 2
  · subst e2; simp at h; exact .inr (.inl ⟨rfl, h.symm⟩)
  rw [if_neg e2] at h
  by_cases e3 : r = 3
  · subst e3; simp at h; exact .inr (.inr (.inl ⟨rfl, h.symm⟩))
  rw [if_neg e3] at h
  by_cases e4 : r = 4
  · subst e4; simp at h; exact .inr (.inr (.inr (.inl ⟨rfl, h.symm⟩)))
  rw [if_neg e4] at h
  by_cases e5 : r = 5
  · subst e5; simp at h; exact .inr (.inr (.inr (.inr (.inl ⟨rfl, h.symm⟩))))
  rw [if_neg e5] at h
  by_cases e6 : r = 6
  · subst e6; simp at h; exact .inr (.inr (.inr (.inr (.inr (.inl ⟨rfl, h.symm⟩)))))
  rw [if_neg e6] at h
  by_cases e7 : r = 7
  · subst e7; simp at h; exact .inr (.inr (.inr (.inr (.inr (.inr (.inl ⟨rfl, h.symm⟩))))))
  rw [if_neg e7] at h
  by_cases e8 : r = 8
  · subst e8; simp at h; exact .inr (.inr (.inr (.inr (.inr (.inr (.inr (.inl ⟨rfl, h.symm⟩)))))))
  rw [if_neg e8] at h
  by_cases e9 : r = 9
  · subst e9; simp at h; exact .inr (.inr (.inr (.inr (.inr (.inr (.inr (.inr (.inl ⟨rfl, h.symm⟩))))))))
  rw [if_neg e9] at h
  by_cases e10 : r = 10
  · subst e10; simp at h; exact .inr (.inr (.inr (.inr (.inr (.inr (.inr (.inr (.inr (.inl ⟨rfl, h.symm⟩)))))))))
  rw [if_neg e10] at h
  by_cases e11 : r = 11
  · subst e11; simp at h; exact .inr (.inr (.inr (.inr (.inr (.inr (.inr (.inr (.inr (.inr (.inl ⟨rfl, h.symm⟩))))))))))
  rw [if_neg e11] at h
  by_cases e12 : r = 12
  · subst e12; simp at h; exact .inr (.inr (.inr (.inr (.inr (.inr (.inr (.inr (.inr (.inr (.inr (.inl ⟨rfl, h.symm⟩)))))))))))
  rw [if_neg e12] at h
  by_cases e13 : r = 13
  · subst e13; simp at h; exact .inr (.inr (.inr (.inr (.inr (.inr (.inr (.inr (.inr (.inr (.inr (.inr (.inl ⟨rfl, h.symm⟩))))))))))))
  rw [if_neg e13] at h
  by_cases e14 : r = 14
  · subst e14; simp at h; exact .inr (.inr (.inr (.inr (.inr (.inr (.inr (.inr (.inr (.inr (.inr (.inr (.inr (.inl ⟨rfl, h.symm⟩)))))))))))))
  rw [if_neg e14] at h
  by_cases e15 : r = 15
  · subst e15; simp at h; exact .inr (.inr (.inr (.inr (.inr (.inr (.inr (.inr (.inr (.inr (.inr (.inr (.inr (.inr (.inl ⟨rfl, h.symm⟩))))))))))))))
  rw [if_neg e15] at h
  by_cases e16 : r = 16
  · subst e16; simp at h; exact .inr (.inr (.inr (.inr (.inr (.inr (.inr (.inr (.inr (.inr (.inr (.inr (.inr (.inr (.inr (⟨rfl, h.symm⟩)))))))))))))))
  rw [if_neg e16] at h
  exact absurd h (by simp)
theorem acts_le {r n : Int} {R : RuleS} (h : ruleS r n = some R) : R.acts.length ≤ 100 := by
  obtain ⟨_, h⟩ := ruleS_cases h
  rcases h with ⟨_, rfl⟩ | ⟨_, rfl⟩ | ⟨_, rfl⟩ | ⟨_, rfl⟩ | ⟨_, rfl⟩ | ⟨_, rfl⟩ | ⟨_, rfl⟩ | ⟨_, rfl⟩ | ⟨_, rfl⟩ | ⟨_, rfl⟩ | ⟨_, rfl⟩ | ⟨_, rfl⟩ | ⟨_, rfl⟩ | ⟨_, rfl⟩ | ⟨_, rfl⟩ | ⟨_, rfl⟩ <;> simp [rule1, rule2, rule3, rule4, rule5, rule6, rule7, rule8, rule9, rule10, rule11, rule12, rule13, rule14, rule15, rule16, setActs, snapActs, uniActs, pairActs, twinActs]
theorem below_set3' {w X : World} {k : Nat} (hk : w.heap.size ≤ k) (hB : Below w.heap.size w X) (u0 u1 u2 : Value) (o : Obj) : Below w.heap.size w ((((X.setCell ⟨k, 0, none⟩ u0).setCell ⟨k, 1, none⟩ u1).setCell ⟨k, 2, none⟩ u2).alloc o) :=
  (below_set3 hk hB u0 u1 u2).alloc (below_set3 hk hB u0 u1 u2).size o
theorem eff_no (r n : Int) (A : Option Addr) (c : Nat) (s : List Int) (op : ByteArray) (x y t : Int) (w : World) (h : ruleS r n = none) :
    Calls Tryz.prog 27 #[.int .i64 r, .int .i64 n, .slice A s.length c, .agg #[.string op, .int .i64 x, .int .i64 y], .int .i64 t] w fun e w' => e = .returned (.tuple #[noRule, .slice none 0 0, .int .i64 1]) ∧ Below w.heap.size w w' := by
  have HB2 := Aside0.mk (fun o => al2 w o (.cells zeroRule 67 (0, 0)))
  have N2 := Aside0.mk (fun o => (by have := heap_alloc_new (w.alloc o) (.cells zeroRule 67 (0, 0)); rwa [alloc_size] at this : ((w.alloc o).alloc (.cells zeroRule 67 (0, 0))).heap[w.heap.size + 1]? = some (.cells zeroRule 67 (0, 0))))
  have HF := Aside0.mk (fun W => find_no h W)
  clear h
  go_enter Tryz.func27, Tryz.ntmps27
  go_wp2_with (go_at_call 36; refine (HF.out _).mono ?_; rintro e w1 ⟨rfl, hb⟩; have B1 := Aside0.mk (btrans (HB2.out _) hb); have N1 := Aside0.mk ((hb.block _ (blk_lt (N2.out _))).trans (N2.out _)); have hz : w.heap.size + 1 < w1.heap.size := blk_lt N1.out; have hfz := (fun j => (row_old N1.out j).1); have hcz := (fun j => (row_old N1.out j).2); unfold zeroRule at hcz; unfold noRule; clear hb)
  rw [past3 hz]
  have hcy := fun o j => (row_old (blk_alloc N1.out o) j).2
  unfold zeroRule at hcy
  refine bodyPost_ret (v := .tuple #[noRule, .slice none 0 0, .int .i64 1]) (by simp [results, Tryz.results27, go_sem, hcy, noRule]) rfl ⟨rfl, ?_⟩
  exact below_set3 (by omega) (B1.out.alloc B1.out.size _) _ _ _
theorem held_mk {X : World} {k8 k13 k15 : Nat} {op : ByteArray} {x y : Int} {va V vs Va : Value} {a : ActS} (h8 : X.heap[k8]? = some (.cells #[.string op, .int .i64 x, .int .i64 y] 24 (0, 0))) (h13 : X.heap[k13]? = some (.cells #[va, V, vs] 67 (0, 0))) (h15 : X.heap[k15]? = some (.cells (acells a Va).toArray 87 (0, 0))) :
    X.cell? ⟨k8, 0, none⟩ = some (.string op) ∧ X.cell? ⟨k8, 1, none⟩ = some (.int .i64 x) ∧ X.cell? ⟨k8, 2, none⟩ = some (.int .i64 y) ∧ X.cell? ⟨k13, 0, none⟩ = some va ∧ X.cell? ⟨k13, 1, none⟩ = some V ∧ X.cell? ⟨k13, 2, none⟩ = some vs ∧ X.cell? ⟨k15, 6, none⟩ = some Va :=
  ⟨Go.Lib.cell_of_heap h8 0, Go.Lib.cell_of_heap h8 1, Go.Lib.cell_of_heap h8 2, Go.Lib.cell_of_heap h13 0, Go.Lib.cell_of_heap h13 1, Go.Lib.cell_of_heap h13 2, Go.Lib.cell_of_heap h15 6⟩
theorem Effs.rule {w : World} {base : Nat} {v : Value} {l : List Eff} (h : Effs w base v l) {k : Nat} {c : Array Value} (hN : w.heap[k]? = some (.cells c 67 (0, 0))) (j : Nat) (u : Value) : Effs (w.setCell ⟨k, j, none⟩ u) base v l :=
  Kd.R_mono (Kd.R_far (p := ⟨k, j, none⟩) (Kd.R_types h hN (by intro q hq; simp [kE, Kd.pair, Kd.slice, Kd.int, Kd.scalar] at hq; rcases hq with rfl | rfl <;> decide)) (fun _ hk => hk.2) u) (fun _ _ => trivial)
-- printed by geneff
theorem eff_bad (r n : Int) (A : Option Addr) (c : Nat) (s : List Int) (op : ByteArray) (x y t : Int) (w : World) {R : RuleS} (h : ruleS r n = some R) (hr : Rd w A s) (hc : s.length ≤ c) (hl : s.length ≤ 17592186044416) (hg : R.good s = false) :
    Calls Tryz.prog 27 #[.int .i64 r, .int .i64 n, .slice A s.length c, .agg #[.string op, .int .i64 x, .int .i64 y], .int .i64 t] w fun e w' =>
      e = .returned (.tuple #[noRule, .slice none 0 0, .int .i64 1]) ∧ Below w.heap.size w w' := by
  have HG := Aside0.mk hg
  clear hg
  have HLA := Aside0.mk (acts_le h)
  have HF := Aside0.mk (fun W => find_some h W)
  let W2 := (w.alloc (.cells #[.string op, .int .i64 x, .int .i64 y] 24 (0, 0))).alloc (.cells zeroRule 67 (0, 0))
  have HB2 := Aside0.mk (show Below w.heap.size w W2 from al2 w _ _)
  have N8 := Aside0.mk (show W2.heap[w.heap.size]? = some (.cells #[.string op, .int .i64 x, .int .i64 y] 24 (0, 0)) from blk_alloc (heap_alloc_new _ _) _)
  have N10 := Aside0.mk (show W2.heap[w.heap.size + 1]? = some (.cells zeroRule 67 (0, 0)) from by have := heap_alloc_new (w.alloc (.cells #[.string op, .int .i64 x, .int .i64 y] 24 (0, 0))) (.cells zeroRule 67 (0, 0)); rwa [alloc_size] at this)
  have HR := Aside0.mk hr
  have HC := Aside0.mk hc
  have HL := Aside0.mk hl
  clear h hr hc hl
  go_enter Tryz.func27, Tryz.ntmps27
  go_wp2_with (first
    | (go_at_call 36; refine (HF.out W2).mono ?_; rintro e w1 ⟨v1, rfl, ⟨va, V, vs, rfl, hA, hP, hO⟩, hb⟩; have B1 := Aside0.mk (btrans HB2.out hb); have HA1 := Aside0.mk hA; have HP1 := Aside0.mk hP; have N8_1 := Aside0.mk ((hb.block _ (blk_lt N8.out)).trans N8.out); have N10_1 := Aside0.mk ((hb.block _ (blk_lt N10.out)).trans N10.out); have N13_1 := Aside0.mk (fun o => heap_alloc_new w1 o); obtain ⟨Aa, ca, rfl⟩ := hA.slice; obtain ⟨As, cs, rfl⟩ := hO.slice; obtain ⟨gp, capp, rfl, egp, hcp⟩ := hP; have HCP := Aside0.mk hcp; clear hA hb hO hcp)
    | (go_at_fn gp; refine (HCP.out _ A c s (Stays.of (al1 w1 _)) (HR.out.below (B1.out.alloc B1.out.size _)) HC.out HL.out).mono ?_; rintro e w5 ⟨rfl, hb⟩; rw [HG.out]; have Q5 := Aside0.mk (btrans (al1 w1 _) hb); have N8_5 := Aside0.mk ((hb.block _ (blk_lt (blk_alloc N8_1.out _))).trans (blk_alloc N8_1.out _)); have N10_5 := Aside0.mk ((hb.block _ (blk_lt (blk_alloc N10_1.out _))).trans (blk_alloc N10_1.out _)); have N13_5 := Aside0.mk ((hb.block _ (blk_lt (N13_1.out _))).trans (N13_1.out _)); have hc8 := (fun j : Nat => (row_old N8_5.out j).2); have hc13 := (fun j : Nat => (row_old N13_5.out j).2); have hc10 := (fun j : Nat => (row_old N10_5.out j).2); have hf10 := (fun j : Nat => (row_old N10_5.out j).1); unfold zeroRule at hc10; have hz10 : w.heap.size + 1 < w5.heap.size := blk_lt N10_5.out; have hz13 : w1.heap.size < w5.heap.size := blk_lt N13_5.out; clear hb))
  refine bodyPost_ret (v := .tuple #[noRule, .slice none 0 0, .int .i64 1]) (by simp [results, Tryz.results27, go_sem, hc10, noRule]) rfl ⟨rfl, ?_⟩
  exact below_set3 (by omega) (btrans B1.out Q5.out) _ _ _
theorem act_none (va V vs : Value) (l : List ActS) (op : ByteArray) (x y t : Int) (w : World) (hA : ActsV w va l) (hl : l.length ≤ 100) (oV : V.oneCell' = true) (oS : vs.oneCell' = true) (h : actS l op x y t = none) :
    Calls Tryz.prog 37 #[.agg #[va, V, vs], .agg #[.string op, .int .i64 x, .int .i64 y], .int .i64 t] w fun e w' => e = .returned (.tuple #[.agg zeroAct, .bool false]) ∧ Below w.heap.size w w' := by
  refine (act_calls va V vs l op x y t w hA hl oV oS).mono ?_
  rintro e w' (⟨v, a, ha, _⟩ | ⟨_, h1, h2⟩)
  · rw [h] at ha; exact absurd ha (by simp)
  · exact ⟨h1, h2⟩
theorem act_some (va V vs : Value) (l : List ActS) (op : ByteArray) (x y t : Int) (w : World) (hA : ActsV w va l) (hl : l.length ≤ 100) (oV : V.oneCell' = true) (oS : vs.oneCell' = true) {a : ActS} (h : actS l op x y t = some a) :
    Calls Tryz.prog 37 #[.agg #[va, V, vs], .agg #[.string op, .int .i64 x, .int .i64 y], .int .i64 t] w fun e w' => ∃ v, e = .returned (.tuple #[v, .bool true]) ∧ ActV w' v a ∧ Below w.heap.size w w' := by
  refine (act_calls va V vs l op x y t w hA hl oV oS).mono ?_
  rintro e w' (⟨v, a', ha, h1, h2, h3⟩ | ⟨ha, _⟩)
  · rw [h] at ha; injection ha with ha; subst ha; exact ⟨v, h1, h2, h3⟩
  · rw [h] at ha; exact absurd ha (by simp)
theorem eff_none (r n : Int) (A : Option Addr) (c : Nat) (s : List Int) (op : ByteArray) (x y t : Int) (w : World) {R : RuleS} (h : ruleS r n = some R) (hr : Rd w A s) (hc : s.length ≤ c) (hl : s.length ≤ 17592186044416) (hg : R.good s = true) (ha : actS R.acts op x y t = none) :
    Calls Tryz.prog 27 #[.int .i64 r, .int .i64 n, .slice A s.length c, .agg #[.string op, .int .i64 x, .int .i64 y], .int .i64 t] w fun e w' =>
      e = .returned (.tuple #[noRule, .slice none 0 0, .int .i64 1]) ∧ Below w.heap.size w w' := by
  have HG := Aside0.mk hg
  have HN := Aside0.mk ha
  clear hg ha
  have HLA := Aside0.mk (acts_le h)
  have HF := Aside0.mk (fun W => find_some h W)
  let W2 := (w.alloc (.cells #[.string op, .int .i64 x, .int .i64 y] 24 (0, 0))).alloc (.cells zeroRule 67 (0, 0))
  have HB2 := Aside0.mk (show Below w.heap.size w W2 from al2 w _ _)
  have N8 := Aside0.mk (show W2.heap[w.heap.size]? = some (.cells #[.string op, .int .i64 x, .int .i64 y] 24 (0, 0)) from blk_alloc (heap_alloc_new _ _) _)
  have N10 := Aside0.mk (show W2.heap[w.heap.size + 1]? = some (.cells zeroRule 67 (0, 0)) from by have := heap_alloc_new (w.alloc (.cells #[.string op, .int .i64 x, .int .i64 y] 24 (0, 0))) (.cells zeroRule 67 (0, 0)); rwa [alloc_size] at this)
  have HR := Aside0.mk hr
  have HC := Aside0.mk hc
  have HL := Aside0.mk hl
  clear h hr hc hl
  go_enter Tryz.func27, Tryz.ntmps27
  go_wp2_with (first
    | (go_at_call 36; refine (HF.out W2).mono ?_; rintro e w1 ⟨v1, rfl, ⟨va, V, vs, rfl, hA, hP, hO⟩, hb⟩; have B1 := Aside0.mk (btrans HB2.out hb); have HA1 := Aside0.mk hA; have HP1 := Aside0.mk hP; have N8_1 := Aside0.mk ((hb.block _ (blk_lt N8.out)).trans N8.out); have N10_1 := Aside0.mk ((hb.block _ (blk_lt N10.out)).trans N10.out); have N13_1 := Aside0.mk (fun o => heap_alloc_new w1 o); obtain ⟨Aa, ca, rfl⟩ := hA.slice; obtain ⟨As, cs, rfl⟩ := hO.slice; obtain ⟨gp, capp, rfl, egp, hcp⟩ := hP; have HCP := Aside0.mk hcp; clear hA hb hO hcp)
    | (go_at_fn gp; refine (HCP.out _ A c s (Stays.of (al1 w1 _)) (HR.out.below (B1.out.alloc B1.out.size _)) HC.out HL.out).mono ?_; rintro e w5 ⟨rfl, hb⟩; rw [HG.out]; have Q5 := Aside0.mk (btrans (al1 w1 _) hb); have N8_5 := Aside0.mk ((hb.block _ (blk_lt (blk_alloc N8_1.out _))).trans (blk_alloc N8_1.out _)); have N10_5 := Aside0.mk ((hb.block _ (blk_lt (blk_alloc N10_1.out _))).trans (blk_alloc N10_1.out _)); have N13_5 := Aside0.mk ((hb.block _ (blk_lt (N13_1.out _))).trans (N13_1.out _)); have hc8 := (fun j : Nat => (row_old N8_5.out j).2); have hc13 := (fun j : Nat => (row_old N13_5.out j).2); have hc10 := (fun j : Nat => (row_old N10_5.out j).2); have hf10 := (fun j : Nat => (row_old N10_5.out j).1); unfold zeroRule at hc10; have hz10 : w.heap.size + 1 < w5.heap.size := blk_lt N10_5.out; have hz13 : w1.heap.size < w5.heap.size := blk_lt N13_5.out; clear hb)
    | (go_at_call 37; refine (act_none _ _ _ R.acts op x y t w5 (HA1.out.below Q5.out) HLA.out rfl rfl HN.out).mono ?_; rintro e w6 ⟨rfl, hb⟩; unfold zeroAct; have Q6 := Aside0.mk hb; have N8_6 := Aside0.mk ((hb.block _ (blk_lt N8_5.out)).trans N8_5.out); have N10_6 := Aside0.mk ((hb.block _ (blk_lt N10_5.out)).trans N10_5.out); have N13_6 := Aside0.mk ((hb.block _ (blk_lt N13_5.out)).trans N13_5.out); have hd8 := (fun j : Nat => (row_old N8_6.out j).2); have hd13 := (fun j : Nat => (row_old N13_6.out j).2); have hd10 := (fun j : Nat => (row_old N10_6.out j).2); have hg10 := (fun j : Nat => (row_old N10_6.out j).1); unfold zeroRule at hd10; have hy10 : w.heap.size + 1 < w6.heap.size := blk_lt N10_6.out; have hy13 : w1.heap.size < w6.heap.size := blk_lt N13_6.out; clear hb))
  rw [past3 hy10]
  have hcy := fun o j => (row_old (blk_alloc N10_6.out o) j).2
  unfold zeroRule at hcy
  refine bodyPost_ret (v := .tuple #[noRule, .slice none 0 0, .int .i64 1]) (by simp [results, Tryz.results27, go_sem, hcy, noRule]) rfl ⟨rfl, ?_⟩
  exact below_set3 (by omega) ((btrans B1.out (btrans Q5.out Q6.out)).alloc (btrans B1.out (btrans Q5.out Q6.out)).size _) _ _ _
theorem eff_ok (r n : Int) (A : Option Addr) (c : Nat) (s : List Int) (op : ByteArray) (x y t : Int) (w : World) {R : RuleS} (h : ruleS r n = some R) (hr : Rd w A s) (hc : s.length ≤ c) (hl : s.length ≤ 17592186044416) {a : ActS} (hg : R.good s = true) (ha : actS R.acts op x y t = some a) (h1 : s.length ≤ 1000) (hpre : a.pre s x y t) :
    Calls Tryz.prog 27 #[.int .i64 r, .int .i64 n, .slice A s.length c, .agg #[.string op, .int .i64 x, .int .i64 y], .int .i64 t] w fun e w' =>
      ∃ va V vs ve, e = .returned (.tuple #[.agg #[va, V, vs], ve, .int .i64 0]) ∧ PredV w' V R.good ∧ (∃ A n c, va = .slice A n c) ∧ (∃ A n c, vs = .slice A n c) ∧ Effs w' w.heap.size ve (a.D s x y t) ∧ Below w.heap.size w w' := by
  have HG := Aside0.mk hg
  have HN := Aside0.mk ha
  have H1 := Aside0.mk h1
  have HPRE := Aside0.mk hpre
  clear hg ha h1 hpre
  have HLA := Aside0.mk (acts_le h)
  have HF := Aside0.mk (fun W => find_some h W)
  let W2 := (w.alloc (.cells #[.string op, .int .i64 x, .int .i64 y] 24 (0, 0))).alloc (.cells zeroRule 67 (0, 0))
  have HB2 := Aside0.mk (show Below w.heap.size w W2 from al2 w _ _)
  have N8 := Aside0.mk (show W2.heap[w.heap.size]? = some (.cells #[.string op, .int .i64 x, .int .i64 y] 24 (0, 0)) from blk_alloc (heap_alloc_new _ _) _)
  have N10 := Aside0.mk (show W2.heap[w.heap.size + 1]? = some (.cells zeroRule 67 (0, 0)) from by have := heap_alloc_new (w.alloc (.cells #[.string op, .int .i64 x, .int .i64 y] 24 (0, 0))) (.cells zeroRule 67 (0, 0)); rwa [alloc_size] at this)
  have HR := Aside0.mk hr
  have HC := Aside0.mk hc
  have HL := Aside0.mk hl
  clear h hr hc hl
  go_enter Tryz.func27, Tryz.ntmps27
  go_wp2_with (first
    | (go_at_call 36; refine (HF.out W2).mono ?_; rintro e w1 ⟨v1, rfl, ⟨va, V, vs, rfl, hA, hP, hO⟩, hb⟩; have B1 := Aside0.mk (btrans HB2.out hb); have HA1 := Aside0.mk hA; have HP1 := Aside0.mk hP; have N8_1 := Aside0.mk ((hb.block _ (blk_lt N8.out)).trans N8.out); have N10_1 := Aside0.mk ((hb.block _ (blk_lt N10.out)).trans N10.out); have N13_1 := Aside0.mk (fun o => heap_alloc_new w1 o); obtain ⟨Aa, ca, rfl⟩ := hA.slice; obtain ⟨As, cs, rfl⟩ := hO.slice; obtain ⟨gp, capp, rfl, egp, hcp⟩ := hP; have HCP := Aside0.mk hcp; clear hA hb hO hcp)
    | (go_at_fn gp; refine (HCP.out _ A c s (Stays.of (al1 w1 _)) (HR.out.below (B1.out.alloc B1.out.size _)) HC.out HL.out).mono ?_; rintro e w5 ⟨rfl, hb⟩; rw [HG.out]; have Q5 := Aside0.mk (btrans (al1 w1 _) hb); have N8_5 := Aside0.mk ((hb.block _ (blk_lt (blk_alloc N8_1.out _))).trans (blk_alloc N8_1.out _)); have N10_5 := Aside0.mk ((hb.block _ (blk_lt (blk_alloc N10_1.out _))).trans (blk_alloc N10_1.out _)); have N13_5 := Aside0.mk ((hb.block _ (blk_lt (N13_1.out _))).trans (N13_1.out _)); have hc8 := (fun j : Nat => (row_old N8_5.out j).2); have hc13 := (fun j : Nat => (row_old N13_5.out j).2); have hc10 := (fun j : Nat => (row_old N10_5.out j).2); have hf10 := (fun j : Nat => (row_old N10_5.out j).1); unfold zeroRule at hc10; have hz10 : w.heap.size + 1 < w5.heap.size := blk_lt N10_5.out; have hz13 : w1.heap.size < w5.heap.size := blk_lt N13_5.out; clear hb)
    | (go_at_call 37; refine (act_some _ _ _ R.acts op x y t w5 (HA1.out.below Q5.out) HLA.out rfl rfl HN.out).mono ?_; rintro e w6 ⟨v6, rfl, ⟨V6, rfl, hd⟩, hb⟩; have HD6 := Aside0.mk hd; obtain ⟨ga, capa, rfl, ega, hca⟩ := hd; have HCA := Aside0.mk hca; clear hca; have Q6 := Aside0.mk hb; have N8_6 := Aside0.mk ((hb.block _ (blk_lt N8_5.out)).trans N8_5.out); have N10_6 := Aside0.mk ((hb.block _ (blk_lt N10_5.out)).trans N10_5.out); have N13_6 := Aside0.mk ((hb.block _ (blk_lt N13_5.out)).trans N13_5.out); have hd8 := (fun j : Nat => (row_old N8_6.out j).2); have hd13 := (fun j : Nat => (row_old N13_6.out j).2); have hd10 := (fun j : Nat => (row_old N10_6.out j).2); have hg10 := (fun j : Nat => (row_old N10_6.out j).1); unfold zeroRule at hd10; have hy10 : w.heap.size + 1 < w6.heap.size := blk_lt N10_6.out; have hy13 : w1.heap.size < w6.heap.size := blk_lt N13_6.out; clear hb))
  have B7 := Aside0.mk ((btrans B1.out (btrans Q5.out Q6.out)).alloc (btrans B1.out (btrans Q5.out Q6.out)).size (.cells (acells a (.func (.func ga) #[] capa)).toArray 87 (0, 0)))
  have Q7 := Aside0.mk (btrans Q5.out (btrans Q6.out (al1 w6 (.cells (acells a (.func (.func ga) #[] capa)).toArray 87 (0, 0)))))
  have N8_7 := Aside0.mk (blk_alloc N8_6.out (.cells (acells a (.func (.func ga) #[] capa)).toArray 87 (0, 0)))
  have N13_7 := Aside0.mk (blk_alloc N13_6.out (.cells (acells a (.func (.func ga) #[] capa)).toArray 87 (0, 0)))
  have N10_7 := Aside0.mk (blk_alloc N10_6.out (.cells (acells a (.func (.func ga) #[] capa)).toArray 87 (0, 0)))
  have N15_7 := Aside0.mk (heap_alloc_new w6 (.cells (acells a (.func (.func ga) #[] capa)).toArray 87 (0, 0)))
  have LT := Aside0.mk (show w.heap.size + 1 < w6.heap.size + 1 ∧ w1.heap.size < w6.heap.size + 1 ∧ w.heap.size < w1.heap.size from by have := B1.out.size; have := blk_lt N8_1.out; omega)
  have d7 := held_mk N8_7.out N13_7.out N15_7.out
  clear hc8 hc13 hc10 hf10 hz10 hz13 hd8 hd13 hd10 hg10 hy10 hy13
  go_region_held3 (fun X => X.cell? ⟨w.heap.size, 0, none⟩ = some (.string op) ∧ X.cell? ⟨w.heap.size, 1, none⟩ = some (.int .i64 x) ∧ X.cell? ⟨w.heap.size, 2, none⟩ = some (.int .i64 y) ∧ X.cell? ⟨w1.heap.size, 0, none⟩ = some (.slice Aa R.acts.length ca) ∧ X.cell? ⟨w1.heap.size, 1, none⟩ = some (.func (.func gp) #[] capp) ∧ X.cell? ⟨w1.heap.size, 2, none⟩ = some (.slice As R.start.length cs) ∧ X.cell? ⟨w6.heap.size, 6, none⟩ = some (.func (.func ga) #[] capa)) (first | exact d7 | exact d8 | exact d9 | go_keep) (first
    | (go_at_call 40; refine (clone_calls A c s _ (HR.out.below (by repeat (first | exact B7.out | apply pw_below_drewN | apply below_drew1))) (by have := H1.out; omega)).mono ?_; rintro e w8 ⟨vc, rfl, ho, hb⟩; have HO8 := Aside0.mk (show Own w8 (w6.heap.size + 1) vc s from by simpa [alloc_size] using ho); have hb' := hb.mono (show w6.heap.size + 1 ≤ _ from by simp); have Q8 := Aside0.mk hb'; have Q68 := Aside0.mk (show Below w6.heap.size w6 w8 from Below.trans (by repeat (first | exact al1 w6 _ | apply pw_below_drewN | apply below_drew1)) (hb'.mono (Nat.le_succ _))); obtain ⟨Ac, cc, rfl⟩ := ho.slice; have N8_8 := Aside0.mk ((hb'.block _ (by have := LT.out; omega)).trans N8_7.out); have N13_8 := Aside0.mk ((hb'.block _ LT.out.2.1).trans N13_7.out); have N15_8 := Aside0.mk ((hb'.block _ (Nat.lt_succ_self _)).trans N15_7.out); have N10_8 := Aside0.mk ((hb'.block _ LT.out.1).trans N10_7.out); have d8 := held_mk N8_8.out N13_8.out N15_8.out; clear ho hb hb')
    | (go_at_fn ga; refine (HCA.out _ (w6.heap.size + 1) _ s op x y t (Stays.of Q68.out) (Nat.le_succ _) (by have := Q8.out.size; simpa using this) HO8.out H1.out HPRE.out).mono ?_; rintro e w9 ⟨v9, rfl, he, hb⟩; have HE9 := Aside0.mk he; have Q69 := Aside0.mk (show Below w6.heap.size w6 w9 from Q68.out.trans (hb.mono (Nat.le_succ _))); obtain ⟨Ae, ce, rfl⟩ := Effs.slice he; have d9 := held_mk ((hb.block _ (by have := LT.out; omega)).trans N8_8.out) ((hb.block _ LT.out.2.1).trans N13_8.out) ((hb.block _ (Nat.lt_succ_self _)).trans N15_8.out); have N10_9 := Aside0.mk ((hb.block _ LT.out.1).trans N10_8.out); have hfz := (fun j : Nat => (row_old N10_9.out j).1); have hcz := (fun j : Nat => (row_old N10_9.out j).2); unfold zeroRule at hcz; have hne : w.heap.size + 1 ≠ w1.heap.size := (by have := blk_lt N10_1.out; omega); have hne6 : w.heap.size + 1 ≠ w6.heap.size := (by have := LT.out; omega); clear he hb))
  all_goals go_wp2
  all_goals refine bodyPost_ret (v := .tuple #[.agg #[.slice Aa R.acts.length ca, .func (.func gp) #[] capp, .slice As R.start.length cs], .slice Ae (a.D s x y t).length ce, .int .i64 0]) (by simp [results, Tryz.results27, go_sem, hcz]) rfl ?_
  all_goals
    have h0 := blk_set N10_9.out 0 (.slice Aa R.acts.length ca)
    have h1 := blk_set h0 1 (.func (.func gp) #[] capp)
    have q19 : Below w1.heap.size w1 w9 := btrans Q5.out (btrans Q6.out Q69.out)
    refine ⟨_, _, _, _, rfl, (((HP1.out.mono (Stays.of q19)).mono (Stays.set N10_9.out (.inr rfl) 0 _)).mono (Stays.set h0 (.inr rfl) 1 _)).mono (Stays.set h1 (.inr rfl) 2 _), ⟨_, _, _, rfl⟩, ⟨_, _, _, rfl⟩, (((HE9.out.lower (by have := LT.out; omega)).rule N10_9.out 0 _).rule h0 1 _).rule h1 2 _, below_set3 (by omega) (btrans B1.out q19) _ _ _⟩
end Go.Proofs.YtiialjmpfeopjaaGreat.Sp

namespace Go.Proofs.YtiialjmpfeopjaaGreat.Sp
open Go.RowKit Go.Sort Go.Proofs.YtiialjmpfeopjaaGreatW.PrintWords Go.Proofs.YtiialjmpfeopjaaGreatW.PrintLast Go.Proofs.YtiialjmpfeopjaaGreatW.PrintMore
set_option linter.unusedVariables false
set_option linter.unusedSimpArgs false
set_option maxHeartbeats 4000000
set_option maxRecDepth 100000
theorem words_parts {m h : Int} {s : List Int} (e : wordsB m h s = true) : (s.length : Int) ≤ m ∧ inB 0 h s = true := by
  simpa [wordsB] using e
theorem exactly_parts {n l h : Int} {s : List Int} (e : exactlyB n l h s = true) : (s.length : Int) = n ∧ inB l h s = true := by
  simpa [exactlyB] using e
theorem ascB_pair : ∀ s : List Int, ascB s = true → s.Pairwise (· ≤ ·)
  | [], _ => List.Pairwise.nil
  | [a], _ => by simp
  | a :: b :: r, h => by
    simp only [ascB, Bool.and_eq_true, decide_eq_true_eq] at h
    have ih := ascB_pair (b :: r) h.2
    refine List.pairwise_cons.2 ⟨fun z hz => ?_, ih⟩
    rcases List.mem_cons.1 hz with rfl | hz
    · exact h.1
    · exact Int.le_trans h.1 ((List.pairwise_cons.1 ih).1 z hz)
theorem asc_parts {h : Int} {d : Bool} {s : List Int} (e : ascendingB h d s = true) : s.length ≤ 24 ∧ inB 0 h s = true ∧ s.Pairwise (· ≤ ·) ∧ (d = true → diffB s = true) := by
  simp only [ascendingB, Bool.and_eq_true, Bool.or_eq_true, Bool.not_eq_true'] at e
  obtain ⟨h1, h2, h3⟩ := e
  have h4 := words_parts h2
  refine ⟨by omega, h4.2, ascB_pair s h3, fun hd => ?_⟩
  rcases h1 with h1 | h1
  · rw [h1] at hd; exact absurd hd (by simp)
  · exact h1
theorem twin_parts {s : List Int} (e : twinB s = true) : 1 ≤ s.length ∧ 0 ≤ s.getD 0 0 ∧ s.getD 0 0 < s.length ∧ s.length ≤ 25 ∧ inB 0 900 (s.drop 1) = true := by
  simp only [twinB, Bool.and_eq_true, decide_eq_true_eq] at e
  obtain ⟨⟨⟨h1, h2⟩, h3⟩, h4⟩ := e
  have h5 := words_parts h4
  rw [List.length_drop] at h5
  exact ⟨h1, h2, h3, by omega, h5.2⟩
theorem good_len {r n : Int} {R : RuleS} {s : List Int} (h : ruleS r n = some R) (hg : R.good s = true) : s.length ≤ 25 := by
  obtain ⟨hn, h⟩ := ruleS_cases h
  rcases h with ⟨_, rfl⟩ | ⟨_, rfl⟩ | ⟨_, rfl⟩ | ⟨_, rfl⟩ | ⟨_, rfl⟩ | ⟨_, rfl⟩ | ⟨_, rfl⟩ | ⟨_, rfl⟩ | ⟨_, rfl⟩ | ⟨_, rfl⟩ | ⟨_, rfl⟩ | ⟨_, rfl⟩ | ⟨_, rfl⟩ | ⟨_, rfl⟩ | ⟨_, rfl⟩ | ⟨_, rfl⟩
  · have := (words_parts hg).1; omega
  · have := (words_parts hg).1; omega
  · have := (words_parts hg).1; omega
  · have := (words_parts hg).1; omega
  · have := (asc_parts (show ascendingB 900 false s = true from hg)).1; omega
  · have := (asc_parts (show ascendingB 900 false s = true from hg)).1; omega
  · have := (asc_parts hg).1; omega
  · have := (asc_parts hg).1; omega
  · have := (asc_parts hg).1; omega
  · have := (exactly_parts hg).1; omega
  · have := (exactly_parts hg).1; omega
  · have := (exactly_parts (show exactlyB 8 0 7 s = true by
      have h2 : unitedB s = true := hg
      unfold unitedB at h2
      exact (Bool.and_eq_true _ _ ▸ h2 : _ ∧ _).1)).1; omega
  · have := (exactly_parts hg).1; omega
  · have := (exactly_parts hg).1; omega
  · have := twin_parts hg; omega
  · have := (exactly_parts hg).1; omega
theorem united_parts {s : List Int} (h : unitedB s = true) : s.length = 8 ∧ inB 0 7 s = true := by
  unfold unitedB at h
  have := exactly_parts (Bool.and_eq_true _ _ ▸ h : _ ∧ _).1
  exact ⟨by omega, this.2⟩
theorem does_parts {op : ByteArray} {x y t : Int} {a : ActS} (h : doesB op x y t a = true) : a.name.toList = op.toList ∧ takesB a x y = true ∧ 0 ≤ t ∧ t < a.thr := by
  simp only [doesB, Bool.and_eq_true, decide_eq_true_eq] at h
  exact ⟨h.1.1.1, h.1.1.2, h.1.2, h.2⟩
theorem fit_all (r n : Int) (s : List Int) (op : ByteArray) (x y t : Int) : Fit r n s op x y t := by
  intro R a hR hg ha
  have hl := good_len hR hg
  refine ⟨by omega, ?_⟩
  have hm := List.mem_of_find?_eq_some ha
  obtain ⟨_, htk, ht0, ht1⟩ := does_parts (List.find?_some ha)
  clear ha
  obtain ⟨hn, h⟩ := ruleS_cases hR
  clear hR
  rcases h with ⟨_, rfl⟩ | ⟨_, rfl⟩ | ⟨_, rfl⟩ | ⟨_, rfl⟩ | ⟨_, rfl⟩ | ⟨_, rfl⟩ | ⟨_, rfl⟩ | ⟨_, rfl⟩ | ⟨_, rfl⟩ | ⟨_, rfl⟩ | ⟨_, rfl⟩ | ⟨_, rfl⟩ | ⟨_, rfl⟩ | ⟨_, rfl⟩ | ⟨_, rfl⟩ | ⟨_, rfl⟩
  · simp only [rule1, List.mem_cons, List.not_mem_nil, or_false] at hm
    rcases hm with rfl | rfl <;> exact trivial
  · simp only [rule2, List.mem_cons, List.not_mem_nil, or_false] at hm
    rcases hm with rfl | rfl <;> exact trivial
  · simp only [rule3, List.mem_cons, List.not_mem_nil, or_false] at hm
    rcases hm with rfl | rfl <;> exact trivial
  · simp only [rule4, List.mem_cons, List.not_mem_nil, or_false] at hm
    rcases hm with rfl | rfl | rfl <;> exact trivial
  · simp only [rule5, List.mem_cons, List.not_mem_nil, or_false] at hm
    have hp := asc_parts (show ascendingB 900 false s = true from hg)
    rcases hm with rfl | rfl
    · exact hp.2.2.1
    · exact trivial
  · simp only [rule6, List.mem_cons, List.not_mem_nil, or_false] at hm
    have hp := asc_parts (show ascendingB 900 false s = true from hg)
    rcases hm with rfl | rfl
    · exact hp.2.2.1
    · exact trivial
  · simp only [rule7, setActs, List.mem_cons, List.not_mem_nil, or_false] at hm
    have hp := asc_parts hg
    rcases hm with rfl | rfl | rfl <;> exact hp.2.2.1
  · simp only [rule8, setActs, List.mem_append, List.mem_cons, List.not_mem_nil, or_false] at hm
    have hp := asc_parts hg
    rcases hm with (rfl | rfl | rfl) | rfl
    · exact hp.2.2.1
    · exact hp.2.2.1
    · exact hp.2.2.1
    · exact fun j hj => inB_at hp.2.1 j hj
  · simp only [rule9, List.mem_cons, List.not_mem_nil, or_false] at hm
    have hp := asc_parts hg
    subst hm
    exact hp.2.2.1
  · simp only [rule10, List.mem_cons, List.not_mem_nil, or_false] at hm
    have hp := exactly_parts hg
    have h1 : 0 < s.length := by omega
    rcases hm with rfl | rfl
    · exact trivial
    · exact ⟨h1, inB_at hp.2 0 h1⟩
  · simp only [rule11, snapActs, List.mem_cons, List.not_mem_nil, or_false] at hm
    have hp := exactly_parts hg
    have h1 : 1 < s.length := by omega
    rcases hm with rfl | rfl
    · have : t < 2 := ht1
      exact ⟨ht0, by omega⟩
    · exact ⟨h1, inB_at hp.2 0 (by omega), inB_at hp.2 1 h1⟩
  · simp only [rule12, uniActs, List.mem_cons, List.not_mem_nil, or_false] at hm
    have hp := united_parts hg
    rcases hm with rfl | rfl
    · simp [takesB, argB] at htk
      exact ⟨by omega, by omega, by omega, by omega⟩
    · simp [takesB, argB] at htk
      exact ⟨by omega, by omega, by omega, by omega⟩
  · simp only [rule13, pairActs, List.mem_cons, List.not_mem_nil, or_false] at hm
    have hp := exactly_parts hg
    have h1 : 1 < s.length := by omega
    have i0 := inB_at hp.2 0 (by omega)
    have i1 := inB_at hp.2 1 h1
    rcases hm with rfl | rfl | rfl
    · simp [takesB, argB] at htk
      exact ⟨h1, i0, i1, by omega, by omega⟩
    · simp [takesB, argB] at htk
      exact ⟨h1, i0, i1, by omega, by omega⟩
    · exact ⟨h1, i0, i1⟩
  · simp only [rule14, List.mem_cons, List.not_mem_nil, or_false] at hm
    have hp := exactly_parts hg
    have h1 : 0 < s.length := by omega
    have i0 := inB_at hp.2 0 h1
    rcases hm with rfl | rfl
    · simp [takesB, argB, growS] at htk
      have htk1 := of_decide_eq_true htk.1.1
      have htk2 := of_decide_eq_true htk.1.2
      exact ⟨h1, by omega, by omega, by omega, by omega⟩
    · exact h1
  · simp only [rule15, twinActs, List.mem_cons, List.not_mem_nil, or_false] at hm
    have hp := twin_parts hg
    have hq : twPre s := ⟨hp.2.1, by omega⟩
    rcases hm with rfl | rfl | rfl | rfl | rfl
    · exact hq
    · exact trivial
    · exact hq
    · exact hq
    · exact hq
  · simp only [rule16, List.mem_cons, List.not_mem_nil, or_false] at hm
    have hp := exactly_parts hg
    have h1 : 0 < s.length := by omega
    have i0 := inB_at hp.2 0 h1
    rcases hm with rfl | rfl
    · simp [takesB, argB, growS] at htk
      have htk1 := of_decide_eq_true htk.1.1
      have htk2 := of_decide_eq_true htk.1.2
      exact ⟨h1, by omega, by omega, by omega, by omega⟩
    · exact h1
end Go.Proofs.YtiialjmpfeopjaaGreat.Sp

namespace Go.Proofs.YtiialjmpfeopjaaGreat.Sp
open Go.RowKit Go.Sort Go.Proofs.YtiialjmpfeopjaaGreatW.PrintWords Go.Proofs.YtiialjmpfeopjaaGreatW.PrintLast Go.Proofs.YtiialjmpfeopjaaGreatW.PrintMore
set_option linter.unusedVariables false
set_option linter.unusedSimpArgs false
set_option maxHeartbeats 8000000
set_option maxRecDepth 100000
theorem eff_err {r n : Int} (A : Option Addr) (c : Nat) {s : List Int} {op : ByteArray} {x y t : Int} (w : World) (h : effS r n s op x y t = none) (hr : Rd w A s) (hc : s.length ≤ c) (hl : s.length ≤ 17592186044416) :
    Calls Tryz.prog 27 #[.int .i64 r, .int .i64 n, .slice A s.length c, .agg #[.string op, .int .i64 x, .int .i64 y], .int .i64 t] w fun e w' => e = .returned (.tuple #[noRule, .slice none 0 0, .int .i64 1]) ∧ Below w.heap.size w w' := by
  unfold effS at h
  cases hR : ruleS r n with
  | none => exact eff_no r n A c s op x y t w hR
  | some R =>
    rw [hR] at h
    simp only at h
    by_cases hg : R.good s = true
    · rw [if_pos hg, Option.map_eq_none_iff] at h
      exact eff_none r n A c s op x y t w hR hr hc hl hg h
    · exact eff_bad r n A c s op x y t w hR hr hc hl (by simpa using hg)
theorem eff_fine {r n : Int} (A : Option Addr) (c : Nat) {s : List Int} {op : ByteArray} {x y t : Int} {l : List Eff} (w : World) (h : effS r n s op x y t = some l) (hr : Rd w A s) (hc : s.length ≤ c) (hl : s.length ≤ 17592186044416) :
    ∃ R, ruleS r n = some R ∧ R.good s = true ∧ Calls Tryz.prog 27 #[.int .i64 r, .int .i64 n, .slice A s.length c, .agg #[.string op, .int .i64 x, .int .i64 y], .int .i64 t] w fun e w' =>
      ∃ va V vs ve, e = .returned (.tuple #[.agg #[va, V, vs], ve, .int .i64 0]) ∧ PredV w' V R.good ∧ (∃ A n c, va = .slice A n c) ∧ (∃ A n c, vs = .slice A n c) ∧ Effs w' w.heap.size ve l ∧ Below w.heap.size w w' := by
  unfold effS at h
  cases hR : ruleS r n with
  | none => rw [hR] at h; exact absurd h (by simp)
  | some R =>
    rw [hR] at h
    simp only at h
    by_cases hg : R.good s = true
    · rw [if_pos hg] at h
      cases ha : actS R.acts op x y t with
      | none => rw [ha] at h; exact absurd h (by simp)
      | some a =>
        rw [ha] at h
        simp only [Option.map_some, Option.some.injEq] at h
        subst h
        have hf := fit_all r n s op x y t R a hR hg ha
        exact ⟨R, rfl, hg, eff_ok r n A c s op x y t w hR hr hc hl hg ha hf.1 hf.2⟩
    · rw [if_neg hg] at h; exact absurd h (by simp)
def validS (r n : Int) (s : List Int) : Bool := match ruleS r n with | none => false | some R => R.good s
def startS (r n : Int) : List Int × Int := match ruleS r n with | none => ([], 1) | some R => (R.start, 0)
theorem valid_calls (r n : Int) (A : Option Addr) (c : Nat) (s : List Int) (w : World) (hr : Rd w A s) (hc : s.length ≤ c) (hl : s.length ≤ 17592186044416) :
    Calls Tryz.prog 24 #[.int .i64 r, .int .i64 n, .slice A s.length c] w fun e w' => e = .returned (.bool (validS r n s)) ∧ Below w.heap.size w w' := by
  unfold validS
  cases hR : ruleS r n with
  | none =>
    have HF := Aside0.mk (fun W => find_no hR W)
    clear hR
    unfold noRule at HF
    go_enter Tryz.func24, Tryz.ntmps24
    go_wp2_with (go_at_call 36; refine (HF.out _).mono ?_; rintro e w1 ⟨rfl, hb⟩; have B1 := Aside0.mk hb; clear hb)
    go_ret
    exact ⟨rfl, B1.out.alloc B1.out.size _⟩
  | some R =>
    have HF := Aside0.mk (fun W => find_some hR W)
    have HR := Aside0.mk hr
    have HC := Aside0.mk hc
    have HL := Aside0.mk hl
    clear hR hr hc hl
    go_enter Tryz.func24, Tryz.ntmps24
    go_wp2_with (first
      | (go_at_call 36; refine (HF.out _).mono ?_; rintro e w1 ⟨v1, rfl, ⟨va, V, vs, rfl, hA, hP, hO⟩, hb⟩; have B1 := Aside0.mk hb; obtain ⟨Aa, ca, rfl⟩ := hA.slice; obtain ⟨As, cs, rfl⟩ := hO.slice; obtain ⟨gp, capp, rfl, egp, hcp⟩ := hP; have HCP := Aside0.mk hcp; clear hA hb hO hcp)
      | (go_at_fn gp; refine (HCP.out _ A c s (Stays.of (al1 w1 _)) (HR.out.below (B1.out.alloc B1.out.size _)) HC.out HL.out).mono ?_; rintro e w2 ⟨rfl, hb⟩; have B2 := Aside0.mk (btrans (B1.out.alloc B1.out.size _) hb); clear hb))
    go_ret
    exact ⟨rfl, B2.out⟩
theorem start_calls (r n : Int) (w : World) :
    Calls Tryz.prog 34 #[.int .i64 r, .int .i64 n] w fun e w' => ∃ v, e = .returned (.tuple #[v, .int .i64 (startS r n).2]) ∧ Own w' w.heap.size v (startS r n).1 ∧ Below w.heap.size w w' := by
  unfold startS
  cases hR : ruleS r n with
  | none =>
    have HF := Aside0.mk (fun W => find_no hR W)
    clear hR
    unfold noRule at HF
    go_enter Tryz.func34, Tryz.ntmps34
    go_wp2_with (go_at_call 36; refine (HF.out _).mono ?_; rintro e w1 ⟨rfl, hb⟩; have B1 := Aside0.mk hb; clear hb)
    refine bodyPost_ret (v := .tuple #[.slice none 0 0, .int .i64 1]) (by simp [results, Tryz.results34, go_sem]) rfl ⟨_, rfl, own_none _ _, B1.out.alloc B1.out.size _⟩
  | some R =>
    have HF := Aside0.mk (fun W => find_some hR W)
    clear hR
    go_enter Tryz.func34, Tryz.ntmps34
    go_wp2_with (go_at_call 36; refine (HF.out _).mono ?_; rintro e w1 ⟨v1, rfl, ⟨va, V, vs, rfl, hA, hP, hO⟩, hb⟩; have B1 := Aside0.mk hb; have HO := Aside0.mk hO; obtain ⟨Aa, ca, rfl⟩ := hA.slice; obtain ⟨As, cs, rfl⟩ := hO.slice; obtain ⟨gp, capp, rfl, egp, hcp⟩ := hP; clear hA hb hO hcp)
    refine bodyPost_ret (v := .tuple #[.slice As R.start.length cs, .int .i64 0]) (by simp [results, Tryz.results34, go_sem]) rfl ⟨_, rfl, HO.out.below (al1 w1 _), B1.out.alloc B1.out.size _⟩
end Go.Proofs.YtiialjmpfeopjaaGreat.Sp

namespace Go.Proofs.YtiialjmpfeopjaaGreat.Sp
open Go.RowKit Go.Sort Go.Proofs.YtiialjmpfeopjaaGreatW.PrintWords Go.Proofs.YtiialjmpfeopjaaGreatW.PrintLast Go.Proofs.YtiialjmpfeopjaaGreatW.PrintMore
set_option linter.unusedVariables false
set_option linter.unusedSimpArgs false
set_option maxHeartbeats 8000000
set_option maxRecDepth 100000
theorem Effs.at {w : World} {base : Nat} {A : Option Addr} {n c : Nat} {l : List Eff} (h : Effs w base (.slice A n c) l) (j : Nat) (hj : j < l.length) :
    ∃ g A' c', A = some ⟨g, 0, none⟩ ∧ g < w.heap.size ∧ w.cell? ⟨g, j * 2, none⟩ = some (.int .i64 (l[j]).1) ∧ w.cell? ⟨g, j * 2 + 1, none⟩ = some (.slice A' (l[j]).2.length c') ∧ Own w base (.slice A' (l[j]).2.length c') (l[j]).2 := by
  obtain ⟨g, cap, he, hb, hlt, _⟩ := Kd.R_form h (by omega)
  injection he with e1 e2 e3
  subst e1
  obtain ⟨cs, hcl, hM, hcc, _⟩ := Kd.R_elem h ((0, []) : Eff) (j : Int) (by omega) (by omega)
  have hx : l.getD (j : Int).toNat (0, []) = l[j] := by
    rw [Int.toNat_natCast, List.getD_eq_getElem?_getD, List.getElem?_eq_getElem hj]; rfl
  rw [hx] at hM
  rw [Int.toNat_natCast] at hcc
  obtain ⟨c1, c2, rfl, h1, v, h2, h3⟩ := hM
  obtain rfl := h1
  obtain rfl := h2
  obtain ⟨A', c', rfl⟩ := Kd.R_slice h3
  exact ⟨g, A', c', rfl, hlt, hcc 0 _ rfl, hcc 1 _ rfl, Own.of_R h3⟩
def doS (r n : Int) (s : List Int) (op : ByteArray) (x y t : Int) : Option (List Int × Int × Int) :=
  match effS r n s op x y t with
  | none => some ([], 0, 1)
  | some [] => none
  | some (e :: _) => if e.2.length ≤ 17592186044416 then (if validS r n e.2 = true then some (e.2, e.1, 0) else some ([], 0, 1)) else none
theorem do_calls {r n : Int} (A : Option Addr) (c : Nat) {s : List Int} {op : ByteArray} {x y t : Int} (w : World) (hr : Rd w A s) (hc : s.length ≤ c) (hl : s.length ≤ 17592186044416) {q : List Int × Int × Int} (h : doS r n s op x y t = some q) :
    Calls Tryz.prog 11 #[.int .i64 r, .int .i64 n, .slice A s.length c, .agg #[.string op, .int .i64 x, .int .i64 y], .int .i64 t] w fun e w' => ∃ v, e = .returned (.tuple #[v, .int .i64 q.2.1, .int .i64 q.2.2]) ∧ Own w' w.heap.size v q.1 ∧ Below w.heap.size w w' := by
  unfold doS at h
  have B0 := Aside0.mk (al1 w (.cells #[.string op, .int .i64 x, .int .i64 y] 24 (0, 0)))
  have N8 := Aside0.mk (heap_alloc_new w (.cells #[.string op, .int .i64 x, .int .i64 y] 24 (0, 0)))
  have hr1 := hr.below B0.out
  cases hE : effS r n s op x y t with
  | none =>
    rw [hE] at h
    simp only [Option.some.injEq] at h
    subst h
    have HF := Aside0.mk (eff_err A c _ hE hr1 hc hl)
    clear hE hr hr1 hc hl
    unfold noRule at HF
    go_enter Tryz.func11, Tryz.ntmps11
    go_wp2_with (go_at_call 27; refine (HF.out).mono ?_; rintro e w1 ⟨rfl, hb⟩; have B1 := Aside0.mk (btrans B0.out hb); clear hb)
    go_region
    all_goals go_wp2
    all_goals refine bodyPost_ret (v := .tuple #[.slice none 0 0, .int .i64 0, .int .i64 1]) (by simp [results, Tryz.results11, go_sem]) rfl ⟨_, rfl, own_none _ _, ?_⟩
    all_goals repeat (first | exact B1.out.alloc B1.out.size _ | apply pw_below_drewN | apply below_drew1)
  | some l =>
    rw [hE] at h
    obtain ⟨R, hR, hg, hF⟩ := eff_fine A c _ hE hr1 hc hl
    have HF := Aside0.mk hF
    cases l with
    | nil => exact absurd h (by simp)
    | cons e0 l =>
      simp only at h
      by_cases hlen : e0.2.length ≤ 17592186044416
      · rw [if_pos hlen] at h
        have hv : validS r n e0.2 = R.good e0.2 := by unfold validS; rw [hR]
        rw [hv] at h
        have HLEN := Aside0.mk hlen
        clear hE hr hr1 hc hl hF hv hR hg hlen
        cases hq : R.good e0.2 with
        | true =>
          rw [hq, if_pos rfl] at h
          simp only [Option.some.injEq] at h
          subst h
          have HQ := Aside0.mk hq
          clear hq
          go_enter Tryz.func11, Tryz.ntmps11
          go_wp2_with (go_at_call 27; refine (HF.out).mono ?_; rintro e w1 ⟨va, V, vs, ve, rfl, hP, ⟨Aa, na, ca, rfl⟩, ⟨As, ns, cs, rfl⟩, he, hb⟩; have B1 := Aside0.mk (btrans B0.out hb); obtain ⟨Ae, ce, rfl⟩ := Effs.slice he; have HE := Aside0.mk he; obtain ⟨g, A', c', rfl, hlt, k0, k1, ho⟩ := Effs.at he 0 (Nat.succ_pos _); have k0' : w1.cell? ⟨g, 0, none⟩ = some (.int .i64 e0.1) := k0; have k1' : w1.cell? ⟨g, 1, none⟩ = some (.slice A' e0.2.length c') := k1; have ho' : Own w1 w.heap.size (.slice A' e0.2.length c') e0.2 := ho.lower (al1 w (.cells #[.string op, .int .i64 x, .int .i64 y] 24 (0, 0))).size; have HO := Aside0.mk ho'; have HCL := Aside0.mk (Kd.R_reads' ho'.R).2.1; obtain ⟨gp, capp, rfl, egp, hcp⟩ := hP; have HCP := Aside0.mk hcp; clear he hb ho hcp ho' k0 k1)
          go_region_with (go_at_fn gp; refine (HCP.out _ A' c' e0.2 (Stays.of (by repeat (first | exact al1 w1 _ | apply pw_below_drewN | apply below_drew1))) (HO.out.rd.below (by repeat (first | exact al1 w1 _ | apply pw_below_drewN | apply below_drew1))) HCL.out HLEN.out).mono ?_; rintro e w2 ⟨rfl, hb⟩; rw [HQ.out]; have B2 := Aside0.mk (show Below w1.heap.size w1 w2 from Below.trans (by repeat (first | exact al1 w1 _ | apply pw_below_drewN | apply below_drew1)) (hb.mono (by simp))); have hb1 := B2.out; obtain ⟨hcl2, hfr2⟩ := bcell hb1; clear hb1 hb)
          all_goals go_wp2
          all_goals go_region_with (fail)
          all_goals go_wp2
          all_goals refine bodyPost_ret (v := .tuple #[.slice A' e0.2.length c', .int .i64 e0.1, .int .i64 0]) (by simp [results, Tryz.results11, go_sem]) rfl ⟨_, rfl, ?_, ?_⟩
          all_goals first | exact HO.out.below (by repeat (first | exact B2.out | apply pw_below_drewN | apply below_drew1)) | skip
          all_goals repeat (first | exact btrans B1.out B2.out | apply pw_below_drewN | apply below_drew1)
        | false =>
          rw [hq, if_neg (by decide)] at h
          simp only [Option.some.injEq] at h
          subst h
          have HQ := Aside0.mk hq
          clear hq
          go_enter Tryz.func11, Tryz.ntmps11
          go_wp2_with (go_at_call 27; refine (HF.out).mono ?_; rintro e w1 ⟨va, V, vs, ve, rfl, hP, ⟨Aa, na, ca, rfl⟩, ⟨As, ns, cs, rfl⟩, he, hb⟩; have B1 := Aside0.mk (btrans B0.out hb); obtain ⟨Ae, ce, rfl⟩ := Effs.slice he; have HE := Aside0.mk he; obtain ⟨g, A', c', rfl, hlt, k0, k1, ho⟩ := Effs.at he 0 (Nat.succ_pos _); have k0' : w1.cell? ⟨g, 0, none⟩ = some (.int .i64 e0.1) := k0; have k1' : w1.cell? ⟨g, 1, none⟩ = some (.slice A' e0.2.length c') := k1; have ho' : Own w1 w.heap.size (.slice A' e0.2.length c') e0.2 := ho.lower (al1 w (.cells #[.string op, .int .i64 x, .int .i64 y] 24 (0, 0))).size; have HO := Aside0.mk ho'; have HCL := Aside0.mk (Kd.R_reads' ho'.R).2.1; obtain ⟨gp, capp, rfl, egp, hcp⟩ := hP; have HCP := Aside0.mk hcp; clear he hb ho hcp ho' k0 k1)
          go_region_with (go_at_fn gp; refine (HCP.out _ A' c' e0.2 (Stays.of (by repeat (first | exact al1 w1 _ | apply pw_below_drewN | apply below_drew1))) (HO.out.rd.below (by repeat (first | exact al1 w1 _ | apply pw_below_drewN | apply below_drew1))) HCL.out HLEN.out).mono ?_; rintro e w2 ⟨rfl, hb⟩; rw [HQ.out]; have B2 := Aside0.mk (show Below w1.heap.size w1 w2 from Below.trans (by repeat (first | exact al1 w1 _ | apply pw_below_drewN | apply below_drew1)) (hb.mono (by simp))); have hb1 := B2.out; obtain ⟨hcl2, hfr2⟩ := bcell hb1; clear hb1 hb)
          all_goals go_wp2
          all_goals refine bodyPost_ret (v := .tuple #[.slice none 0 0, .int .i64 0, .int .i64 1]) (by simp [results, Tryz.results11, go_sem]) rfl ⟨_, rfl, own_none _ _, ?_⟩
          all_goals repeat (first | exact btrans B1.out B2.out | apply pw_below_drewN | apply below_drew1)
      · rw [if_neg hlen] at h; exact absurd h (by simp)
end Go.Proofs.YtiialjmpfeopjaaGreat.Sp

namespace Go.Proofs.YtiialjmpfeopjaaGreat.Sp
open Go.RowKit Go.Sort Go.Proofs.YtiialjmpfeopjaaGreatW.PrintWords Go.Proofs.YtiialjmpfeopjaaGreatW.PrintLast Go.Proofs.YtiialjmpfeopjaaGreatW.PrintMore
set_option linter.unusedVariables false
set_option linter.unusedSimpArgs false
set_option maxHeartbeats 8000000
set_option maxRecDepth 100000
abbrev CallT := ByteArray × Int × Int
/-- Calls, laid in a row. -/
def CallsAt (w : World) (A : Option Addr) (l : List CallT) : Prop := ∀ (j : Nat) (hj : j < l.length), ∃ ad, A = some ad ∧ w.cell? (ad.add (j * 3)) = some (.string (l[j]).1) ∧ w.cell? (ad.add (j * 3 + 1)) = some (.int .i64 (l[j]).2.1) ∧ w.cell? (ad.add (j * 3 + 2)) = some (.int .i64 (l[j]).2.2)
theorem CallsAt.below {w w1 : World} {A : Option Addr} {l : List CallT} (h : CallsAt w A l) (hb : Below w.heap.size w w1) : CallsAt w1 A l := by
  intro j hj
  obtain ⟨ad, e, h1, h2, h3⟩ := h j hj
  exact ⟨ad, e, (hb.cell (World.block_lt_of_cell? w _ h1)).trans h1, (hb.cell (World.block_lt_of_cell? w _ h2)).trans h2, (hb.cell (World.block_lt_of_cell? w _ h3)).trans h3⟩
theorem add_field (ad : Addr) (m i : Nat) (hi : 0 < i) : ad.add (m + i) = ⟨(ad.add m).block, (ad.add m).off + i, none⟩ := by
  unfold Addr.add
  by_cases hm : m = 0
  · subst hm
    simp
    omega
  · simp [hm, Nat.add_assoc]
def runL (r n : Int) : List CallT → List Int → List Int → Option (List Int × List Int × Int)
  | [], s, acc => some (acc, s, 0)
  | c :: l, s, acc => match doS r n s c.1 c.2.1 c.2.2 0 with
    | none => none
    | some q => if q.2.2 = 0 then (if q.1.length ≤ 17592186044416 then runL r n l q.1 (acc ++ [q.2.1]) else none) else some ([], [], q.2.2)
def runS (r n : Int) (l : List CallT) : Option (List Int × List Int × Int) :=
  if (startS r n).2 ≠ 0 ∨ 24 < l.length then some ([], [], 1) else (if (startS r n).1.length ≤ 17592186044416 then runL r n l (startS r n).1 [] else none)
theorem own_grown {w w1 : World} {base : Nat} {v : Value} {s : List Int} {o : Option Nat} (h : Own w base v s) (hg : w.grownBy w1 o) (hne : ∀ k, v.ownBlock = some k → o ≠ some k) : Own w1 base v s := by
  rcases h.parts with ⟨rfl, rfl⟩ | ⟨b, cap, cur, rfl, h1, h2, h3, h4, h5, h6⟩
  · exact own_none _ _
  · exact Own.make h1 ((hg.block b (blk_lt h2) (fun e => hne b rfl e.symm)).trans h2) h3 h4 h5 h6
theorem apart_grown {wr w2 : World} {b1 b2 : Nat} {v u v1 : Value} {a s : List Int} (h : Own wr b1 v a) (h2 : Own w2 b2 u s) (hat : v1.ownBlock = v.ownBlock ∨ ∃ b, v1.ownBlock = some b ∧ w2.heap.size ≤ b) (hb : wr.heap.size ≤ b2) (hz : wr.heap.size ≤ w2.heap.size) :
    (∀ k, u.ownBlock = some k → v.ownBlock ≠ some k) ∧ Apart v1 u := by
  have h0 : ∀ k, u.ownBlock = some k → v.ownBlock ≠ some k := fun k e e' => by
    have h3 := h2.base_le k e
    have h4 := h.lt k e'
    omega
  refine ⟨h0, ?_⟩
  rcases hat with hat | ⟨b, hb', hle⟩
  · cases hv : v.ownBlock with
    | none => exact .inl (hat.trans hv)
    | some k => exact .inr (fun e => h0 k (by rw [← e, hat, hv]) hv)
  · exact .inr (fun e => by have := h2.lt b (by rw [← e, hb']); omega)
theorem run_calls {r n : Int} (A : Option Addr) (c : Nat) {l : List CallT} (w : World) (hr : CallsAt w A l) (hl : l.length ≤ 1000000) {q : List Int × List Int × Int} (h : runS r n l = some q) :
    Calls Tryz.prog 17 #[.int .i64 r, .int .i64 n, .slice A l.length c] w fun e w' => ∃ v u, e = .returned (.tuple #[v, u, .int .i64 q.2.2]) ∧ Own w' w.heap.size v q.1 ∧ Own w' w.heap.size u q.2.1 ∧ (v.ownBlock = none ∨ v.ownBlock ≠ u.ownBlock) ∧ Below w.heap.size w w' := by
  unfold runS at h
  have HR := Aside0.mk hr
  have HL := Aside0.mk hl
  have hst := Aside0.mk (start_calls r n w)
  generalize startS r n = st at h hst
  obtain ⟨s0, e0⟩ := st
  clear hr
  by_cases h1 : e0 ≠ 0 ∨ 24 < l.length
  · rw [if_pos h1] at h
    simp only [Option.some.injEq] at h
    subst h
    clear hl
    go_enter Tryz.func17, Tryz.ntmps17
    go_wp2_with (go_at_call 34; refine (hst.out).mono ?_; rintro e w1 ⟨v1, rfl, ho, hb⟩; have B1 := Aside0.mk hb; obtain ⟨A1, c1, rfl⟩ := ho.slice; clear ho hb)
    all_goals first
      | refine bodyPost_ret (v := .tuple #[.slice none 0 0, .slice none 0 0, .int .i64 1]) (by simp [results, Tryz.results17, go_sem]) rfl ⟨_, _, rfl, own_none _ _, own_none _ _, .inl rfl, B1.out⟩
      | (rename_i q1 q2; exfalso; omega)
  · rw [if_neg h1] at h
    have hz : e0 = 0 := by omega
    have hl24 : l.length ≤ 24 := by omega
    subst hz
    by_cases hs : s0.length ≤ 17592186044416
    · rw [if_pos hs] at h
      clear h1
      have HS := Aside0.mk hs
      have HQ := Aside0.mk h
      clear h hs hl
      go_enter Tryz.func17, Tryz.ntmps17
      go_wp2_with (go_at_call 34; refine (hst.out).mono ?_; rintro e w1 ⟨v1, rfl, ho, hb⟩; have B1 := Aside0.mk hb; have HO := Aside0.mk ho; obtain ⟨A1, c1, rfl⟩ := ho.slice; clear ho hb)
      go_loopg [6, 7, 29] l.length (fun gg v6 v7 v29 wr => ∃ (kk : Nat) (s acc : List Int), kk ≤ l.length ∧ l.length - kk ≤ gg ∧ v29 = .int .i64 kk ∧ acc.length = kk ∧ s.length ≤ 17592186044416 ∧ Aside0 (runL r n (l.drop kk) s acc = some q) ∧ Aside0 (Own wr w.heap.size v6 acc) ∧ Aside0 (Own wr w.heap.size v7 s) ∧ Aside0 (Apart v6 v7) ∧ Aside0 (Below w.heap.size w wr))
      case atStart => exact ⟨0, s0, [], Nat.zero_le _, by omega, rfl, rfl, HS.out, HQ, ⟨own_none _ _⟩, HO, ⟨.inl rfl⟩, B1⟩
      case round =>
        clear HO B1 HQ HS hst
        obtain ⟨kk, s, acc, hkk, hgg, rfl, hac, hsl, HQ, H6, H7, HAP, HB⟩ := hrel
        subst hac
        obtain ⟨A6, c6, rfl⟩ := H6.out.slice
        obtain ⟨A7, c7, rfl⟩ := H7.out.slice
        by_cases hlt : acc.length < l.length
        · obtain ⟨ad, rfl, e1, e2, e3⟩ := HR.out.below HB.out acc.length hlt
          rw [add_field ad (acc.length * 3) 1 (by decide)] at e2
          rw [add_field ad (acc.length * 3) 2 (by decide)] at e3
          have hq := HQ.out
          rw [List.drop_eq_getElem_cons hlt] at hq
          generalize l[acc.length] = cl at e1 e2 e3 hq
          obtain ⟨op, x, y⟩ := cl
          simp only [runL] at hq
          cases hdo : doS r n s op x y 0 with
          | none => rw [hdo] at hq; exact absurd hq (by simp)
          | some q1 =>
            rw [hdo] at hq
            simp only at hq
            have b1 := al1 wr (.cells #[.string op, .int .i64 x, .int .i64 y] 24 (0, 0))
            have HDO := Aside0.mk (do_calls A7 c7 _ (H7.out.rd.below b1) (Kd.R_reads' H7.out.R).2.1 hsl hdo)
            have B0 := Aside0.mk b1
            clear hdo b1
            obtain ⟨s1, r1, e4⟩ := q1
            simp only at hq
            by_cases he : e4 = 0
            · rw [if_pos he] at hq
              subst he
              by_cases hs1 : s1.length ≤ 17592186044416
              · rw [if_pos hs1] at hq
                have HQ1 := Aside0.mk hq
                have HS1 := Aside0.mk hs1
                clear hq HQ hs1
                go_wp2_with (first
                  | (go_at_call 11; refine (HDO.out).mono ?_; rintro e w2 ⟨v2, rfl, ho, hb⟩; obtain ⟨A2, c2, rfl⟩ := ho.slice; have HO2 := Aside0.mk ho; have Q2 := Aside0.mk (btrans B0.out hb); have H62 := Aside0.mk (H6.out.below (btrans B0.out hb)); clear ho hb)
                  | ((with_reducible refine gate_builtin (b := .append) (xs := #[.tmp 46, .tmp 48]) rfl ?_); at_builtin; refine Kd.R_append (Kd.int .i64) (w0 := w2) w.heap.size rfl (.tmp 46) (.tmp 48) 22 3 (.int .i64 0) 8 rfl Tryz.underlying22 info_int rfl (by decide) (by omega) _ acc r1 [.int .i64 r1] (fun _ => True) (fun _ => False) rfl rfl ?aP (fun _ hk => hk.elim) (fun _ _ => trivial) H62.out.R (Below.refl _ _) (Nat.le_trans HB.out.size Q2.out.size) (by omega) ?_; (case aP => exact rfl); intro v1 wn ho hb hg hat; have HN := Aside0.mk (Own.of_R ho); have HBN := Aside0.mk hb; have HGN := Aside0.mk hg; have HAT := Aside0.mk hat; clear ho hb hg hat))
                have hap := apart_grown H6.out HO2.out HAT.out (by simp only [alloc_size]; omega) Q2.out.size
                go_roundg (l.length - (acc.length + 1))
                case measure => omega
                case rel => exact ⟨acc.length + 1, s1, acc ++ [r1], hlt, by omega, by go_num, by simp, HS1.out, HQ1, HN, ⟨(own_grown HO2.out HGN.out hap.1).lower (by simp only [alloc_size]; have := HB.out.size; omega)⟩, ⟨hap.2⟩, ⟨(HB.out.trans (Q2.out.mono HB.out.size)).trans HBN.out⟩⟩
              · rw [if_neg hs1] at hq; exact absurd hq (by simp)
            · rw [if_neg he] at hq
              simp only [Option.some.injEq] at hq
              subst hq
              go_wp2_with (go_at_call 11; refine (HDO.out).mono ?_; rintro e w2 ⟨v2, rfl, ho, hb⟩; obtain ⟨A2, c2, rfl⟩ := ho.slice; have Q2 := Aside0.mk (btrans B0.out hb); clear ho hb)
              refine bodyPost_ret (v := .tuple #[.slice none 0 0, .slice none 0 0, .int .i64 e4]) (by simp [results, Tryz.results17, go_sem]) rfl ⟨_, _, rfl, own_none _ _, own_none _ _, .inl rfl, HB.out.trans (Q2.out.mono HB.out.size)⟩
        · have hkl : acc.length = l.length := by omega
          have hq := HQ.out
          rw [hkl, List.drop_length] at hq
          simp only [runL, Option.some.injEq] at hq
          subst hq
          go_wp2
          refine bodyPost_ret (v := .tuple #[.slice A6 acc.length c6, .slice A7 s.length c7, .int .i64 0]) (by simp [results, Tryz.results17, go_sem, hkl]) rfl ⟨_, _, rfl, H6.out, H7.out, HAP.out, HB.out⟩
    · rw [if_neg hs] at h; exact absurd h (by simp)
end Go.Proofs.YtiialjmpfeopjaaGreat.Sp
