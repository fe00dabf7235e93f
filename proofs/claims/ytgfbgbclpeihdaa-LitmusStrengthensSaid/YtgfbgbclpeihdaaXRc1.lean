/- What the Go functions of this text compute, as plain Lean functions, and that the machine does just that: written by a program of this session; no condition. -/
import Derived.Test.YtgfbgbclpeihdaaXRc0
namespace Go.Proofs.Ytgfbgbclpeihdaa.XRc
open Go.RowKit Go.Proofs.YtgfbgbclpeihdaaW.PrintWords Go.Proofs.YtgfbgbclpeihdaaW.PrintLast Go.Proofs.YtgfbgbclpeihdaaW.PrintMore
attribute [local go_sem] max2_int min2_int max_two min_two max_three min_three max_four min_four   -- for this text's walks alone
set_option linter.unusedVariables false
set_option linter.unusedSimpArgs false
def opOf (x : S44) : Li.LOp:=⟨x.f0,x.f1,x.f2,x.f3,x.f4⟩
def progOf (l : List (List S44)) : List (List Li.LOp):=l.map (·.map opOf)
theorem ops_at {w : World} {A : Option Addr} {l : List S44} (h : Kd.C k44 w A l.length l) : Li.OAt w A (l.map opOf):=by
 intro j hj
 rw [List.length_map] at hj
 obtain ⟨ad,e,h0,h1,h2,h3,h4⟩:=at_T44 h (j : Int) (by omega) (by omega)
 have hx : rd_T44 l (j : Int) = l[j]:=by unfold rd_T44;rw [Int.toNat_natCast,List.getD_eq_getElem?_getD,List.getElem?_eq_getElem hj];rfl
 rw [hx,Int.toNat_natCast] at h0 h1 h2 h3 h4
 refine ⟨ad,e,?_,?_,?_,?_,?_⟩
 · rw [List.getElem_map];exact h0
 · rw [List.getElem_map,Li.add_field ad (j * 5) 1 (by decide)];exact h1
 · rw [List.getElem_map,Li.add_field ad (j * 5) 2 (by decide)];exact h2
 · rw [List.getElem_map,Li.add_field ad (j * 5) 3 (by decide)];exact h3
 · rw [List.getElem_map,Li.add_field ad (j * 5) 4 (by decide)];exact h4
theorem prog_at {w : World} {A : Option Addr} {l : List (List S44)} (h : Kd.C (Kd.slice 44 k44) w A l.length l) : Li.PAt w A (progOf l):=by
 intro t ht
 have ht' : t < l.length:=by unfold progOf at ht;rwa [List.length_map] at ht
 obtain ⟨ad,A0,c0,e,h0,h1,h2⟩:=at_L2 h (t : Int) (by omega) (by omega)
 have hx : rd_L2 l (t : Int) = l[t]:=by unfold rd_L2;rw [Int.toNat_natCast,List.getD_eq_getElem?_getD,List.getElem?_eq_getElem ht'];rfl
 rw [hx] at h0 h1 h2
 rw [Int.toNat_natCast] at h0
 have hg : (progOf l)[t] = l[t].map opOf:=by simp [progOf]
 refine ⟨ad,A0,c0,e,?_,?_,?_⟩
 · rw [hg,List.length_map];exact h0
 · rw [hg,List.length_map];exact h1
 · rw [hg];exact ops_at h2
theorem prog_len (l : List (List S44)) : (progOf l).length = l.length:=by simp [progOf]
def litmus_Check.f (l0 : List (List S44)) : Option Int:=if (progOf l0).flatten.length ≤ 1000000 ∧ l0.length ≤ 1000000 then some (Li.checkL (progOf l0)) else none
theorem litmus_Check.calls (A0_0 : Option Addr) (c0_0 : Nat) (l0_0 : List (List S44)) (r : Int) (w : World) (hr0_0 : Kd.C (Kd.slice 44 k44) w A0_0 l0_0.length l0_0) (hc0_0 : l0_0.length ≤ c0_0) (h : litmus_Check.f l0_0 = some r) :
 Calls Try.prog 14 #[.agg #[.slice A0_0 l0_0.length c0_0]] w fun e w'=>e = .returned (.int .i64 r) ∧ Below w.heap.size w w':=by
 unfold litmus_Check.f at h
 by_cases h10 : (progOf l0_0).flatten.length ≤ 1000000 ∧ l0_0.length ≤ 1000000
 · rw [if_pos h10] at h
   injection h with h
   subst h
   have:=Li.check_calls (progOf l0_0) A0_0 c0_0 w (prog_at hr0_0) h10.1 (by rw [prog_len];exact h10.2)
   rw [prog_len] at this
   exact this
 · rw [if_neg h10] at h;exact absurd h (by simp)
def locklessref03_may.j0 : Nat → Int → Int → Bool → Option (Bool)
 | 0,_,_,_=>none
 | k + 1,x0,x1,x10=>if x10 = true then (some false) else (if x0 = 0 then (if x1 = 0 then (some true) else (if x1 = 1 then (some true) else (some (x1 == 4)))) else (if x0 = 1 then (if x1 = 0 then (some true) else (if x1 = 2 then (some true) else (some (x1 == 4)))) else (if x0 = 5 then (some (x1 != 0)) else (if x0 ≥ 2 then (some (decide (x0 ≤ 4))) else (some false)))))
def locklessref03_may.f (k : Nat) (a0 : Int) (a1 : Int) : Option (Bool):=if a1 < 0 then (locklessref03_may.j0 k a0 a1 true) else (locklessref03_may.j0 k a0 a1 (decide (a1 > 4)))
set_option maxHeartbeats 8000000 in
set_option maxRecDepth 100000 in
theorem locklessref03_may.calls (k : Nat) (a0 : Int) (a1 : Int) (r : Bool) (w : World) (h : locklessref03_may.f k a0 a1 = some r) :
 Calls Try.prog 65 #[.int .i64 a0,.int .i64 a1] w fun e w'=>e = .returned (.bool r) ∧ Drawn0 w w':=by
 have H : (if a1 < 0 then (locklessref03_may.j0 k a0 a1 true) else (locklessref03_may.j0 k a0 a1 (decide (a1 > 4)))) = some r:=h
 clear h
 have HC3:=Aside0.mk H
 clear H
 go_enter Try.func65,Try.ntmps65
 go_upto_region 1 with (fail)
 go_cut [10] (fun v10 wc=>∃ (kq : Nat) (x10_2 : Bool),v10 = .bool x10_2 ∧ Aside0 (locklessref03_may.j0 kq a0 a1 x10_2 = some r) ∧ Aside0 (kq ≤ k) ∧ Drawn0 w wc)
 case first=>
  have H:=HC3.out
  clear HC3
  by_cases c4 : a1 < 0
  · rw [if_pos c4] at H
    have c4b0 : decide (a1 < 0) = true:=decide_eq_true c4
    clear c4
    (first|rw [c4b0]|(simp only [i64_w,i32_w];rw [c4b0])|skip)
    have H':=Aside0.mk H
    clear H
    go_wp2
    go_meet
    case rel=>exact ⟨_,(true),(by first|rfl|(simp;done)|(simp [*];done)),H',⟨by first|omega|exact Nat.le_refl _⟩,by repeat (first|exact Drawn0.refl _|apply Drawn0.step)⟩
  · rw [if_neg c4] at H
    have c4b0 : decide (a1 < 0) = false:=decide_eq_false c4
    clear c4
    (first|rw [c4b0]|(simp only [i64_w,i32_w];rw [c4b0])|skip)
    have H':=Aside0.mk H
    clear H
    go_wp2
    go_meet
    case rel=>exact ⟨_,(decide (a1 > 4)),(by first|rfl|(simp;done)|(simp [*];done)),H',⟨by first|omega|exact Nat.le_refl _⟩,by repeat (first|exact Drawn0.refl _|apply Drawn0.step)⟩
 case rest=>
  clear HC3
  (try clear p2);(try clear c4);(try clear c4b0)
  obtain ⟨kq,x10_2,rfl,HA,HJ2,⟨mc2,rfl⟩⟩:=hcut
  cases kq with
  | zero=>exact absurd HA.out (by simp [locklessref03_may.j0])
  | succ kj2=>
   have H:=HA.out
   clear HA
   simp only [locklessref03_may.j0] at H
   by_cases c5 : x10_2 = true
   · subst c5
     have H1 : (some false) = some r:=by rw [if_pos rfl] at H;exact H
     clear H
     have H:=H1
     clear H1
     obtain rfl:=Option.some.inj H
     go_wp2
     go_ret
     exact ⟨by first|rfl|(simp;done)|(simp [*];done),by repeat (first|exact Drawn0.refl _|apply Drawn0.step)⟩
   · replace c5:=Bool.eq_false_iff.mpr c5
     subst c5
     have H1 : (if a0 = 0 then (if a1 = 0 then (some true) else (if a1 = 1 then (some true) else (some (a1 == 4)))) else (if a0 = 1 then (if a1 = 0 then (some true) else (if a1 = 2 then (some true) else (some (a1 == 4)))) else (if a0 = 5 then (some (a1 != 0)) else (if a0 ≥ 2 then (some (decide (a0 ≤ 4))) else (some false))))) = some r:=by rw [if_neg (show ¬ (false = true) by decide)] at H;exact H
     clear H
     have H:=H1
     clear H1
     by_cases c6 : a0 = 0
     · rw [if_pos c6] at H
       have c6b0 : (a0 == 0) = true:=beq_iff_eq.mpr c6
       have c6b1 : (a0 != 0) = false:=bne_eq_false_iff_eq.mpr c6
       clear c6
       by_cases c7 : a1 = 0
       · rw [if_pos c7] at H
         have c7b0 : (a1 == 0) = true:=beq_iff_eq.mpr c7
         have c7b1 : (a1 != 0) = false:=bne_eq_false_iff_eq.mpr c7
         clear c7
         obtain rfl:=Option.some.inj H
         go_wp2
         go_ret
         exact ⟨by first|rfl|(simp;done)|(simp [*];done),by repeat (first|exact Drawn0.refl _|apply Drawn0.step)⟩
       · rw [if_neg c7] at H
         have c7b0 : (a1 == 0) = false:=beq_eq_false_iff_ne.mpr c7
         have c7b1 : (a1 != 0) = true:=bne_iff_ne.mpr c7
         by_cases c8 : a1 = 1
         · rw [if_pos c8] at H
           have c8b0 : (a1 == 1) = true:=beq_iff_eq.mpr c8
           have c8b1 : (a1 != 1) = false:=bne_eq_false_iff_eq.mpr c8
           clear c8
           obtain rfl:=Option.some.inj H
           go_wp2
           go_ret
           exact ⟨by first|rfl|(simp;done)|(simp [*];done),by repeat (first|exact Drawn0.refl _|apply Drawn0.step)⟩
         · rw [if_neg c8] at H
           have c8b0 : (a1 == 1) = false:=beq_eq_false_iff_ne.mpr c8
           have c8b1 : (a1 != 1) = true:=bne_iff_ne.mpr c8
           obtain rfl:=Option.some.inj H
           go_wp2
           go_ret
           exact ⟨by first|rfl|(simp;done)|(simp [*];done),by repeat (first|exact Drawn0.refl _|apply Drawn0.step)⟩
     · rw [if_neg c6] at H
       have c6b0 : (a0 == 0) = false:=beq_eq_false_iff_ne.mpr c6
       have c6b1 : (a0 != 0) = true:=bne_iff_ne.mpr c6
       by_cases c9 : a0 = 1
       · rw [if_pos c9] at H
         have c9b0 : (a0 == 1) = true:=beq_iff_eq.mpr c9
         have c9b1 : (a0 != 1) = false:=bne_eq_false_iff_eq.mpr c9
         clear c9
         by_cases c10 : a1 = 0
         · rw [if_pos c10] at H
           have c10b0 : (a1 == 0) = true:=beq_iff_eq.mpr c10
           have c10b1 : (a1 != 0) = false:=bne_eq_false_iff_eq.mpr c10
           clear c10
           obtain rfl:=Option.some.inj H
           go_wp2
           go_ret
           exact ⟨by first|rfl|(simp;done)|(simp [*];done),by repeat (first|exact Drawn0.refl _|apply Drawn0.step)⟩
         · rw [if_neg c10] at H
           have c10b0 : (a1 == 0) = false:=beq_eq_false_iff_ne.mpr c10
           have c10b1 : (a1 != 0) = true:=bne_iff_ne.mpr c10
           by_cases c11 : a1 = 2
           · rw [if_pos c11] at H
             have c11b0 : (a1 == 2) = true:=beq_iff_eq.mpr c11
             have c11b1 : (a1 != 2) = false:=bne_eq_false_iff_eq.mpr c11
             clear c11
             obtain rfl:=Option.some.inj H
             go_wp2
             go_ret
             exact ⟨by first|rfl|(simp;done)|(simp [*];done),by repeat (first|exact Drawn0.refl _|apply Drawn0.step)⟩
           · rw [if_neg c11] at H
             have c11b0 : (a1 == 2) = false:=beq_eq_false_iff_ne.mpr c11
             have c11b1 : (a1 != 2) = true:=bne_iff_ne.mpr c11
             obtain rfl:=Option.some.inj H
             go_wp2
             go_ret
             exact ⟨by first|rfl|(simp;done)|(simp [*];done),by repeat (first|exact Drawn0.refl _|apply Drawn0.step)⟩
       · rw [if_neg c9] at H
         have c9b0 : (a0 == 1) = false:=beq_eq_false_iff_ne.mpr c9
         have c9b1 : (a0 != 1) = true:=bne_iff_ne.mpr c9
         by_cases c12 : a0 = 5
         · rw [if_pos c12] at H
           have c12b0 : (a0 == 5) = true:=beq_iff_eq.mpr c12
           have c12b1 : (a0 != 5) = false:=bne_eq_false_iff_eq.mpr c12
           clear c12
           obtain rfl:=Option.some.inj H
           go_wp2
           go_ret
           exact ⟨by first|rfl|(simp;done)|(simp [*];done),by repeat (first|exact Drawn0.refl _|apply Drawn0.step)⟩
         · rw [if_neg c12] at H
           have c12b0 : (a0 == 5) = false:=beq_eq_false_iff_ne.mpr c12
           have c12b1 : (a0 != 5) = true:=bne_iff_ne.mpr c12
           by_cases c13 : a0 ≥ 2
           · rw [if_pos c13] at H
             have c13b0 : decide (2 ≤ a0) = true:=decide_eq_true c13
             clear c13
             obtain rfl:=Option.some.inj H
             go_wp2
             go_ret
             exact ⟨by first|rfl|(simp;done)|(simp [*];done),by repeat (first|exact Drawn0.refl _|apply Drawn0.step)⟩
           · rw [if_neg c13] at H
             have c13b0 : decide (2 ≤ a0) = false:=decide_eq_false c13
             clear c13
             obtain rfl:=Option.some.inj H
             go_wp2
             go_ret
             exact ⟨by first|rfl|(simp;done)|(simp [*];done),by repeat (first|exact Drawn0.refl _|apply Drawn0.step)⟩
def locklessref03_isOp.j0 : Nat → Bool → Int → Int → Int → Int → Int → Option (Bool)
 | 0,_,_,_,_,_,_=>none
 | k + 1,x18,x102000,x102001,x102002,x102003,x102004=>if x18 = true then (some false) else (if x102000 = 5 then (if x102001 = 0 then (if x102002 = 0 then (some (x102003 == 0)) else (some false)) else (some false)) else (if x102000 = 0 then (if x102002 = 0 then (some (x102003 == 0)) else (some false)) else (if x102000 = 1 then (if x102002 ≥ 0 then (if x102002 ≤ 9 then (some (x102003 == 0)) else (some false)) else (some false)) else (if x102000 = 2 then (if x102002 ≥ (-9) then (if x102002 ≤ 9 then (some (x102003 == 0)) else (some false)) else (some false)) else (if x102002 ≥ 0 then (if x102002 ≤ 9 then (if x102003 ≥ 0 then (some (decide (x102003 ≤ 9))) else (some false)) else (some false)) else (some false))))))
def locklessref03_isOp.f (k : Nat) (a0_0 : Int) (a0_1 : Int) (a0_2 : Int) (a0_3 : Int) (a0_4 : Int) : Option (Bool):=(locklessref03_may.f k a0_0 a0_4).bind fun t102=>(if t102 = true then (if a0_1 < 0 then (locklessref03_isOp.j0 k true a0_0 a0_1 a0_2 a0_3 a0_4) else (locklessref03_isOp.j0 k (decide (a0_1 ≥ 3)) a0_0 a0_1 a0_2 a0_3 a0_4)) else (locklessref03_isOp.j0 k true a0_0 a0_1 a0_2 a0_3 a0_4))
set_option maxHeartbeats 8000000 in
set_option maxRecDepth 100000 in
theorem locklessref03_isOp.calls (k : Nat) (a0_0 : Int) (a0_1 : Int) (a0_2 : Int) (a0_3 : Int) (a0_4 : Int) (r : Bool) (w : World) (h : locklessref03_isOp.f k a0_0 a0_1 a0_2 a0_3 a0_4 = some r) :
 Calls Try.prog 34 #[.agg #[.int .i64 a0_0,.int .i64 a0_1,.int .i64 a0_2,.int .i64 a0_3,.int .i64 a0_4]] w fun e w'=>e = .returned (.bool r) ∧ Below w.heap.size w w':=by
 have hu44:=Try.underlying44
 have HB:=Aside0.mk (Below.refl w.heap.size w)
 have H : ((locklessref03_may.f k a0_0 a0_4).bind fun t102=>(if t102 = true then (if a0_1 < 0 then (locklessref03_isOp.j0 k true a0_0 a0_1 a0_2 a0_3 a0_4) else (locklessref03_isOp.j0 k (decide (a0_1 ≥ 3)) a0_0 a0_1 a0_2 a0_3 a0_4)) else (locklessref03_isOp.j0 k true a0_0 a0_1 a0_2 a0_3 a0_4))) = some r:=h
 clear h
 have HC2:=Aside0.mk H
 clear H
 go_enter Try.func34,Try.ntmps34
 go_upto_region 1 with (first|((with_reducible refine gate_dst (N:=1) rfl ?_);refine box_event ?hg (N:=1) ?hd (cs:=#[.int .i64 a0_0,.int .i64 a0_1,.int .i64 a0_2,.int .i64 a0_3,.int .i64 a0_4]) (t:=44) ?hr ?_;(case hd=>rfl);(case hg=>rfl);(case hr=>first|(go_simp;done)|(go_simp;rfl));intro gb101 hg w3 hbox hb;have zT:=two_ hb (by repeat (first|(with_reducible first|exact HB.out|apply below_alloc|apply pw_below_drewN|apply below_drew1)|exact HB.out));have n0_:=Aside0.mk zT.1;have n1_:=Aside0.mk (hbox);have n2_:=Aside0.mk ((by rw [hg];exact zT.2 : w.heap.size ≤ gb101));have n3_:=n2_;clear zT;clear HB;have HB:=n0_;have BK101:=n1_;have GW101:=n2_;have GE101:=n3_;clear n0_ n1_ n2_ n3_;clear hb hbox hg))
 (try simp only [Act.put,List.setIfInBounds_toArray,List.set_cons_zero,List.set_cons_succ])
 go_cut [18] (fun v18 wc=>∃ (kq : Nat) (x18_1 : Bool),v18 = .bool x18_1 ∧ Aside0 (locklessref03_isOp.j0 kq x18_1 a0_0 a0_1 a0_2 a0_3 a0_4 = some r) ∧ Aside0 (kq ≤ k) ∧ Aside0 (wc.heap[gb101]? = some (.cells #[.int .i64 a0_0,.int .i64 a0_1,.int .i64 a0_2,.int .i64 a0_3,.int .i64 a0_4] 44 (0,0))) ∧ Aside0 (Below w.heap.size w wc))
 case first=>
  have H:=HC2.out
  clear HC2
  replace H:=Option.bind_eq_some_iff.mp H
  obtain ⟨t102,A40,H⟩:=H
  replace H : (if t102 = true then (if a0_1 < 0 then (locklessref03_isOp.j0 k true a0_0 a0_1 a0_2 a0_3 a0_4) else (locklessref03_isOp.j0 k (decide (a0_1 ≥ 3)) a0_0 a0_1 a0_2 a0_3 a0_4)) else (locklessref03_isOp.j0 k true a0_0 a0_1 a0_2 a0_3 a0_4)) = some r:=H
  have A4:=Aside0.mk A40
  clear A40
  by_cases c5 : t102 = true
  · subst c5
    have H1 : (if a0_1 < 0 then (locklessref03_isOp.j0 k true a0_0 a0_1 a0_2 a0_3 a0_4) else (locklessref03_isOp.j0 k (decide (a0_1 ≥ 3)) a0_0 a0_1 a0_2 a0_3 a0_4)) = some r:=by rw [if_pos rfl] at H;exact H
    clear H
    have H:=H1
    clear H1
    by_cases c6 : a0_1 < 0
    · rw [if_pos c6] at H
      have c6b0 : decide (a0_1 < 0) = true:=decide_eq_true c6
      clear c6
      (first|rw [c6b0]|(simp only [i64_w,i32_w];rw [c6b0])|skip)
      have H':=Aside0.mk H
      clear H
      have hcz7_0 : w3.cell? ⟨gb101,0,none⟩ = some (.int .i64 a0_0):=(blk_cell BK101.out 0).trans rfl
      have hcz7_1 : w3.cell? ⟨gb101,1,none⟩ = some (.int .i64 a0_1):=(blk_cell BK101.out 1).trans rfl
      have hcz7_2 : w3.cell? ⟨gb101,2,none⟩ = some (.int .i64 a0_2):=(blk_cell BK101.out 2).trans rfl
      have hcz7_3 : w3.cell? ⟨gb101,3,none⟩ = some (.int .i64 a0_3):=(blk_cell BK101.out 3).trans rfl
      have hcz7_4 : w3.cell? ⟨gb101,4,none⟩ = some (.int .i64 a0_4):=(blk_cell BK101.out 4).trans rfl
      have hfz7_0:=blk_frozen BK101.out 0
      have hfz7_1:=blk_frozen BK101.out 1
      have hfz7_2:=blk_frozen BK101.out 2
      have hfz7_3:=blk_frozen BK101.out 3
      have hfz7_4:=blk_frozen BK101.out 4
      go_wp2_with (first|((with_reducible refine gate_callee (f:=65) rfl ?_);refine goesL_ (some 7) rfl rfl Try.func65 (by kernel_rfl) rfl #[.int .i64 a0_0,.int .i64 a0_4] rfl (by (try simp only [List.map_toArray,List.map_cons,List.map_nil]);first|done|rfl|(simp only [List.length_drop,List.length_take];rfl)) ?_;(with_reducible refine (locklessref03_may.calls k a0_0 a0_4 true _ A4.out).mono ?_);rintro e w' ⟨rfl,⟨nd,rfl⟩⟩;refine ⟨_,rfl,?_⟩))
      go_meet
      case rel=>exact ⟨_,(true),(by first|rfl|(simp;done)|(simp [*];done)),H',⟨by first|omega|exact Nat.le_refl _⟩,⟨by (with_reducible repeat (first|apply kN|apply kD|apply kA));exact BK101.out⟩,⟨by repeat (first|(with_reducible first|exact HB.out|apply below_alloc|apply pw_below_drewN|apply below_drew1|refine below_set ?_ GE101.out)|exact HB.out)⟩⟩
    · rw [if_neg c6] at H
      have c6b0 : decide (a0_1 < 0) = false:=decide_eq_false c6
      clear c6
      (first|rw [c6b0]|(simp only [i64_w,i32_w];rw [c6b0])|skip)
      have H':=Aside0.mk H
      clear H
      have hcz8_0 : w3.cell? ⟨gb101,0,none⟩ = some (.int .i64 a0_0):=(blk_cell BK101.out 0).trans rfl
      have hcz8_1 : w3.cell? ⟨gb101,1,none⟩ = some (.int .i64 a0_1):=(blk_cell BK101.out 1).trans rfl
      have hcz8_2 : w3.cell? ⟨gb101,2,none⟩ = some (.int .i64 a0_2):=(blk_cell BK101.out 2).trans rfl
      have hcz8_3 : w3.cell? ⟨gb101,3,none⟩ = some (.int .i64 a0_3):=(blk_cell BK101.out 3).trans rfl
      have hcz8_4 : w3.cell? ⟨gb101,4,none⟩ = some (.int .i64 a0_4):=(blk_cell BK101.out 4).trans rfl
      have hfz8_0:=blk_frozen BK101.out 0
      have hfz8_1:=blk_frozen BK101.out 1
      have hfz8_2:=blk_frozen BK101.out 2
      have hfz8_3:=blk_frozen BK101.out 3
      have hfz8_4:=blk_frozen BK101.out 4
      go_wp2_with (first|((with_reducible refine gate_callee (f:=65) rfl ?_);refine goesL_ (some 7) rfl rfl Try.func65 (by kernel_rfl) rfl #[.int .i64 a0_0,.int .i64 a0_4] rfl (by (try simp only [List.map_toArray,List.map_cons,List.map_nil]);first|done|rfl|(simp only [List.length_drop,List.length_take];rfl)) ?_;(with_reducible refine (locklessref03_may.calls k a0_0 a0_4 true _ A4.out).mono ?_);rintro e w' ⟨rfl,⟨nd,rfl⟩⟩;refine ⟨_,rfl,?_⟩))
      go_meet
      case rel=>exact ⟨_,(decide (a0_1 ≥ 3)),(by first|rfl|(simp;done)|(simp [*];done)),H',⟨by first|omega|exact Nat.le_refl _⟩,⟨by (with_reducible repeat (first|apply kN|apply kD|apply kA));exact BK101.out⟩,⟨by repeat (first|(with_reducible first|exact HB.out|apply below_alloc|apply pw_below_drewN|apply below_drew1|refine below_set ?_ GE101.out)|exact HB.out)⟩⟩
  · replace c5:=Bool.eq_false_iff.mpr c5
    subst c5
    have H1 : (locklessref03_isOp.j0 k true a0_0 a0_1 a0_2 a0_3 a0_4) = some r:=by rw [if_neg (show ¬ (false = true) by decide)] at H;exact H
    clear H
    have H:=H1
    clear H1
    have H':=Aside0.mk H
    clear H
    have hcz9_0 : w3.cell? ⟨gb101,0,none⟩ = some (.int .i64 a0_0):=(blk_cell BK101.out 0).trans rfl
    have hcz9_1 : w3.cell? ⟨gb101,1,none⟩ = some (.int .i64 a0_1):=(blk_cell BK101.out 1).trans rfl
    have hcz9_2 : w3.cell? ⟨gb101,2,none⟩ = some (.int .i64 a0_2):=(blk_cell BK101.out 2).trans rfl
    have hcz9_3 : w3.cell? ⟨gb101,3,none⟩ = some (.int .i64 a0_3):=(blk_cell BK101.out 3).trans rfl
    have hcz9_4 : w3.cell? ⟨gb101,4,none⟩ = some (.int .i64 a0_4):=(blk_cell BK101.out 4).trans rfl
    have hfz9_0:=blk_frozen BK101.out 0
    have hfz9_1:=blk_frozen BK101.out 1
    have hfz9_2:=blk_frozen BK101.out 2
    have hfz9_3:=blk_frozen BK101.out 3
    have hfz9_4:=blk_frozen BK101.out 4
    go_wp2_with (first|((with_reducible refine gate_callee (f:=65) rfl ?_);refine goesL_ (some 7) rfl rfl Try.func65 (by kernel_rfl) rfl #[.int .i64 a0_0,.int .i64 a0_4] rfl (by (try simp only [List.map_toArray,List.map_cons,List.map_nil]);first|done|rfl|(simp only [List.length_drop,List.length_take];rfl)) ?_;(with_reducible refine (locklessref03_may.calls k a0_0 a0_4 false _ A4.out).mono ?_);rintro e w' ⟨rfl,⟨nd,rfl⟩⟩;refine ⟨_,rfl,?_⟩))
    go_meet
    case rel=>exact ⟨_,(true),(by first|rfl|(simp;done)|(simp [*];done)),H',⟨by first|omega|exact Nat.le_refl _⟩,⟨by (with_reducible repeat (first|apply kN|apply kD|apply kA));exact BK101.out⟩,⟨by repeat (first|(with_reducible first|exact HB.out|apply below_alloc|apply pw_below_drewN|apply below_drew1|refine below_set ?_ GE101.out)|exact HB.out)⟩⟩
 case rest=>
  clear HC2
  (try clear p2);(try clear c3);(try clear c5);(try clear c6);(try clear c6b0);(try clear hcz7_0);(try clear hcz7_1);(try clear hcz7_2);(try clear hcz7_3);(try clear hcz7_4);(try clear hcz8_0);(try clear hcz8_1);(try clear hcz8_2);(try clear hcz8_3);(try clear hcz8_4);(try clear hcz9_0);(try clear hcz9_1);(try clear hcz9_2);(try clear hcz9_3);(try clear hcz9_4);(try clear hfz7_0);(try clear hfz7_1);(try clear hfz7_2);(try clear hfz7_3);(try clear hfz7_4);(try clear hfz8_0);(try clear hfz8_1);(try clear hfz8_2);(try clear hfz8_3);(try clear hfz8_4);(try clear hfz9_0);(try clear hfz9_1);(try clear hfz9_2);(try clear hfz9_3);(try clear hfz9_4)
  obtain ⟨kq,x18_1,rfl,HA,HJ1,BK101,HB⟩:=hcut
  cases kq with
  | zero=>exact absurd HA.out (by simp [locklessref03_isOp.j0])
  | succ kj1=>
   have H:=HA.out
   clear HA
   simp only [locklessref03_isOp.j0] at H
   by_cases c10 : x18_1 = true
   · subst c10
     have H1 : (some false) = some r:=by rw [if_pos rfl] at H;exact H
     clear H
     have H:=H1
     clear H1
     obtain rfl:=Option.some.inj H
     go_wp2
     go_ret
     exact ⟨by first|rfl|(simp [errW_none,errW_some] <;> rfl)|(simp [*,errW_none,errW_some] <;> rfl),by repeat (first|(with_reducible first|exact HB.out|apply below_alloc|apply pw_below_drewN|apply below_drew1|refine below_set ?_ GE101.out)|exact HB.out)⟩
   · replace c10:=Bool.eq_false_iff.mpr c10
     subst c10
     have H1 : (if a0_0 = 5 then (if a0_1 = 0 then (if a0_2 = 0 then (some (a0_3 == 0)) else (some false)) else (some false)) else (if a0_0 = 0 then (if a0_2 = 0 then (some (a0_3 == 0)) else (some false)) else (if a0_0 = 1 then (if a0_2 ≥ 0 then (if a0_2 ≤ 9 then (some (a0_3 == 0)) else (some false)) else (some false)) else (if a0_0 = 2 then (if a0_2 ≥ (-9) then (if a0_2 ≤ 9 then (some (a0_3 == 0)) else (some false)) else (some false)) else (if a0_2 ≥ 0 then (if a0_2 ≤ 9 then (if a0_3 ≥ 0 then (some (decide (a0_3 ≤ 9))) else (some false)) else (some false)) else (some false)))))) = some r:=by rw [if_neg (show ¬ (false = true) by decide)] at H;exact H
     clear H
     have H:=H1
     clear H1
     by_cases c11 : a0_0 = 5
     · rw [if_pos c11] at H
       have c11b0 : (a0_0 == 5) = true:=beq_iff_eq.mpr c11
       have c11b1 : (a0_0 != 5) = false:=bne_eq_false_iff_eq.mpr c11
       clear c11
       by_cases c12 : a0_1 = 0
       · rw [if_pos c12] at H
         have c12b0 : (a0_1 == 0) = true:=beq_iff_eq.mpr c12
         have c12b1 : (a0_1 != 0) = false:=bne_eq_false_iff_eq.mpr c12
         clear c12
         by_cases c13 : a0_2 = 0
         · rw [if_pos c13] at H
           have c13b0 : (a0_2 == 0) = true:=beq_iff_eq.mpr c13
           have c13b1 : (a0_2 != 0) = false:=bne_eq_false_iff_eq.mpr c13
           clear c13
           obtain rfl:=Option.some.inj H
           have hcz14_0 : wc.cell? ⟨gb101,0,none⟩ = some (.int .i64 a0_0):=(blk_cell BK101.out 0).trans rfl
           have hcz14_1 : wc.cell? ⟨gb101,1,none⟩ = some (.int .i64 a0_1):=(blk_cell BK101.out 1).trans rfl
           have hcz14_2 : wc.cell? ⟨gb101,2,none⟩ = some (.int .i64 a0_2):=(blk_cell BK101.out 2).trans rfl
           have hcz14_3 : wc.cell? ⟨gb101,3,none⟩ = some (.int .i64 a0_3):=(blk_cell BK101.out 3).trans rfl
           have hcz14_4 : wc.cell? ⟨gb101,4,none⟩ = some (.int .i64 a0_4):=(blk_cell BK101.out 4).trans rfl
           have hfz14_0:=blk_frozen BK101.out 0
           have hfz14_1:=blk_frozen BK101.out 1
           have hfz14_2:=blk_frozen BK101.out 2
           have hfz14_3:=blk_frozen BK101.out 3
           have hfz14_4:=blk_frozen BK101.out 4
           go_wp2
           go_ret
           exact ⟨by first|rfl|(simp [errW_none,errW_some] <;> rfl)|(simp [*,errW_none,errW_some] <;> rfl),by repeat (first|(with_reducible first|exact HB.out|apply below_alloc|apply pw_below_drewN|apply below_drew1|refine below_set ?_ GE101.out)|exact HB.out)⟩
         · rw [if_neg c13] at H
           have c13b0 : (a0_2 == 0) = false:=beq_eq_false_iff_ne.mpr c13
           have c13b1 : (a0_2 != 0) = true:=bne_iff_ne.mpr c13
           obtain rfl:=Option.some.inj H
           have hcz15_0 : wc.cell? ⟨gb101,0,none⟩ = some (.int .i64 a0_0):=(blk_cell BK101.out 0).trans rfl
           have hcz15_1 : wc.cell? ⟨gb101,1,none⟩ = some (.int .i64 a0_1):=(blk_cell BK101.out 1).trans rfl
           have hcz15_2 : wc.cell? ⟨gb101,2,none⟩ = some (.int .i64 a0_2):=(blk_cell BK101.out 2).trans rfl
           have hcz15_3 : wc.cell? ⟨gb101,3,none⟩ = some (.int .i64 a0_3):=(blk_cell BK101.out 3).trans rfl
           have hcz15_4 : wc.cell? ⟨gb101,4,none⟩ = some (.int .i64 a0_4):=(blk_cell BK101.out 4).trans rfl
           have hfz15_0:=blk_frozen BK101.out 0
           have hfz15_1:=blk_frozen BK101.out 1
           have hfz15_2:=blk_frozen BK101.out 2
           have hfz15_3:=blk_frozen BK101.out 3
           have hfz15_4:=blk_frozen BK101.out 4
           go_wp2
           go_ret
           exact ⟨by first|rfl|(simp [errW_none,errW_some] <;> rfl)|(simp [*,errW_none,errW_some] <;> rfl),by repeat (first|(with_reducible first|exact HB.out|apply below_alloc|apply pw_below_drewN|apply below_drew1|refine below_set ?_ GE101.out)|exact HB.out)⟩
       · rw [if_neg c12] at H
         have c12b0 : (a0_1 == 0) = false:=beq_eq_false_iff_ne.mpr c12
         have c12b1 : (a0_1 != 0) = true:=bne_iff_ne.mpr c12
         obtain rfl:=Option.some.inj H
         have hcz16_0 : wc.cell? ⟨gb101,0,none⟩ = some (.int .i64 a0_0):=(blk_cell BK101.out 0).trans rfl
         have hcz16_1 : wc.cell? ⟨gb101,1,none⟩ = some (.int .i64 a0_1):=(blk_cell BK101.out 1).trans rfl
         have hcz16_2 : wc.cell? ⟨gb101,2,none⟩ = some (.int .i64 a0_2):=(blk_cell BK101.out 2).trans rfl
         have hcz16_3 : wc.cell? ⟨gb101,3,none⟩ = some (.int .i64 a0_3):=(blk_cell BK101.out 3).trans rfl
         have hcz16_4 : wc.cell? ⟨gb101,4,none⟩ = some (.int .i64 a0_4):=(blk_cell BK101.out 4).trans rfl
         have hfz16_0:=blk_frozen BK101.out 0
         have hfz16_1:=blk_frozen BK101.out 1
         have hfz16_2:=blk_frozen BK101.out 2
         have hfz16_3:=blk_frozen BK101.out 3
         have hfz16_4:=blk_frozen BK101.out 4
         go_wp2
         go_ret
         exact ⟨by first|rfl|(simp [errW_none,errW_some] <;> rfl)|(simp [*,errW_none,errW_some] <;> rfl),by repeat (first|(with_reducible first|exact HB.out|apply below_alloc|apply pw_below_drewN|apply below_drew1|refine below_set ?_ GE101.out)|exact HB.out)⟩
     · rw [if_neg c11] at H
       have c11b0 : (a0_0 == 5) = false:=beq_eq_false_iff_ne.mpr c11
       have c11b1 : (a0_0 != 5) = true:=bne_iff_ne.mpr c11
       by_cases c17 : a0_0 = 0
       · rw [if_pos c17] at H
         have c17b0 : (a0_0 == 0) = true:=beq_iff_eq.mpr c17
         have c17b1 : (a0_0 != 0) = false:=bne_eq_false_iff_eq.mpr c17
         clear c17
         by_cases c18 : a0_2 = 0
         · rw [if_pos c18] at H
           have c18b0 : (a0_2 == 0) = true:=beq_iff_eq.mpr c18
           have c18b1 : (a0_2 != 0) = false:=bne_eq_false_iff_eq.mpr c18
           clear c18
           obtain rfl:=Option.some.inj H
           have hcz19_0 : wc.cell? ⟨gb101,0,none⟩ = some (.int .i64 a0_0):=(blk_cell BK101.out 0).trans rfl
           have hcz19_1 : wc.cell? ⟨gb101,1,none⟩ = some (.int .i64 a0_1):=(blk_cell BK101.out 1).trans rfl
           have hcz19_2 : wc.cell? ⟨gb101,2,none⟩ = some (.int .i64 a0_2):=(blk_cell BK101.out 2).trans rfl
           have hcz19_3 : wc.cell? ⟨gb101,3,none⟩ = some (.int .i64 a0_3):=(blk_cell BK101.out 3).trans rfl
           have hcz19_4 : wc.cell? ⟨gb101,4,none⟩ = some (.int .i64 a0_4):=(blk_cell BK101.out 4).trans rfl
           have hfz19_0:=blk_frozen BK101.out 0
           have hfz19_1:=blk_frozen BK101.out 1
           have hfz19_2:=blk_frozen BK101.out 2
           have hfz19_3:=blk_frozen BK101.out 3
           have hfz19_4:=blk_frozen BK101.out 4
           go_wp2
           go_ret
           exact ⟨by first|rfl|(simp [errW_none,errW_some] <;> rfl)|(simp [*,errW_none,errW_some] <;> rfl),by repeat (first|(with_reducible first|exact HB.out|apply below_alloc|apply pw_below_drewN|apply below_drew1|refine below_set ?_ GE101.out)|exact HB.out)⟩
         · rw [if_neg c18] at H
           have c18b0 : (a0_2 == 0) = false:=beq_eq_false_iff_ne.mpr c18
           have c18b1 : (a0_2 != 0) = true:=bne_iff_ne.mpr c18
           obtain rfl:=Option.some.inj H
           have hcz20_0 : wc.cell? ⟨gb101,0,none⟩ = some (.int .i64 a0_0):=(blk_cell BK101.out 0).trans rfl
           have hcz20_1 : wc.cell? ⟨gb101,1,none⟩ = some (.int .i64 a0_1):=(blk_cell BK101.out 1).trans rfl
           have hcz20_2 : wc.cell? ⟨gb101,2,none⟩ = some (.int .i64 a0_2):=(blk_cell BK101.out 2).trans rfl
           have hcz20_3 : wc.cell? ⟨gb101,3,none⟩ = some (.int .i64 a0_3):=(blk_cell BK101.out 3).trans rfl
           have hcz20_4 : wc.cell? ⟨gb101,4,none⟩ = some (.int .i64 a0_4):=(blk_cell BK101.out 4).trans rfl
           have hfz20_0:=blk_frozen BK101.out 0
           have hfz20_1:=blk_frozen BK101.out 1
           have hfz20_2:=blk_frozen BK101.out 2
           have hfz20_3:=blk_frozen BK101.out 3
           have hfz20_4:=blk_frozen BK101.out 4
           go_wp2
           go_ret
           exact ⟨by first|rfl|(simp [errW_none,errW_some] <;> rfl)|(simp [*,errW_none,errW_some] <;> rfl),by repeat (first|(with_reducible first|exact HB.out|apply below_alloc|apply pw_below_drewN|apply below_drew1|refine below_set ?_ GE101.out)|exact HB.out)⟩
       · rw [if_neg c17] at H
         have c17b0 : (a0_0 == 0) = false:=beq_eq_false_iff_ne.mpr c17
         have c17b1 : (a0_0 != 0) = true:=bne_iff_ne.mpr c17
         by_cases c21 : a0_0 = 1
         · rw [if_pos c21] at H
           have c21b0 : (a0_0 == 1) = true:=beq_iff_eq.mpr c21
           have c21b1 : (a0_0 != 1) = false:=bne_eq_false_iff_eq.mpr c21
           clear c21
           by_cases c22 : a0_2 ≥ 0
           · rw [if_pos c22] at H
             have c22b0 : decide (0 ≤ a0_2) = true:=decide_eq_true c22
             clear c22
             by_cases c23 : a0_2 ≤ 9
             · rw [if_pos c23] at H
               have c23b0 : decide (a0_2 ≤ 9) = true:=decide_eq_true c23
               clear c23
               obtain rfl:=Option.some.inj H
               have hcz24_0 : wc.cell? ⟨gb101,0,none⟩ = some (.int .i64 a0_0):=(blk_cell BK101.out 0).trans rfl
               have hcz24_1 : wc.cell? ⟨gb101,1,none⟩ = some (.int .i64 a0_1):=(blk_cell BK101.out 1).trans rfl
               have hcz24_2 : wc.cell? ⟨gb101,2,none⟩ = some (.int .i64 a0_2):=(blk_cell BK101.out 2).trans rfl
               have hcz24_3 : wc.cell? ⟨gb101,3,none⟩ = some (.int .i64 a0_3):=(blk_cell BK101.out 3).trans rfl
               have hcz24_4 : wc.cell? ⟨gb101,4,none⟩ = some (.int .i64 a0_4):=(blk_cell BK101.out 4).trans rfl
               have hfz24_0:=blk_frozen BK101.out 0
               have hfz24_1:=blk_frozen BK101.out 1
               have hfz24_2:=blk_frozen BK101.out 2
               have hfz24_3:=blk_frozen BK101.out 3
               have hfz24_4:=blk_frozen BK101.out 4
               go_wp2
               go_ret
               exact ⟨by first|rfl|(simp [errW_none,errW_some] <;> rfl)|(simp [*,errW_none,errW_some] <;> rfl),by repeat (first|(with_reducible first|exact HB.out|apply below_alloc|apply pw_below_drewN|apply below_drew1|refine below_set ?_ GE101.out)|exact HB.out)⟩
             · rw [if_neg c23] at H
               have c23b0 : decide (a0_2 ≤ 9) = false:=decide_eq_false c23
               clear c23
               obtain rfl:=Option.some.inj H
               have hcz25_0 : wc.cell? ⟨gb101,0,none⟩ = some (.int .i64 a0_0):=(blk_cell BK101.out 0).trans rfl
               have hcz25_1 : wc.cell? ⟨gb101,1,none⟩ = some (.int .i64 a0_1):=(blk_cell BK101.out 1).trans rfl
               have hcz25_2 : wc.cell? ⟨gb101,2,none⟩ = some (.int .i64 a0_2):=(blk_cell BK101.out 2).trans rfl
               have hcz25_3 : wc.cell? ⟨gb101,3,none⟩ = some (.int .i64 a0_3):=(blk_cell BK101.out 3).trans rfl
               have hcz25_4 : wc.cell? ⟨gb101,4,none⟩ = some (.int .i64 a0_4):=(blk_cell BK101.out 4).trans rfl
               have hfz25_0:=blk_frozen BK101.out 0
               have hfz25_1:=blk_frozen BK101.out 1
               have hfz25_2:=blk_frozen BK101.out 2
               have hfz25_3:=blk_frozen BK101.out 3
               have hfz25_4:=blk_frozen BK101.out 4
               go_wp2
               go_ret
               exact ⟨by first|rfl|(simp [errW_none,errW_some] <;> rfl)|(simp [*,errW_none,errW_some] <;> rfl),by repeat (first|(with_reducible first|exact HB.out|apply below_alloc|apply pw_below_drewN|apply below_drew1|refine below_set ?_ GE101.out)|exact HB.out)⟩
           · rw [if_neg c22] at H
             have c22b0 : decide (0 ≤ a0_2) = false:=decide_eq_false c22
             clear c22
             obtain rfl:=Option.some.inj H
             have hcz26_0 : wc.cell? ⟨gb101,0,none⟩ = some (.int .i64 a0_0):=(blk_cell BK101.out 0).trans rfl
             have hcz26_1 : wc.cell? ⟨gb101,1,none⟩ = some (.int .i64 a0_1):=(blk_cell BK101.out 1).trans rfl
             have hcz26_2 : wc.cell? ⟨gb101,2,none⟩ = some (.int .i64 a0_2):=(blk_cell BK101.out 2).trans rfl
             have hcz26_3 : wc.cell? ⟨gb101,3,none⟩ = some (.int .i64 a0_3):=(blk_cell BK101.out 3).trans rfl
             have hcz26_4 : wc.cell? ⟨gb101,4,none⟩ = some (.int .i64 a0_4):=(blk_cell BK101.out 4).trans rfl
             have hfz26_0:=blk_frozen BK101.out 0
             have hfz26_1:=blk_frozen BK101.out 1
             have hfz26_2:=blk_frozen BK101.out 2
             have hfz26_3:=blk_frozen BK101.out 3
             have hfz26_4:=blk_frozen BK101.out 4
             go_wp2
             go_ret
             exact ⟨by first|rfl|(simp [errW_none,errW_some] <;> rfl)|(simp [*,errW_none,errW_some] <;> rfl),by repeat (first|(with_reducible first|exact HB.out|apply below_alloc|apply pw_below_drewN|apply below_drew1|refine below_set ?_ GE101.out)|exact HB.out)⟩
         · rw [if_neg c21] at H
           have c21b0 : (a0_0 == 1) = false:=beq_eq_false_iff_ne.mpr c21
           have c21b1 : (a0_0 != 1) = true:=bne_iff_ne.mpr c21
           by_cases c27 : a0_0 = 2
           · rw [if_pos c27] at H
             have c27b0 : (a0_0 == 2) = true:=beq_iff_eq.mpr c27
             have c27b1 : (a0_0 != 2) = false:=bne_eq_false_iff_eq.mpr c27
             clear c27
             by_cases c28 : a0_2 ≥ (-9)
             · rw [if_pos c28] at H
               have c28b0 : decide ((-9) ≤ a0_2) = true:=decide_eq_true c28
               clear c28
               by_cases c29 : a0_2 ≤ 9
               · rw [if_pos c29] at H
                 have c29b0 : decide (a0_2 ≤ 9) = true:=decide_eq_true c29
                 clear c29
                 obtain rfl:=Option.some.inj H
                 have hcz30_0 : wc.cell? ⟨gb101,0,none⟩ = some (.int .i64 a0_0):=(blk_cell BK101.out 0).trans rfl
                 have hcz30_1 : wc.cell? ⟨gb101,1,none⟩ = some (.int .i64 a0_1):=(blk_cell BK101.out 1).trans rfl
                 have hcz30_2 : wc.cell? ⟨gb101,2,none⟩ = some (.int .i64 a0_2):=(blk_cell BK101.out 2).trans rfl
                 have hcz30_3 : wc.cell? ⟨gb101,3,none⟩ = some (.int .i64 a0_3):=(blk_cell BK101.out 3).trans rfl
                 have hcz30_4 : wc.cell? ⟨gb101,4,none⟩ = some (.int .i64 a0_4):=(blk_cell BK101.out 4).trans rfl
                 have hfz30_0:=blk_frozen BK101.out 0
                 have hfz30_1:=blk_frozen BK101.out 1
                 have hfz30_2:=blk_frozen BK101.out 2
                 have hfz30_3:=blk_frozen BK101.out 3
                 have hfz30_4:=blk_frozen BK101.out 4
                 go_wp2
                 go_ret
                 exact ⟨by first|rfl|(simp [errW_none,errW_some] <;> rfl)|(simp [*,errW_none,errW_some] <;> rfl),by repeat (first|(with_reducible first|exact HB.out|apply below_alloc|apply pw_below_drewN|apply below_drew1|refine below_set ?_ GE101.out)|exact HB.out)⟩
               · rw [if_neg c29] at H
                 have c29b0 : decide (a0_2 ≤ 9) = false:=decide_eq_false c29
                 clear c29
                 obtain rfl:=Option.some.inj H
                 have hcz31_0 : wc.cell? ⟨gb101,0,none⟩ = some (.int .i64 a0_0):=(blk_cell BK101.out 0).trans rfl
                 have hcz31_1 : wc.cell? ⟨gb101,1,none⟩ = some (.int .i64 a0_1):=(blk_cell BK101.out 1).trans rfl
                 have hcz31_2 : wc.cell? ⟨gb101,2,none⟩ = some (.int .i64 a0_2):=(blk_cell BK101.out 2).trans rfl
                 have hcz31_3 : wc.cell? ⟨gb101,3,none⟩ = some (.int .i64 a0_3):=(blk_cell BK101.out 3).trans rfl
                 have hcz31_4 : wc.cell? ⟨gb101,4,none⟩ = some (.int .i64 a0_4):=(blk_cell BK101.out 4).trans rfl
                 have hfz31_0:=blk_frozen BK101.out 0
                 have hfz31_1:=blk_frozen BK101.out 1
                 have hfz31_2:=blk_frozen BK101.out 2
                 have hfz31_3:=blk_frozen BK101.out 3
                 have hfz31_4:=blk_frozen BK101.out 4
                 go_wp2
                 go_ret
                 exact ⟨by first|rfl|(simp [errW_none,errW_some] <;> rfl)|(simp [*,errW_none,errW_some] <;> rfl),by repeat (first|(with_reducible first|exact HB.out|apply below_alloc|apply pw_below_drewN|apply below_drew1|refine below_set ?_ GE101.out)|exact HB.out)⟩
             · rw [if_neg c28] at H
               have c28b0 : decide ((-9) ≤ a0_2) = false:=decide_eq_false c28
               clear c28
               obtain rfl:=Option.some.inj H
               have hcz32_0 : wc.cell? ⟨gb101,0,none⟩ = some (.int .i64 a0_0):=(blk_cell BK101.out 0).trans rfl
               have hcz32_1 : wc.cell? ⟨gb101,1,none⟩ = some (.int .i64 a0_1):=(blk_cell BK101.out 1).trans rfl
               have hcz32_2 : wc.cell? ⟨gb101,2,none⟩ = some (.int .i64 a0_2):=(blk_cell BK101.out 2).trans rfl
               have hcz32_3 : wc.cell? ⟨gb101,3,none⟩ = some (.int .i64 a0_3):=(blk_cell BK101.out 3).trans rfl
               have hcz32_4 : wc.cell? ⟨gb101,4,none⟩ = some (.int .i64 a0_4):=(blk_cell BK101.out 4).trans rfl
               have hfz32_0:=blk_frozen BK101.out 0
               have hfz32_1:=blk_frozen BK101.out 1
               have hfz32_2:=blk_frozen BK101.out 2
               have hfz32_3:=blk_frozen BK101.out 3
               have hfz32_4:=blk_frozen BK101.out 4
               go_wp2
               go_ret
               exact ⟨by first|rfl|(simp [errW_none,errW_some] <;> rfl)|(simp [*,errW_none,errW_some] <;> rfl),by repeat (first|(with_reducible first|exact HB.out|apply below_alloc|apply pw_below_drewN|apply below_drew1|refine below_set ?_ GE101.out)|exact HB.out)⟩
           · rw [if_neg c27] at H
             have c27b0 : (a0_0 == 2) = false:=beq_eq_false_iff_ne.mpr c27
             have c27b1 : (a0_0 != 2) = true:=bne_iff_ne.mpr c27
             by_cases c33 : a0_2 ≥ 0
             · rw [if_pos c33] at H
               have c33b0 : decide (0 ≤ a0_2) = true:=decide_eq_true c33
               clear c33
               by_cases c34 : a0_2 ≤ 9
               · rw [if_pos c34] at H
                 have c34b0 : decide (a0_2 ≤ 9) = true:=decide_eq_true c34
                 clear c34
                 by_cases c35 : a0_3 ≥ 0
                 · rw [if_pos c35] at H
                   have c35b0 : decide (0 ≤ a0_3) = true:=decide_eq_true c35
                   clear c35
                   obtain rfl:=Option.some.inj H
                   have hcz36_0 : wc.cell? ⟨gb101,0,none⟩ = some (.int .i64 a0_0):=(blk_cell BK101.out 0).trans rfl
                   have hcz36_1 : wc.cell? ⟨gb101,1,none⟩ = some (.int .i64 a0_1):=(blk_cell BK101.out 1).trans rfl
                   have hcz36_2 : wc.cell? ⟨gb101,2,none⟩ = some (.int .i64 a0_2):=(blk_cell BK101.out 2).trans rfl
                   have hcz36_3 : wc.cell? ⟨gb101,3,none⟩ = some (.int .i64 a0_3):=(blk_cell BK101.out 3).trans rfl
                   have hcz36_4 : wc.cell? ⟨gb101,4,none⟩ = some (.int .i64 a0_4):=(blk_cell BK101.out 4).trans rfl
                   have hfz36_0:=blk_frozen BK101.out 0
                   have hfz36_1:=blk_frozen BK101.out 1
                   have hfz36_2:=blk_frozen BK101.out 2
                   have hfz36_3:=blk_frozen BK101.out 3
                   have hfz36_4:=blk_frozen BK101.out 4
                   go_wp2
                   go_ret
                   exact ⟨by first|rfl|(simp [errW_none,errW_some] <;> rfl)|(simp [*,errW_none,errW_some] <;> rfl),by repeat (first|(with_reducible first|exact HB.out|apply below_alloc|apply pw_below_drewN|apply below_drew1|refine below_set ?_ GE101.out)|exact HB.out)⟩
                 · rw [if_neg c35] at H
                   have c35b0 : decide (0 ≤ a0_3) = false:=decide_eq_false c35
                   clear c35
                   obtain rfl:=Option.some.inj H
                   have hcz37_0 : wc.cell? ⟨gb101,0,none⟩ = some (.int .i64 a0_0):=(blk_cell BK101.out 0).trans rfl
                   have hcz37_1 : wc.cell? ⟨gb101,1,none⟩ = some (.int .i64 a0_1):=(blk_cell BK101.out 1).trans rfl
                   have hcz37_2 : wc.cell? ⟨gb101,2,none⟩ = some (.int .i64 a0_2):=(blk_cell BK101.out 2).trans rfl
                   have hcz37_3 : wc.cell? ⟨gb101,3,none⟩ = some (.int .i64 a0_3):=(blk_cell BK101.out 3).trans rfl
                   have hcz37_4 : wc.cell? ⟨gb101,4,none⟩ = some (.int .i64 a0_4):=(blk_cell BK101.out 4).trans rfl
                   have hfz37_0:=blk_frozen BK101.out 0
                   have hfz37_1:=blk_frozen BK101.out 1
                   have hfz37_2:=blk_frozen BK101.out 2
                   have hfz37_3:=blk_frozen BK101.out 3
                   have hfz37_4:=blk_frozen BK101.out 4
                   go_wp2
                   go_ret
                   exact ⟨by first|rfl|(simp [errW_none,errW_some] <;> rfl)|(simp [*,errW_none,errW_some] <;> rfl),by repeat (first|(with_reducible first|exact HB.out|apply below_alloc|apply pw_below_drewN|apply below_drew1|refine below_set ?_ GE101.out)|exact HB.out)⟩
               · rw [if_neg c34] at H
                 have c34b0 : decide (a0_2 ≤ 9) = false:=decide_eq_false c34
                 clear c34
                 obtain rfl:=Option.some.inj H
                 have hcz38_0 : wc.cell? ⟨gb101,0,none⟩ = some (.int .i64 a0_0):=(blk_cell BK101.out 0).trans rfl
                 have hcz38_1 : wc.cell? ⟨gb101,1,none⟩ = some (.int .i64 a0_1):=(blk_cell BK101.out 1).trans rfl
                 have hcz38_2 : wc.cell? ⟨gb101,2,none⟩ = some (.int .i64 a0_2):=(blk_cell BK101.out 2).trans rfl
                 have hcz38_3 : wc.cell? ⟨gb101,3,none⟩ = some (.int .i64 a0_3):=(blk_cell BK101.out 3).trans rfl
                 have hcz38_4 : wc.cell? ⟨gb101,4,none⟩ = some (.int .i64 a0_4):=(blk_cell BK101.out 4).trans rfl
                 have hfz38_0:=blk_frozen BK101.out 0
                 have hfz38_1:=blk_frozen BK101.out 1
                 have hfz38_2:=blk_frozen BK101.out 2
                 have hfz38_3:=blk_frozen BK101.out 3
                 have hfz38_4:=blk_frozen BK101.out 4
                 go_wp2
                 go_ret
                 exact ⟨by first|rfl|(simp [errW_none,errW_some] <;> rfl)|(simp [*,errW_none,errW_some] <;> rfl),by repeat (first|(with_reducible first|exact HB.out|apply below_alloc|apply pw_below_drewN|apply below_drew1|refine below_set ?_ GE101.out)|exact HB.out)⟩
             · rw [if_neg c33] at H
               have c33b0 : decide (0 ≤ a0_2) = false:=decide_eq_false c33
               clear c33
               obtain rfl:=Option.some.inj H
               have hcz39_0 : wc.cell? ⟨gb101,0,none⟩ = some (.int .i64 a0_0):=(blk_cell BK101.out 0).trans rfl
               have hcz39_1 : wc.cell? ⟨gb101,1,none⟩ = some (.int .i64 a0_1):=(blk_cell BK101.out 1).trans rfl
               have hcz39_2 : wc.cell? ⟨gb101,2,none⟩ = some (.int .i64 a0_2):=(blk_cell BK101.out 2).trans rfl
               have hcz39_3 : wc.cell? ⟨gb101,3,none⟩ = some (.int .i64 a0_3):=(blk_cell BK101.out 3).trans rfl
               have hcz39_4 : wc.cell? ⟨gb101,4,none⟩ = some (.int .i64 a0_4):=(blk_cell BK101.out 4).trans rfl
               have hfz39_0:=blk_frozen BK101.out 0
               have hfz39_1:=blk_frozen BK101.out 1
               have hfz39_2:=blk_frozen BK101.out 2
               have hfz39_3:=blk_frozen BK101.out 3
               have hfz39_4:=blk_frozen BK101.out 4
               go_wp2
               go_ret
               exact ⟨by first|rfl|(simp [errW_none,errW_some] <;> rfl)|(simp [*,errW_none,errW_some] <;> rfl),by repeat (first|(with_reducible first|exact HB.out|apply below_alloc|apply pw_below_drewN|apply below_drew1|refine below_set ?_ GE101.out)|exact HB.out)⟩
def locklessref03_isAccess.f (a0_0 : Int) (a0_1 : Int) (a0_2 : Int) (a0_3 : Int) (a0_4 : Int) : Option (Bool):=if a0_0 ≥ 0 then (some (decide (a0_0 < 5))) else (some false)
set_option maxHeartbeats 8000000 in
set_option maxRecDepth 100000 in
theorem locklessref03_isAccess.calls (a0_0 : Int) (a0_1 : Int) (a0_2 : Int) (a0_3 : Int) (a0_4 : Int) (r : Bool) (w : World) (h : locklessref03_isAccess.f a0_0 a0_1 a0_2 a0_3 a0_4 = some r) :
 Calls Try.prog 35 #[.agg #[.int .i64 a0_0,.int .i64 a0_1,.int .i64 a0_2,.int .i64 a0_3,.int .i64 a0_4]] w fun e w'=>e = .returned (.bool r) ∧ Below w.heap.size w w':=by
 have hu44:=Try.underlying44
 have HB:=Aside0.mk (Below.refl w.heap.size w)
 have H : (if a0_0 ≥ 0 then (some (decide (a0_0 < 5))) else (some false)) = some r:=h
 clear h
 by_cases c2 : a0_0 ≥ 0
 · rw [if_pos c2] at H
   have c2b0 : decide (0 ≤ a0_0) = true:=decide_eq_true c2
   clear c2
   obtain rfl:=Option.some.inj H
   go_enter Try.func35,Try.ntmps35
   go_wp2_with (first|((with_reducible refine gate_dst (N:=1) rfl ?_);refine box_event ?hg (N:=1) ?hd (cs:=#[.int .i64 a0_0,.int .i64 a0_1,.int .i64 a0_2,.int .i64 a0_3,.int .i64 a0_4]) (t:=44) ?hr ?_;(case hd=>rfl);(case hg=>rfl);(case hr=>first|(go_simp;done)|(go_simp;rfl));intro gb103 hg w3 hbox hb;have zT:=two_ hb (by repeat (first|(with_reducible first|exact HB.out|apply below_alloc|apply pw_below_drewN|apply below_drew1)|exact HB.out));have n0_:=Aside0.mk zT.1;have n1_:=Aside0.mk (hbox);have n2_:=Aside0.mk ((by rw [hg];exact zT.2 : w.heap.size ≤ gb103));have n3_:=n2_;clear zT;clear HB;have HB:=n0_;have BK103:=n1_;have GW103:=n2_;have GE103:=n3_;clear n0_ n1_ n2_ n3_;clear hb hbox hg;have hcz4_0 : w3.cell? ⟨gb103,0,none⟩ = some (.int .i64 a0_0):=(blk_cell BK103.out 0).trans rfl;have hcz4_1 : w3.cell? ⟨gb103,1,none⟩ = some (.int .i64 a0_1):=(blk_cell BK103.out 1).trans rfl;have hcz4_2 : w3.cell? ⟨gb103,2,none⟩ = some (.int .i64 a0_2):=(blk_cell BK103.out 2).trans rfl;have hcz4_3 : w3.cell? ⟨gb103,3,none⟩ = some (.int .i64 a0_3):=(blk_cell BK103.out 3).trans rfl;have hcz4_4 : w3.cell? ⟨gb103,4,none⟩ = some (.int .i64 a0_4):=(blk_cell BK103.out 4).trans rfl;have hfz4_0:=blk_frozen BK103.out 0;have hfz4_1:=blk_frozen BK103.out 1;have hfz4_2:=blk_frozen BK103.out 2;have hfz4_3:=blk_frozen BK103.out 3;have hfz4_4:=blk_frozen BK103.out 4))
   go_ret
   exact ⟨by first|rfl|(simp [errW_none,errW_some] <;> rfl)|(simp [*,errW_none,errW_some] <;> rfl),by repeat (first|(with_reducible first|exact HB.out|apply below_alloc|apply pw_below_drewN|apply below_drew1|refine below_set ?_ GE103.out)|exact HB.out)⟩
 · rw [if_neg c2] at H
   have c2b0 : decide (0 ≤ a0_0) = false:=decide_eq_false c2
   clear c2
   obtain rfl:=Option.some.inj H
   go_enter Try.func35,Try.ntmps35
   go_wp2_with (first|((with_reducible refine gate_dst (N:=1) rfl ?_);refine box_event ?hg (N:=1) ?hd (cs:=#[.int .i64 a0_0,.int .i64 a0_1,.int .i64 a0_2,.int .i64 a0_3,.int .i64 a0_4]) (t:=44) ?hr ?_;(case hd=>rfl);(case hg=>rfl);(case hr=>first|(go_simp;done)|(go_simp;rfl));intro gb103 hg w5 hbox hb;have zT:=two_ hb (by repeat (first|(with_reducible first|exact HB.out|apply below_alloc|apply pw_below_drewN|apply below_drew1)|exact HB.out));have n0_:=Aside0.mk zT.1;have n1_:=Aside0.mk (hbox);have n2_:=Aside0.mk ((by rw [hg];exact zT.2 : w.heap.size ≤ gb103));have n3_:=n2_;clear zT;clear HB;have HB:=n0_;have BK103:=n1_;have GW103:=n2_;have GE103:=n3_;clear n0_ n1_ n2_ n3_;clear hb hbox hg;have hcz6_0 : w5.cell? ⟨gb103,0,none⟩ = some (.int .i64 a0_0):=(blk_cell BK103.out 0).trans rfl;have hcz6_1 : w5.cell? ⟨gb103,1,none⟩ = some (.int .i64 a0_1):=(blk_cell BK103.out 1).trans rfl;have hcz6_2 : w5.cell? ⟨gb103,2,none⟩ = some (.int .i64 a0_2):=(blk_cell BK103.out 2).trans rfl;have hcz6_3 : w5.cell? ⟨gb103,3,none⟩ = some (.int .i64 a0_3):=(blk_cell BK103.out 3).trans rfl;have hcz6_4 : w5.cell? ⟨gb103,4,none⟩ = some (.int .i64 a0_4):=(blk_cell BK103.out 4).trans rfl;have hfz6_0:=blk_frozen BK103.out 0;have hfz6_1:=blk_frozen BK103.out 1;have hfz6_2:=blk_frozen BK103.out 2;have hfz6_3:=blk_frozen BK103.out 3;have hfz6_4:=blk_frozen BK103.out 4))
   go_ret
   exact ⟨by first|rfl|(simp [errW_none,errW_some] <;> rfl)|(simp [*,errW_none,errW_some] <;> rfl),by repeat (first|(with_reducible first|exact HB.out|apply below_alloc|apply pw_below_drewN|apply below_drew1|refine below_set ?_ GE103.out)|exact HB.out)⟩
end Go.Proofs.Ytgfbgbclpeihdaa.XRc
