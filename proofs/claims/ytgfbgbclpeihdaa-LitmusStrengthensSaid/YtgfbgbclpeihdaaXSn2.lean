/- What the Go functions of this text compute, as plain Lean functions, and that the machine does just that: written by a program of this session; no condition. -/
import Derived.Test.YtgfbgbclpeihdaaXSn0
namespace Go.Proofs.Ytgfbgbclpeihdaa.XSn
open Go.RowKit Go.Proofs.YtgfbgbclpeihdaaW.PrintWords Go.Proofs.YtgfbgbclpeihdaaW.PrintLast Go.Proofs.YtgfbgbclpeihdaaW.PrintMore
attribute [local go_sem] max2_int min2_int max_two min_two max_three min_three max_four min_four   -- for this text's walks alone
set_option linter.unusedVariables false
set_option linter.unusedSimpArgs false
def locklesslaw03_Large.l0 : Nat → Int → Int → List (List (S44)) → Option (Bool)
 | 0,_,_,_=>none
 | k + 1,x3,x4,x102000=>if x4 < (x102000.length : Int) then (if x3 < 60 then (if 0 ≤ x4 then (locklesslaw03_Large.l0 k (wrap64 (x3 + ((rd_L2 x102000 x4).length : Int))) (wrap64 (x4 + 1)) x102000) else (none)) else (some (decide (x3 ≥ 60)))) else (some (decide (x3 ≥ 60)))
def locklesslaw03_Large.f (k : Nat) (l0_0 : List (List (S44))) : Option (Bool):=locklesslaw03_Large.l0 k (l0_0.length : Int) 0 l0_0
set_option maxHeartbeats 8000000 in
set_option maxRecDepth 100000 in
theorem locklesslaw03_Large.calls (k : Nat) (A0_0 : Option Addr) (c0_0 : Nat) (l0_0 : List (List (S44))) (r : Bool) (w : World) (hr0_0 : Kd.C (Kd.slice 44 k44) w A0_0 l0_0.length l0_0) (hc0_0 : l0_0.length ≤ c0_0) (h : locklesslaw03_Large.f k l0_0 = some r) :
 Calls Try.prog 9 #[.agg #[.slice A0_0 l0_0.length c0_0]] w fun e w'=>e = .returned (.bool r) ∧ Below w.heap.size w w':=by
 have hu24:=Try.underlying24
 have HR0_0:=Aside0.mk hr0_0
 have HC0_0:=Aside0.mk hc0_0
 clear hr0_0 hc0_0
 have HB:=Aside0.mk (Below.refl w.heap.size w)
 have H : (locklesslaw03_Large.l0 k (l0_0.length : Int) 0 l0_0) = some r:=h
 clear h
 have H':=Aside0.mk H
 clear H
 go_enter Try.func9,Try.ntmps9
 go_wp2_with (first|((with_reducible refine gate_dst (N:=1) rfl ?_);refine box_event ?hg (N:=1) ?hd (cs:=#[.slice A0_0 l0_0.length c0_0]) (t:=24) ?hr ?_;(case hd=>rfl);(case hg=>rfl);(case hr=>first|(go_simp;done)|(go_simp;rfl));intro gb101 hg w2 hbox hb;have zT:=two_ hb (by repeat (first|(with_reducible first|exact HB.out|apply below_alloc|apply pw_below_drewN|apply below_drew1)|exact HB.out));have n0_:=Aside0.mk zT.1;have n1_:=Aside0.mk (hbox);have n2_:=Aside0.mk ((by rw [hg];exact zT.2 : w.heap.size ≤ gb101));have n3_:=n2_;clear zT;clear HB;have HB:=n0_;have BK101:=n1_;have GW101:=n2_;have GE101:=n3_;clear n0_ n1_ n2_ n3_;clear hb hbox hg;have hcz3_0 : w2.cell? ⟨gb101,0,none⟩ = some (.slice A0_0 l0_0.length c0_0):=(blk_cell BK101.out 0).trans rfl;have hfz3_0:=blk_frozen BK101.out 0))
 go_loopg [3,4] k (fun kq v3 v4 w'=>∃ (x3_1 : Int) (x4_1 : Int),v3 = .int .i64 x3_1 ∧ v4 = .int .i64 x4_1 ∧ Aside0 (locklesslaw03_Large.l0 kq x3_1 x4_1 l0_0 = some r) ∧ Aside0 (kq ≤ k) ∧ Aside0 (w'.heap[gb101]? = some (.cells #[(.slice A0_0 l0_0.length c0_0)] 24 (0,0))) ∧ Aside0 (Below w.heap.size w w'))
 case atStart=>exact ⟨((l0_0.length : Int)),(0),(by first|rfl|(simp;done)|(simp [*];done)),(by first|rfl|(simp;done)|(simp [*];done)),H',⟨Nat.le_refl _⟩,⟨by (with_reducible repeat (first|apply kN|apply kD|apply kA));exact BK101.out⟩,⟨by repeat (first|(with_reducible first|exact HB.out|apply below_alloc|apply pw_below_drewN|apply below_drew1|refine below_set ?_ GE101.out)|exact HB.out)⟩⟩
 case round=>
  clear H'
  (try clear p2);(try clear hcz3_0);(try clear hfz3_0)
  obtain ⟨x3_1,x4_1,rfl,rfl,HA,HK1,BK101,HB⟩:=hrel
  cases gk with
  | zero=>exact absurd HA.out (by simp [locklesslaw03_Large.l0])
  | succ k1=>
   have H:=HA.out
   clear HA
   simp only [locklesslaw03_Large.l0] at H
   by_cases c4 : x4_1 < (l0_0.length : Int)
   · rw [if_pos c4] at H
     have c4b0 : decide (x4_1 < (l0_0.length : Int)) = true:=decide_eq_true c4
     clear c4
     by_cases c5 : x3_1 < 60
     · rw [if_pos c5] at H
       have c5b0 : decide (x3_1 < 60) = true:=decide_eq_true c5
       clear c5
       by_cases c6 : 0 ≤ x4_1
       · rw [if_pos c6] at H
         have c6b0 : decide (0 ≤ x4_1) = true:=decide_eq_true c6
         clear c6
         have H':=Aside0.mk H
         clear H
         have hcz7_0 : wr.cell? ⟨gb101,0,none⟩ = some (.slice A0_0 l0_0.length c0_0):=(blk_cell BK101.out 0).trans rfl
         have hfz7_0:=blk_frozen BK101.out 0
         have p102 : 0 ≤ (x4_1 : Int):=of_decide_eq_true (by first|(with_reducible assumption)|assumption)
         have q102 : x4_1 < (l0_0.length : Int):=of_decide_eq_true (by first|(with_reducible assumption)|assumption)
         obtain ⟨ad102,A102_0,c102_0,e102,hx102_0,hl102_0,hi102_0⟩:=at_L2 HR0_0.out x4_1 p102 q102
         cases e102
         replace hx102_0:=(HB.out.cell (World.block_lt_of_cell? w _ hx102_0)).trans hx102_0
         have HR102_0:=Aside0.mk hi102_0
         have HC102_0:=Aside0.mk hl102_0
         clear hi102_0 hl102_0
         replace p102:=eq_true p102
         replace q102:=eq_true q102
         go_wp2
         go_roundg k1
         case measure=>have:=HK1.out;omega
         case rel=>exact ⟨(wrap64 (x3_1 + ((rd_L2 l0_0 x4_1).length : Int))),(wrap64 (x4_1 + 1)),(by first|rfl|(simp;done)|(simp [*];done)),(by first|rfl|(simp;done)|(simp [*];done)),H',⟨by have:=HK1.out;omega⟩,⟨by (with_reducible repeat (first|apply kN|apply kD|apply kA));exact BK101.out⟩,⟨by repeat (first|(with_reducible first|exact HB.out|apply below_alloc|apply pw_below_drewN|apply below_drew1|refine below_set ?_ GE101.out)|exact HB.out)⟩⟩
       · rw [if_neg c6] at H
         exact absurd H (by simp)
     · rw [if_neg c5] at H
       have c5b0 : decide (x3_1 < 60) = false:=decide_eq_false c5
       clear c5
       obtain rfl:=Option.some.inj H
       have hcz8_0 : wr.cell? ⟨gb101,0,none⟩ = some (.slice A0_0 l0_0.length c0_0):=(blk_cell BK101.out 0).trans rfl
       have hfz8_0:=blk_frozen BK101.out 0
       go_wp2
       go_ret
       exact ⟨by first|rfl|(simp [errW_none,errW_some] <;> rfl)|(simp [*,errW_none,errW_some] <;> rfl),by repeat (first|(with_reducible first|exact HB.out|apply below_alloc|apply pw_below_drewN|apply below_drew1|refine below_set ?_ GE101.out)|exact HB.out)⟩
   · rw [if_neg c4] at H
     have c4b0 : decide (x4_1 < (l0_0.length : Int)) = false:=decide_eq_false c4
     clear c4
     obtain rfl:=Option.some.inj H
     have hcz9_0 : wr.cell? ⟨gb101,0,none⟩ = some (.slice A0_0 l0_0.length c0_0):=(blk_cell BK101.out 0).trans rfl
     have hfz9_0:=blk_frozen BK101.out 0
     go_wp2
     go_ret
     exact ⟨by first|rfl|(simp [errW_none,errW_some] <;> rfl)|(simp [*,errW_none,errW_some] <;> rfl),by repeat (first|(with_reducible first|exact HB.out|apply below_alloc|apply pw_below_drewN|apply below_drew1|refine below_set ?_ GE101.out)|exact HB.out)⟩
def opOf (x : S44) : Li.LOp:=⟨x.f0,x.f1,x.f2,x.f3,x.f4⟩
def progOf (l : List (List S44)) : List (List Li.LOp):=l.map (·.map opOf)
theorem ops_at {w : World} {A : Option Addr} {l : List S44} (h : Kd.C k44 w A l.length l) : Li.OAt w A (l.map opOf):=by
 intro j hj
 rw [List.length_map] at hj
 obtain ⟨ad,e,h0,h1,h2,h3,h4⟩:=at_T44 h (j : Int) (by omega) (by omega)
 have hx : rd_T44 l (j : Int) = l[j]:=by unfold rd_T44;rw [Int.toNat_natCast,List.getD_eq_getElem?_getD,List.getElem?_eq_getElem hj];rfl
 rw [hx,Int.toNat_natCast] at h0 h1 h2 h3 h4
 refine ⟨ad,e,?_,?_,?_,?_,?_⟩
 · rw [List.getElem_map];exact h0
 · rw [List.getElem_map,Li.add_field ad (j * 5) 1 (by decide)];exact h1
 · rw [List.getElem_map,Li.add_field ad (j * 5) 2 (by decide)];exact h2
 · rw [List.getElem_map,Li.add_field ad (j * 5) 3 (by decide)];exact h3
 · rw [List.getElem_map,Li.add_field ad (j * 5) 4 (by decide)];exact h4
theorem prog_at {w : World} {A : Option Addr} {l : List (List S44)} (h : Kd.C (Kd.slice 44 k44) w A l.length l) : Li.PAt w A (progOf l):=by
 intro t ht
 have ht' : t < l.length:=by unfold progOf at ht;rwa [List.length_map] at ht
 obtain ⟨ad,A0,c0,e,h0,h1,h2⟩:=at_L2 h (t : Int) (by omega) (by omega)
 have hx : rd_L2 l (t : Int) = l[t]:=by unfold rd_L2;rw [Int.toNat_natCast,List.getD_eq_getElem?_getD,List.getElem?_eq_getElem ht'];rfl
 rw [hx] at h0 h1 h2
 rw [Int.toNat_natCast] at h0
 have hg : (progOf l)[t] = l[t].map opOf:=by simp [progOf]
 refine ⟨ad,A0,c0,e,?_,?_,?_⟩
 · rw [hg,List.length_map];exact h0
 · rw [hg,List.length_map];exact h1
 · rw [hg];exact ops_at h2
theorem prog_len (l : List (List S44)) : (progOf l).length = l.length:=by simp [progOf]
def litmus_Check.f (l0 : List (List S44)) : Option Int:=if (progOf l0).flatten.length ≤ 1000000 ∧ l0.length ≤ 1000000 then some (Li.checkL (progOf l0)) else none
theorem litmus_Check.calls (A0_0 : Option Addr) (c0_0 : Nat) (l0_0 : List (List S44)) (r : Int) (w : World) (hr0_0 : Kd.C (Kd.slice 44 k44) w A0_0 l0_0.length l0_0) (hc0_0 : l0_0.length ≤ c0_0) (h : litmus_Check.f l0_0 = some r) :
 Calls Try.prog 14 #[.agg #[.slice A0_0 l0_0.length c0_0]] w fun e w'=>e = .returned (.int .i64 r) ∧ Below w.heap.size w w':=by
 unfold litmus_Check.f at h
 by_cases h10 : (progOf l0_0).flatten.length ≤ 1000000 ∧ l0_0.length ≤ 1000000
 · rw [if_pos h10] at h
   injection h with h
   subst h
   have:=Li.check_calls (progOf l0_0) A0_0 c0_0 w (prog_at hr0_0) h10.1 (by rw [prog_len];exact h10.2)
   rw [prog_len] at this
   exact this
 · rw [if_neg h10] at h;exact absurd h (by simp)
def litmus_Interleavings.f (l0 : List (List S44)) : Option (List (List Int) × Int):=if (progOf l0).flatten.length ≤ 1000000 ∧ l0.length ≤ 1000000 then some (if Li.checkL (progOf l0) = 0 then Li.sortU (Li.outAll (progOf l0)) else [],Li.checkL (progOf l0)) else none
theorem litmus_Interleavings.calls (A0_0 : Option Addr) (c0_0 : Nat) (l0_0 : List (List S44)) (r1 : List (List Int)) (r2 : Int) (w : World) (hr0_0 : Kd.C (Kd.slice 44 k44) w A0_0 l0_0.length l0_0) (hc0_0 : l0_0.length ≤ c0_0) (h : litmus_Interleavings.f l0_0 = some (r1,r2)) :
 Calls Try.prog 17 #[.agg #[.slice A0_0 l0_0.length c0_0]] w fun e w'=>∃ v0_ : Value,e = .returned (.tuple #[v0_,.int .i64 r2]) ∧ Kd.R (Kd.slice 3 (Kd.int .i64)) 46 w' w.heap.size (fun _=>True) v0_ r1 ∧ Below w.heap.size w w':=by
 unfold litmus_Interleavings.f at h
 by_cases h10 : (progOf l0_0).flatten.length ≤ 1000000 ∧ l0_0.length ≤ 1000000
 · rw [if_pos h10] at h
   simp only [Option.some.injEq,Prod.mk.injEq] at h
   obtain ⟨rfl,rfl⟩:=h
   have:=Li.inter_calls (progOf l0_0) A0_0 c0_0 w (prog_at hr0_0) h10.1 (by rw [prog_len];exact h10.2)
   rw [prog_len] at this
   exact this
 · rw [if_neg h10] at h;exact absurd h (by simp)
def locklessref01_Ints.l0 : Nat → List Int → List Int → Int → Option (Bool)
 | 0,_,_,_=>none
 | k + 1,x0,x1,x5=>if x5 < (x0.length : Int) then (if 0 ≤ x5 then (if x5 < (x1.length : Int) then (if (rd x0 x5) = (rd x1 x5) then (locklessref01_Ints.l0 k x0 x1 (wrap64 (x5 + 1))) else (some false)) else (none)) else (none)) else (some true)
def locklessref01_Ints.f (k : Nat) (l0 : List Int) (l1 : List Int) : Option (Bool):=if (l0.length : Int) = (l1.length : Int) then (locklessref01_Ints.l0 k l0 l1 0) else (some false)
theorem locklessref01_Ints.mono_l : ∀ k,(∀ y0 y1 y2,LeO (locklessref01_Ints.l0 k y0 y1 y2) (locklessref01_Ints.l0 (k + 1) y0 y1 y2))
 | 0=>fun _ _ _ r h=>by simp [locklessref01_Ints.l0] at h
 | k + 1=>by
  have ih0:=locklessref01_Ints.mono_l k
  · intro y0 y1 y2
    unfold locklessref01_Ints.l0
    repeat' first
    | (with_reducible exact ih0 _ _ _)
    | (with_reducible exact LeO.refl _)
    | (with_reducible exact LeO.none _)
    | (with_reducible refine LeO.ite ?_ ?_)
    | (with_reducible refine LeO.bind ?_ (fun _=>?_))
    | exact ih0 _ _ _
    | exact LeO.none _
    | refine LeO.ite ?_ ?_
    | refine LeO.bind ?_ (fun _=>?_)
theorem locklessref01_Ints.mono : ∀ a0 a1 k,LeO (locklessref01_Ints.f k a0 a1) (locklessref01_Ints.f (k + 1) a0 a1):=by
 intro a0 a1 k
 have ih0:=locklessref01_Ints.mono_l k
 unfold locklessref01_Ints.f
 repeat' first
  | (with_reducible exact ih0 _ _ _)
  | (with_reducible exact LeO.refl _)
  | (with_reducible exact LeO.none _)
  | (with_reducible refine LeO.ite ?_ ?_)
  | (with_reducible refine LeO.bind ?_ (fun _=>?_))
  | exact ih0 _ _ _
  | exact LeO.none _
  | refine LeO.ite ?_ ?_
  | refine LeO.bind ?_ (fun _=>?_)
set_option maxHeartbeats 8000000 in
set_option maxRecDepth 100000 in
theorem locklessref01_Ints.calls (k : Nat) (A0 : Option Addr) (c0 : Nat) (l0 : List Int) (A1 : Option Addr) (c1 : Nat) (l1 : List Int) (r : Bool) (w : World) (hr0 : Kd.C (Kd.int .i64) w A0 l0.length l0) (hc0 : l0.length ≤ c0) (hr1 : Kd.C (Kd.int .i64) w A1 l1.length l1) (hc1 : l1.length ≤ c1) (h : locklessref01_Ints.f k l0 l1 = some r) :
 Calls Try.prog 46 #[.slice A0 l0.length c0,.slice A1 l1.length c1] w fun e w'=>e = .returned (.bool r) ∧ Drawn0 w w':=by
 have HR0:=Aside0.mk hr0
 have HC0:=Aside0.mk hc0
 clear hr0 hc0
 have HR1:=Aside0.mk hr1
 have HC1:=Aside0.mk hc1
 clear hr1 hc1
 have H : (if (l0.length : Int) = (l1.length : Int) then (locklessref01_Ints.l0 k l0 l1 0) else (some false)) = some r:=h
 clear h
 by_cases c3 : (l0.length : Int) = (l1.length : Int)
 · rw [if_pos c3] at H
   have c3b0 : ((l0.length : Int) == (l1.length : Int)) = true:=beq_iff_eq.mpr c3
   have c3b1 : ((l0.length : Int) != (l1.length : Int)) = false:=bne_eq_false_iff_eq.mpr c3
   have c3b2 : (l0.length == l1.length) = true:=by first|simpa using c3|(simp at c3 ⊢;omega)
   clear c3
   have H':=Aside0.mk H
   clear H
   go_enter Try.func46,Try.ntmps46
   go_wp2
   repeat (go_quiet (fail);try go_wp2)
   go_loopg [5] k (fun kq v5 w'=>∃ (x5_1 : Int),v5 = .int .i64 x5_1 ∧ Aside0 (locklessref01_Ints.l0 kq l0 l1 x5_1 = some r) ∧ Aside0 (kq ≤ k) ∧ Drawn0 w w')
   case atStart=>exact ⟨(0),(by first|rfl|(simp;done)|(simp [*];done)),H',⟨Nat.le_refl _⟩,by repeat (first|exact Drawn0.refl _|apply Drawn0.step)⟩
   case round=>
    clear H'
    (try clear c1);(try clear p2);(try clear c3);(try clear c3b0);(try clear c3b1);(try clear c3b2)
    obtain ⟨x5_1,rfl,HA,HK1,⟨m1,rfl⟩⟩:=hrel
    cases gk with
    | zero=>exact absurd HA.out (by simp [locklessref01_Ints.l0])
    | succ k1=>
     have H:=HA.out
     clear HA
     simp only [locklessref01_Ints.l0] at H
     by_cases c4 : x5_1 < (l0.length : Int)
     · rw [if_pos c4] at H
       have c4b0 : decide (x5_1 < (l0.length : Int)) = true:=decide_eq_true c4
       clear c4
       by_cases c5 : 0 ≤ x5_1
       · rw [if_pos c5] at H
         have c5b0 : decide (0 ≤ x5_1) = true:=decide_eq_true c5
         clear c5
         by_cases c6 : x5_1 < (l1.length : Int)
         · rw [if_pos c6] at H
           have c6b0 : decide (x5_1 < (l1.length : Int)) = true:=decide_eq_true c6
           clear c6
           by_cases c7 : (rd l0 x5_1) = (rd l1 x5_1)
           · rw [if_pos c7] at H
             have c7b0 : ((rd l0 x5_1) == (rd l1 x5_1)) = true:=beq_iff_eq.mpr c7
             have c7b1 : ((rd l0 x5_1) != (rd l1 x5_1)) = false:=bne_eq_false_iff_eq.mpr c7
             clear c7
             have H':=Aside0.mk H
             clear H
             have p103 : 0 ≤ (x5_1 : Int):=of_decide_eq_true (by first|(with_reducible assumption)|assumption)
             have q103 : x5_1 < (l0.length : Int):=of_decide_eq_true (by first|(with_reducible assumption)|assumption)
             obtain ⟨ad103,e103,hx103_0⟩:=Kd.at_int HR0.out x5_1 p103 q103
             cases e103
             replace p103:=eq_true p103
             replace q103:=eq_true q103
             have p104 : 0 ≤ (x5_1 : Int):=of_decide_eq_true (by first|(with_reducible assumption)|assumption)
             have q104 : x5_1 < (l1.length : Int):=of_decide_eq_true (by first|(with_reducible assumption)|assumption)
             obtain ⟨ad104,e104,hx104_0⟩:=Kd.at_int HR1.out x5_1 p104 q104
             cases e104
             replace p104:=eq_true p104
             replace q104:=eq_true q104
             go_wp2
             repeat (go_quiet (fail);try go_wp2)
             go_roundg k1
             case measure=>have:=HK1.out;omega
             case rel=>exact ⟨(wrap64 (x5_1 + 1)),(by first|rfl|(simp;done)|(simp [*];done)),H',⟨by have:=HK1.out;omega⟩,by repeat (first|exact Drawn0.refl _|apply Drawn0.step)⟩
           · rw [if_neg c7] at H
             have c7b0 : ((rd l0 x5_1) == (rd l1 x5_1)) = false:=beq_eq_false_iff_ne.mpr c7
             have c7b1 : ((rd l0 x5_1) != (rd l1 x5_1)) = true:=bne_iff_ne.mpr c7
             obtain rfl:=Option.some.inj H
             have p103 : 0 ≤ (x5_1 : Int):=of_decide_eq_true (by first|(with_reducible assumption)|assumption)
             have q103 : x5_1 < (l0.length : Int):=of_decide_eq_true (by first|(with_reducible assumption)|assumption)
             obtain ⟨ad103,e103,hx103_0⟩:=Kd.at_int HR0.out x5_1 p103 q103
             cases e103
             replace p103:=eq_true p103
             replace q103:=eq_true q103
             have p104 : 0 ≤ (x5_1 : Int):=of_decide_eq_true (by first|(with_reducible assumption)|assumption)
             have q104 : x5_1 < (l1.length : Int):=of_decide_eq_true (by first|(with_reducible assumption)|assumption)
             obtain ⟨ad104,e104,hx104_0⟩:=Kd.at_int HR1.out x5_1 p104 q104
             cases e104
             replace p104:=eq_true p104
             replace q104:=eq_true q104
             go_wp2
             repeat (go_quiet (fail);try go_wp2)
             go_ret
             exact ⟨by first|rfl|(simp;done)|(simp [*];done),by repeat (first|exact Drawn0.refl _|apply Drawn0.step)⟩
         · rw [if_neg c6] at H
           exact absurd H (by simp)
       · rw [if_neg c5] at H
         exact absurd H (by simp)
     · rw [if_neg c4] at H
       have c4b0 : decide (x5_1 < (l0.length : Int)) = false:=decide_eq_false c4
       clear c4
       obtain rfl:=Option.some.inj H
       go_wp2
       repeat (go_quiet (fail);try go_wp2)
       go_ret
       exact ⟨by first|rfl|(simp;done)|(simp [*];done),by repeat (first|exact Drawn0.refl _|apply Drawn0.step)⟩
 · rw [if_neg c3] at H
   have c3b0 : ((l0.length : Int) == (l1.length : Int)) = false:=beq_eq_false_iff_ne.mpr c3
   have c3b1 : ((l0.length : Int) != (l1.length : Int)) = true:=bne_iff_ne.mpr c3
   have c3b2 : (l0.length == l1.length) = false:=by first|simpa using c3|(simp at c3 ⊢;omega)
   obtain rfl:=Option.some.inj H
   go_enter Try.func46,Try.ntmps46
   go_wp2
   repeat (go_quiet (fail);try go_wp2)
   go_ret
   exact ⟨by first|rfl|(simp;done)|(simp [*];done),by repeat (first|exact Drawn0.refl _|apply Drawn0.step)⟩
def locklessref01_Lists.l0 : Nat → List (List Int) → List (List Int) → Int → Option (Bool)
 | 0,_,_,_=>none
 | k + 1,x0,x1,x5=>if x5 < (x0.length : Int) then (if 0 ≤ x5 then (if x5 < (x1.length : Int) then ((locklessref01_Ints.f k (rd_L5 x0 x5) (rd_L5 x1 x5)).bind fun t107=>(if t107 = true then (locklessref01_Lists.l0 k x0 x1 (wrap64 (x5 + 1))) else (some false))) else (none)) else (none)) else (some true)
def locklessref01_Lists.f (k : Nat) (l0 : List (List Int)) (l1 : List (List Int)) : Option (Bool):=if (l0.length : Int) = (l1.length : Int) then (locklessref01_Lists.l0 k l0 l1 0) else (some false)
theorem locklessref01_Lists.mono_l : ∀ k,(∀ y0 y1 y2,LeO (locklessref01_Lists.l0 k y0 y1 y2) (locklessref01_Lists.l0 (k + 1) y0 y1 y2))
 | 0=>fun _ _ _ r h=>by simp [locklessref01_Lists.l0] at h
 | k + 1=>by
  have ih0:=locklessref01_Lists.mono_l k
  · intro y0 y1 y2
    unfold locklessref01_Lists.l0
    repeat' first
    | (with_reducible exact ih0 _ _ _)
    | (with_reducible exact locklessref01_Ints.mono _ _ _)
    | (with_reducible exact LeO.refl _)
    | (with_reducible exact LeO.none _)
    | (with_reducible refine LeO.ite ?_ ?_)
    | (with_reducible refine LeO.bind ?_ (fun _=>?_))
    | exact ih0 _ _ _
    | exact locklessref01_Ints.mono _ _ _
    | exact LeO.none _
    | refine LeO.ite ?_ ?_
    | refine LeO.bind ?_ (fun _=>?_)
theorem locklessref01_Lists.mono : ∀ a0 a1 k,LeO (locklessref01_Lists.f k a0 a1) (locklessref01_Lists.f (k + 1) a0 a1):=by
 intro a0 a1 k
 have ih0:=locklessref01_Lists.mono_l k
 unfold locklessref01_Lists.f
 repeat' first
  | (with_reducible exact ih0 _ _ _)
  | (with_reducible exact locklessref01_Ints.mono _ _ _)
  | (with_reducible exact LeO.refl _)
  | (with_reducible exact LeO.none _)
  | (with_reducible refine LeO.ite ?_ ?_)
  | (with_reducible refine LeO.bind ?_ (fun _=>?_))
  | exact ih0 _ _ _
  | exact locklessref01_Ints.mono _ _ _
  | exact LeO.none _
  | refine LeO.ite ?_ ?_
  | refine LeO.bind ?_ (fun _=>?_)
set_option maxHeartbeats 8000000 in
set_option maxRecDepth 100000 in
theorem locklessref01_Lists.calls (k : Nat) (A0 : Option Addr) (c0 : Nat) (l0 : List (List Int)) (A1 : Option Addr) (c1 : Nat) (l1 : List (List Int)) (r : Bool) (w : World) (hr0 : Kd.C (Kd.slice 3 (Kd.int .i64)) w A0 l0.length l0) (hc0 : l0.length ≤ c0) (hr1 : Kd.C (Kd.slice 3 (Kd.int .i64)) w A1 l1.length l1) (hc1 : l1.length ≤ c1) (h : locklessref01_Lists.f k l0 l1 = some r) :
 Calls Try.prog 19 #[.slice A0 l0.length c0,.slice A1 l1.length c1] w fun e w'=>e = .returned (.bool r) ∧ Drawn0 w w':=by
 have HR0:=Aside0.mk hr0
 have HC0:=Aside0.mk hc0
 clear hr0 hc0
 have HR1:=Aside0.mk hr1
 have HC1:=Aside0.mk hc1
 clear hr1 hc1
 have H : (if (l0.length : Int) = (l1.length : Int) then (locklessref01_Lists.l0 k l0 l1 0) else (some false)) = some r:=h
 clear h
 by_cases c3 : (l0.length : Int) = (l1.length : Int)
 · rw [if_pos c3] at H
   have c3b0 : ((l0.length : Int) == (l1.length : Int)) = true:=beq_iff_eq.mpr c3
   have c3b1 : ((l0.length : Int) != (l1.length : Int)) = false:=bne_eq_false_iff_eq.mpr c3
   have c3b2 : (l0.length == l1.length) = true:=by first|simpa using c3|(simp at c3 ⊢;omega)
   clear c3
   have H':=Aside0.mk H
   clear H
   go_enter Try.func19,Try.ntmps19
   go_wp2
   repeat (go_quiet (fail);try go_wp2)
   go_loopg [5] k (fun kq v5 w'=>∃ (x5_1 : Int),v5 = .int .i64 x5_1 ∧ Aside0 (locklessref01_Lists.l0 kq l0 l1 x5_1 = some r) ∧ Aside0 (kq ≤ k) ∧ Drawn0 w w')
   case atStart=>exact ⟨(0),(by first|rfl|(simp;done)|(simp [*];done)),H',⟨Nat.le_refl _⟩,by repeat (first|exact Drawn0.refl _|apply Drawn0.step)⟩
   case round=>
    clear H'
    (try clear c1);(try clear p2);(try clear c3);(try clear c3b0);(try clear c3b1);(try clear c3b2)
    obtain ⟨x5_1,rfl,HA,HK1,⟨m1,rfl⟩⟩:=hrel
    cases gk with
    | zero=>exact absurd HA.out (by simp [locklessref01_Lists.l0])
    | succ k1=>
     have H:=HA.out
     clear HA
     simp only [locklessref01_Lists.l0] at H
     by_cases c4 : x5_1 < (l0.length : Int)
     · rw [if_pos c4] at H
       have c4b0 : decide (x5_1 < (l0.length : Int)) = true:=decide_eq_true c4
       clear c4
       by_cases c5 : 0 ≤ x5_1
       · rw [if_pos c5] at H
         have c5b0 : decide (0 ≤ x5_1) = true:=decide_eq_true c5
         clear c5
         by_cases c6 : x5_1 < (l1.length : Int)
         · rw [if_pos c6] at H
           have c6b0 : decide (x5_1 < (l1.length : Int)) = true:=decide_eq_true c6
           clear c6
           replace H:=Option.bind_eq_some_iff.mp H
           obtain ⟨t107,A70,H⟩:=H
           replace H : (if t107 = true then (locklessref01_Lists.l0 k1 l0 l1 (wrap64 (x5_1 + 1))) else (some false)) = some r:=H
           have A7:=Aside0.mk A70
           clear A70
           by_cases c8 : t107 = true
           · subst c8
             have H1 : (locklessref01_Lists.l0 k1 l0 l1 (wrap64 (x5_1 + 1))) = some r:=by rw [if_pos rfl] at H;exact H
             clear H
             have H:=H1
             clear H1
             have H':=Aside0.mk H
             clear H
             have p105 : 0 ≤ (x5_1 : Int):=of_decide_eq_true (by first|(with_reducible assumption)|assumption)
             have q105 : x5_1 < (l0.length : Int):=of_decide_eq_true (by first|(with_reducible assumption)|assumption)
             obtain ⟨ad105,A105_0,c105_0,e105,hx105_0,hl105_0,hi105_0⟩:=at_L5 HR0.out x5_1 p105 q105
             cases e105
             have HR105_0:=Aside0.mk hi105_0
             have HC105_0:=Aside0.mk hl105_0
             clear hi105_0 hl105_0
             replace p105:=eq_true p105
             replace q105:=eq_true q105
             have p106 : 0 ≤ (x5_1 : Int):=of_decide_eq_true (by first|(with_reducible assumption)|assumption)
             have q106 : x5_1 < (l1.length : Int):=of_decide_eq_true (by first|(with_reducible assumption)|assumption)
             obtain ⟨ad106,A106_0,c106_0,e106,hx106_0,hl106_0,hi106_0⟩:=at_L5 HR1.out x5_1 p106 q106
             cases e106
             have HR106_0:=Aside0.mk hi106_0
             have HC106_0:=Aside0.mk hl106_0
             clear hi106_0 hl106_0
             replace p106:=eq_true p106
             replace q106:=eq_true q106
             go_wp2_with (first|(go_at_call 46;(with_reducible refine (locklessref01_Ints.calls k1 _ _ (rd_L5 l0 x5_1) _ _ (rd_L5 l1 x5_1) true _ ?side1 ?side2 ?side3 ?side4 A7.out).mono ?_);(case side1=>repeat (first|exact HR105_0.out|(with_reducible refine Kd.C_alloc ?_ _)|(with_reducible refine Kd.C_drewN ?_ _)|(with_reducible refine Kd.C_drew ?_)));(case side2=>exact HC105_0.out);(case side3=>repeat (first|exact HR106_0.out|(with_reducible refine Kd.C_alloc ?_ _)|(with_reducible refine Kd.C_drewN ?_ _)|(with_reducible refine Kd.C_drew ?_)));(case side4=>exact HC106_0.out);rintro e w' ⟨rfl,⟨nd,rfl⟩⟩;(try first|exact ⟨rfl,_,World.drewN_drewN _ _ _⟩|exact ⟨rfl,_,Eq.trans (World.drewN_drewN _ _ _) (congrArg (World.drewN _) (Nat.add_assoc _ _ _))⟩)))
             repeat (go_quiet (first|(go_at_call 46;(with_reducible refine (locklessref01_Ints.calls k1 _ _ (rd_L5 l0 x5_1) _ _ (rd_L5 l1 x5_1) true _ ?side1 ?side2 ?side3 ?side4 A7.out).mono ?_);(case side1=>repeat (first|exact HR105_0.out|(with_reducible refine Kd.C_alloc ?_ _)|(with_reducible refine Kd.C_drewN ?_ _)|(with_reducible refine Kd.C_drew ?_)));(case side2=>exact HC105_0.out);(case side3=>repeat (first|exact HR106_0.out|(with_reducible refine Kd.C_alloc ?_ _)|(with_reducible refine Kd.C_drewN ?_ _)|(with_reducible refine Kd.C_drew ?_)));(case side4=>exact HC106_0.out);rintro e w' ⟨rfl,⟨nd,rfl⟩⟩;(try first|exact ⟨rfl,_,World.drewN_drewN _ _ _⟩|exact ⟨rfl,_,Eq.trans (World.drewN_drewN _ _ _) (congrArg (World.drewN _) (Nat.add_assoc _ _ _))⟩)));try go_wp2_with (first|(go_at_call 46;(with_reducible refine (locklessref01_Ints.calls k1 _ _ (rd_L5 l0 x5_1) _ _ (rd_L5 l1 x5_1) true _ ?side1 ?side2 ?side3 ?side4 A7.out).mono ?_);(case side1=>repeat (first|exact HR105_0.out|(with_reducible refine Kd.C_alloc ?_ _)|(with_reducible refine Kd.C_drewN ?_ _)|(with_reducible refine Kd.C_drew ?_)));(case side2=>exact HC105_0.out);(case side3=>repeat (first|exact HR106_0.out|(with_reducible refine Kd.C_alloc ?_ _)|(with_reducible refine Kd.C_drewN ?_ _)|(with_reducible refine Kd.C_drew ?_)));(case side4=>exact HC106_0.out);rintro e w' ⟨rfl,⟨nd,rfl⟩⟩;(try first|exact ⟨rfl,_,World.drewN_drewN _ _ _⟩|exact ⟨rfl,_,Eq.trans (World.drewN_drewN _ _ _) (congrArg (World.drewN _) (Nat.add_assoc _ _ _))⟩))))
             go_roundg k1
             case measure=>have:=HK1.out;omega
             case rel=>exact ⟨(wrap64 (x5_1 + 1)),(by first|rfl|(simp;done)|(simp [*];done)),H',⟨by have:=HK1.out;omega⟩,by repeat (first|exact Drawn0.refl _|apply Drawn0.step)⟩
           · replace c8:=Bool.eq_false_iff.mpr c8
             subst c8
             have H1 : (some false) = some r:=by rw [if_neg (show ¬ (false = true) by decide)] at H;exact H
             clear H
             have H:=H1
             clear H1
             obtain rfl:=Option.some.inj H
             have p105 : 0 ≤ (x5_1 : Int):=of_decide_eq_true (by first|(with_reducible assumption)|assumption)
             have q105 : x5_1 < (l0.length : Int):=of_decide_eq_true (by first|(with_reducible assumption)|assumption)
             obtain ⟨ad105,A105_0,c105_0,e105,hx105_0,hl105_0,hi105_0⟩:=at_L5 HR0.out x5_1 p105 q105
             cases e105
             have HR105_0:=Aside0.mk hi105_0
             have HC105_0:=Aside0.mk hl105_0
             clear hi105_0 hl105_0
             replace p105:=eq_true p105
             replace q105:=eq_true q105
             have p106 : 0 ≤ (x5_1 : Int):=of_decide_eq_true (by first|(with_reducible assumption)|assumption)
             have q106 : x5_1 < (l1.length : Int):=of_decide_eq_true (by first|(with_reducible assumption)|assumption)
             obtain ⟨ad106,A106_0,c106_0,e106,hx106_0,hl106_0,hi106_0⟩:=at_L5 HR1.out x5_1 p106 q106
             cases e106
             have HR106_0:=Aside0.mk hi106_0
             have HC106_0:=Aside0.mk hl106_0
             clear hi106_0 hl106_0
             replace p106:=eq_true p106
             replace q106:=eq_true q106
             go_wp2_with (first|(go_at_call 46;(with_reducible refine (locklessref01_Ints.calls k1 _ _ (rd_L5 l0 x5_1) _ _ (rd_L5 l1 x5_1) false _ ?side1 ?side2 ?side3 ?side4 A7.out).mono ?_);(case side1=>repeat (first|exact HR105_0.out|(with_reducible refine Kd.C_alloc ?_ _)|(with_reducible refine Kd.C_drewN ?_ _)|(with_reducible refine Kd.C_drew ?_)));(case side2=>exact HC105_0.out);(case side3=>repeat (first|exact HR106_0.out|(with_reducible refine Kd.C_alloc ?_ _)|(with_reducible refine Kd.C_drewN ?_ _)|(with_reducible refine Kd.C_drew ?_)));(case side4=>exact HC106_0.out);rintro e w' ⟨rfl,⟨nd,rfl⟩⟩;(try first|exact ⟨rfl,_,World.drewN_drewN _ _ _⟩|exact ⟨rfl,_,Eq.trans (World.drewN_drewN _ _ _) (congrArg (World.drewN _) (Nat.add_assoc _ _ _))⟩)))
             repeat (go_quiet (first|(go_at_call 46;(with_reducible refine (locklessref01_Ints.calls k1 _ _ (rd_L5 l0 x5_1) _ _ (rd_L5 l1 x5_1) false _ ?side1 ?side2 ?side3 ?side4 A7.out).mono ?_);(case side1=>repeat (first|exact HR105_0.out|(with_reducible refine Kd.C_alloc ?_ _)|(with_reducible refine Kd.C_drewN ?_ _)|(with_reducible refine Kd.C_drew ?_)));(case side2=>exact HC105_0.out);(case side3=>repeat (first|exact HR106_0.out|(with_reducible refine Kd.C_alloc ?_ _)|(with_reducible refine Kd.C_drewN ?_ _)|(with_reducible refine Kd.C_drew ?_)));(case side4=>exact HC106_0.out);rintro e w' ⟨rfl,⟨nd,rfl⟩⟩;(try first|exact ⟨rfl,_,World.drewN_drewN _ _ _⟩|exact ⟨rfl,_,Eq.trans (World.drewN_drewN _ _ _) (congrArg (World.drewN _) (Nat.add_assoc _ _ _))⟩)));try go_wp2_with (first|(go_at_call 46;(with_reducible refine (locklessref01_Ints.calls k1 _ _ (rd_L5 l0 x5_1) _ _ (rd_L5 l1 x5_1) false _ ?side1 ?side2 ?side3 ?side4 A7.out).mono ?_);(case side1=>repeat (first|exact HR105_0.out|(with_reducible refine Kd.C_alloc ?_ _)|(with_reducible refine Kd.C_drewN ?_ _)|(with_reducible refine Kd.C_drew ?_)));(case side2=>exact HC105_0.out);(case side3=>repeat (first|exact HR106_0.out|(with_reducible refine Kd.C_alloc ?_ _)|(with_reducible refine Kd.C_drewN ?_ _)|(with_reducible refine Kd.C_drew ?_)));(case side4=>exact HC106_0.out);rintro e w' ⟨rfl,⟨nd,rfl⟩⟩;(try first|exact ⟨rfl,_,World.drewN_drewN _ _ _⟩|exact ⟨rfl,_,Eq.trans (World.drewN_drewN _ _ _) (congrArg (World.drewN _) (Nat.add_assoc _ _ _))⟩))))
             go_ret
             exact ⟨by first|rfl|(simp;done)|(simp [*];done),by repeat (first|exact Drawn0.refl _|apply Drawn0.step)⟩
         · rw [if_neg c6] at H
           exact absurd H (by simp)
       · rw [if_neg c5] at H
         exact absurd H (by simp)
     · rw [if_neg c4] at H
       have c4b0 : decide (x5_1 < (l0.length : Int)) = false:=decide_eq_false c4
       clear c4
       obtain rfl:=Option.some.inj H
       go_wp2
       repeat (go_quiet (fail);try go_wp2)
       go_ret
       exact ⟨by first|rfl|(simp;done)|(simp [*];done),by repeat (first|exact Drawn0.refl _|apply Drawn0.step)⟩
 · rw [if_neg c3] at H
   have c3b0 : ((l0.length : Int) == (l1.length : Int)) = false:=beq_eq_false_iff_ne.mpr c3
   have c3b1 : ((l0.length : Int) != (l1.length : Int)) = true:=bne_iff_ne.mpr c3
   have c3b2 : (l0.length == l1.length) = false:=by first|simpa using c3|(simp at c3 ⊢;omega)
   obtain rfl:=Option.some.inj H
   go_enter Try.func19,Try.ntmps19
   go_wp2
   repeat (go_quiet (fail);try go_wp2)
   go_ret
   exact ⟨by first|rfl|(simp;done)|(simp [*];done),by repeat (first|exact Drawn0.refl _|apply Drawn0.step)⟩
def locklesslaw03_Buffers.f (a0 : Int) : Option ((List (List (S44)))):=some (([(([(⟨1,0,1,0,a0⟩ : S44),(⟨0,1,0,0,a0⟩ : S44)] : List (S44))),(([(⟨1,1,1,0,a0⟩ : S44),(⟨0,0,0,0,a0⟩ : S44)] : List (S44)))] : List (List (S44))))
set_option maxHeartbeats 8000000 in
set_option maxRecDepth 100000 in
theorem locklesslaw03_Buffers.calls (a0 : Int) (r : List (List (S44))) (w : World) (h : locklesslaw03_Buffers.f a0 = some r) :
 Calls Try.prog 29 #[.int .i64 a0] w fun e w'=>∃ v0_ : Value,e = .returned (.agg #[v0_]) ∧ Kd.N (Kd.slice 44 k44) 42 w' w.heap.size (fun k_=>(w.heap.size ≤ k_)) v0_ r ∧ Below w.heap.size w w':=by
 have hu24:=Try.underlying24
 have hu44:=Try.underlying44
 have HB:=Aside0.mk (Below.refl w.heap.size w)
 have H : (some (([(([(⟨1,0,1,0,a0⟩ : S44),(⟨0,1,0,0,a0⟩ : S44)] : List (S44))),(([(⟨1,1,1,0,a0⟩ : S44),(⟨0,0,0,0,a0⟩ : S44)] : List (S44)))] : List (List (S44))))) = some r:=h
 clear h
 obtain ⟨y109,hy109⟩ : ∃ y_ : List (S44),y_ = (([(⟨1,0,1,0,a0⟩ : S44),(⟨0,1,0,0,a0⟩ : S44)] : List (S44))):=⟨_,rfl⟩
 replace H : (some (([y109,(([(⟨1,1,1,0,a0⟩ : S44),(⟨0,0,0,0,a0⟩ : S44)] : List (S44)))] : List (List (S44))))) = some r:=by first|(rw [hy109];with_reducible exact H)|(have H2_:=(Option.bind_some _ _).symm.trans H;rw [hy109];with_reducible exact H2_)|(have H2_:=(Option.bind_some _ _).symm.trans H;with_reducible exact H2_)|with_reducible exact H|(rw [hy109];exact H)|exact H
 have Ny109:=Aside0.mk hy109
 clear hy109
 obtain ⟨y112,hy112⟩ : ∃ y_ : List (S44),y_ = (([(⟨1,1,1,0,a0⟩ : S44),(⟨0,0,0,0,a0⟩ : S44)] : List (S44))):=⟨_,rfl⟩
 replace H : (some (([y109,y112] : List (List (S44))))) = some r:=by first|(rw [hy112];with_reducible exact H)|(have H2_:=(Option.bind_some _ _).symm.trans H;rw [hy112];with_reducible exact H2_)|(have H2_:=(Option.bind_some _ _).symm.trans H;with_reducible exact H2_)|with_reducible exact H|(rw [hy112];exact H)|exact H
 have Ny112:=Aside0.mk hy112
 clear hy112
 obtain ⟨y115,hy115⟩ : ∃ y_ : List (List (S44)),y_ = (([y109,y112] : List (List (S44)))):=⟨_,rfl⟩
 replace H : (some y115) = some r:=by first|(rw [hy115];with_reducible exact H)|(have H2_:=(Option.bind_some _ _).symm.trans H;rw [hy115];with_reducible exact H2_)|(have H2_:=(Option.bind_some _ _).symm.trans H;with_reducible exact H2_)|with_reducible exact H|(rw [hy115];exact H)|exact H
 have Ny115:=Aside0.mk hy115
 clear hy115
 obtain rfl:=Option.some.inj H
 go_enter Try.func29,Try.ntmps29
 go_wp2_with (first|((with_reducible refine gate_dst (N:=2) rfl ?_);refine box_event ?hg (N:=2) ?hd (cs:=#[.slice none 0 0]) (t:=24) ?hr ?_;(case hd=>rfl);(case hg=>rfl);(case hr=>first|(go_simp;done)|(go_simp;rfl));intro gb108 hg w2 hbox hb;have zT:=two_ hb (by repeat (first|(with_reducible first|exact HB.out|apply below_alloc|apply pw_below_drewN|apply below_drew1)|exact HB.out));have n0_:=Aside0.mk zT.1;have n1_:=Aside0.mk (hbox);have n2_:=Aside0.mk ((by rw [hg];exact zT.2 : w.heap.size ≤ gb108));have n3_:=n2_;clear zT;clear HB;have HB:=n0_;have BK108:=n1_;have GW108:=n2_;have GE108:=n3_;clear n0_ n1_ n2_ n3_;clear hb hbox hg)|((with_reducible refine gate_dst (N:=7) rfl ?_);refine Kd.R_lit k44 _ 44 ?hg (N:=7) ?hd (xs:=([(⟨1,0,1,0,a0⟩ : S44),(⟨0,1,0,0,a0⟩ : S44)] : List (S44))) (inner:=[.int .i64 1,.int .i64 0,.int .i64 1,.int .i64 0,.int .i64 a0,.int .i64 0,.int .i64 1,.int .i64 0,.int .i64 0,.int .i64 a0]) (ok:=fun _=>True) (okp:=fun _=>True) ?hr ?hp (fun _ hk=>hk) trivial (Below.refl _ _) (Nat.le_refl _) (by simp) ?_;(case hd=>rfl);(case hg=>rfl);(case hr=>first|(go_simp;done)|(go_simp;rfl));(case hp=>exact (Reps.c5 (show Kd.M k44 _ _ _ (⟨1,0,1,0,a0⟩ : S44) [.int .i64 1,.int .i64 0,.int .i64 1,.int .i64 0,.int .i64 a0] from (k44_mkM _ _ _ (⟨1,0,1,0,a0⟩ : S44) )) (Reps.c5 (show Kd.M k44 _ _ _ (⟨0,1,0,0,a0⟩ : S44) [.int .i64 0,.int .i64 1,.int .i64 0,.int .i64 0,.int .i64 a0] from (k44_mkM _ _ _ (⟨0,1,0,0,a0⟩ : S44) )) (Reps.none _ _))));intro v110 w3 ho4 hb hg_ hnew_;clear hg_ hnew_;(first|rw [← Ny109.out] at ho4|(simp only [Int.reduceToNat] at ho4;rw [← Ny109.out] at ho4));have n0_:=Aside0.mk (Kd.R_lower (Kd.R_newM (M:=fun k_=>(w.heap.size ≤ k_)) ho4 (below_size (by repeat (first|(with_reducible first|exact HB.out|apply below_alloc|apply pw_below_drewN|apply below_drew1|refine below_set ?_ GE108.out)|exact HB.out))) (fun k_ h_=>h_)) (below_size (by repeat (first|(with_reducible first|exact HB.out|apply below_alloc|apply pw_below_drewN|apply below_drew1|refine below_set ?_ GE108.out)|exact HB.out))));have n1_:=Aside0.mk (blk_below (zb BK108.out) hb);have n2_:=Aside0.mk (below_step (by repeat (first|(with_reducible first|exact HB.out|apply below_alloc|apply pw_below_drewN|apply below_drew1|refine below_set ?_ GE108.out)|exact HB.out)) hb);clear BK108;clear HB;have HO111:=n0_;have BK108:=n1_;have HB:=n2_;clear n0_ n1_ n2_;clear hb ho4)|((with_reducible refine gate_dst (N:=12) rfl ?_);refine Kd.R_lit k44 _ 44 ?hg (N:=12) ?hd (xs:=([(⟨1,1,1,0,a0⟩ : S44),(⟨0,0,0,0,a0⟩ : S44)] : List (S44))) (inner:=[.int .i64 1,.int .i64 1,.int .i64 1,.int .i64 0,.int .i64 a0,.int .i64 0,.int .i64 0,.int .i64 0,.int .i64 0,.int .i64 a0]) (ok:=fun _=>True) (okp:=fun _=>True) ?hr ?hp (fun _ hk=>hk) trivial (Below.refl _ _) (Nat.le_refl _) (by simp) ?_;(case hd=>rfl);(case hg=>rfl);(case hr=>first|(go_simp;done)|(go_simp;rfl));(case hp=>exact (Reps.c5 (show Kd.M k44 _ _ _ (⟨1,1,1,0,a0⟩ : S44) [.int .i64 1,.int .i64 1,.int .i64 1,.int .i64 0,.int .i64 a0] from (k44_mkM _ _ _ (⟨1,1,1,0,a0⟩ : S44) )) (Reps.c5 (show Kd.M k44 _ _ _ (⟨0,0,0,0,a0⟩ : S44) [.int .i64 0,.int .i64 0,.int .i64 0,.int .i64 0,.int .i64 a0] from (k44_mkM _ _ _ (⟨0,0,0,0,a0⟩ : S44) )) (Reps.none _ _))));intro v113 w5 ho6 hb hg_ hnew_;clear hg_ hnew_;(first|rw [← Ny112.out] at ho6|(simp only [Int.reduceToNat] at ho6;rw [← Ny112.out] at ho6));have n0_:=Aside0.mk (Kd.R_elder' (by (with_reducible repeat (first|apply Kd.R_alloc|apply Kd.R_drewN|apply Kd.R_drew));exact HO111.out) (Kd.R_base ho6) hb);have n1_:=Aside0.mk (Kd.R_lower (Kd.R_new' (Kd.R_newM (M:=fun k_=>(w.heap.size ≤ k_)) ho6 (below_size (by repeat (first|(with_reducible first|exact HB.out|apply below_alloc|apply pw_below_drewN|apply below_drew1|refine below_set ?_ GE108.out)|exact HB.out))) (fun k_ h_=>h_)) (Kd.R_lt (by (with_reducible repeat (first|apply Kd.R_alloc|apply Kd.R_drewN|apply Kd.R_drew));exact HO111.out))) (below_size (by repeat (first|(with_reducible first|exact HB.out|apply below_alloc|apply pw_below_drewN|apply below_drew1|refine below_set ?_ GE108.out)|exact HB.out))));have n2_:=Aside0.mk (blk_below (zb BK108.out) hb);have n3_:=Aside0.mk (below_step (by repeat (first|(with_reducible first|exact HB.out|apply below_alloc|apply pw_below_drewN|apply below_drew1|refine below_set ?_ GE108.out)|exact HB.out)) hb);clear HO111;clear BK108;clear HB;have HO111:=n0_;have HO114:=n1_;have BK108:=n2_;have HB:=n3_;clear n0_ n1_ n2_ n3_;clear hb ho6;obtain ⟨Ao7,co7,eo7⟩:=Kd.R_slice HO111.out;subst eo7;obtain ⟨Ao8,co8,eo8⟩:=Kd.R_slice HO114.out;subst eo8)|((with_reducible refine gate_dst (N:=13) rfl ?_);refine Kd.N_lit (Kd.slice 44 k44) _ 42 ?hg (N':=13) ?hd (xs:=([y109,y112] : List (List (S44)))) (inner:=[.slice Ao7 y109.length co7,.slice Ao8 y112.length co8]) (ok:=(fun k_=>(w.heap.size ≤ k_) ∧ k_ ≠ gb108)) (okp:=(fun k_=>(w.heap.size ≤ k_) ∧ k_ ≠ gb108)) ?hr ?hp (fun _ hk=>hk) ((show ∀ k_,w5.heap.size ≤ k_ → (fun k_=>(w.heap.size ≤ k_) ∧ k_ ≠ gb108) k_ from fun k_ hk=>⟨(Nat.le_trans (below_size (by repeat (first|(with_reducible first|exact HB.out|apply below_alloc|apply pw_below_drewN|apply below_drew1|refine below_set ?_ GE108.out)|exact HB.out))) hk),Kd.freshB (g:=gb108) (o:=.cells #[.slice none 0 0] 24 (0,0)) (zb BK108.out) k_ hk⟩) _ (Nat.le_refl _)) (Below.refl _ _) (Nat.le_refl _) (by simp) ?_;(case hd=>rfl);(case hg=>rfl);(case hr=>first|(go_simp;done)|(go_simp;rfl));(case hp=>exact (Reps.one (show Kd.FK (Kd.slice 44 k44) _ _ y109 [.slice Ao7 y109.length co7] from (Kd.FK_slice_mk (Kd.R_reads' (Kd.R_mono (ok':=(fun k_=>(w.heap.size ≤ k_) ∧ k_ ≠ gb108)) (Kd.R_types (HO111.out) BK108.out (by decide)) (fun k_ hk=>⟨hk.1.1.1,hk.2⟩))).2.1 (Kd.R_F (Kd.R_mono (ok':=(fun k_=>(w.heap.size ≤ k_) ∧ k_ ≠ gb108)) (Kd.R_types (HO111.out) BK108.out (by decide)) (fun k_ hk=>⟨hk.1.1.1,hk.2⟩))))) (Reps.one (show Kd.FK (Kd.slice 44 k44) _ _ y112 [.slice Ao8 y112.length co8] from (Kd.FK_slice_mk (Kd.R_reads' (Kd.R_mono (ok':=(fun k_=>(w.heap.size ≤ k_) ∧ k_ ≠ gb108)) (Kd.R_types (HO114.out) BK108.out (by decide)) (fun k_ hk=>⟨hk.1.1.1,hk.2⟩))).2.1 (Kd.R_F (Kd.R_mono (ok':=(fun k_=>(w.heap.size ≤ k_) ∧ k_ ≠ gb108)) (Kd.R_types (HO114.out) BK108.out (by decide)) (fun k_ hk=>⟨hk.1.1.1,hk.2⟩))))) (Reps.none _ _))));intro v116 w9 ho10 hb hg_ hnew_;clear hg_ hnew_;(first|rw [← Ny115.out] at ho10|(simp only [Int.reduceToNat] at ho10;rw [← Ny115.out] at ho10));have n0_:=Aside0.mk (Kd.N_lower ho10 (below_size (by repeat (first|(with_reducible first|exact HB.out|apply below_alloc|apply pw_below_drewN|apply below_drew1|refine below_set ?_ GE108.out)|exact HB.out))));have n1_:=Aside0.mk (blk_below (zb BK108.out) hb);have n2_:=Aside0.mk (below_step (by repeat (first|(with_reducible first|exact HB.out|apply below_alloc|apply pw_below_drewN|apply below_drew1|refine below_set ?_ GE108.out)|exact HB.out)) hb);clear BK108;clear HB;clear HO111;clear HO114;have HO117:=n0_;have BK108:=n1_;have HB:=n2_;clear n0_ n1_ n2_;clear hb ho10;obtain ⟨Ao11,co11,eo11⟩:=Kd.N_slice HO117.out;subst eo11;have hcz12_0 : w9.cell? ⟨gb108,0,none⟩ = some (.slice none 0 0):=(blk_cell BK108.out 0).trans rfl;have hfz12_0:=blk_frozen BK108.out 0))
 refine bodyPost_ret (results_cell_row rfl _ _ gb108 24 #[.slice Ao11 y115.length co11] (0,0) _ rfl (by (with_reducible repeat (first|apply kN|apply kD|apply kA));refine blk_put (cs:=#[.slice none 0 0]) ?_ 0 _ rfl;(with_reducible repeat (first|apply kN|apply kD|apply kA));exact BK108.out) Try.underlying24 rfl (by kernel_rfl)) rfl ?_
 exact ⟨_,by first|rfl|(simp [errW_none,errW_some] <;> rfl)|(simp [*,errW_none,errW_some] <;> rfl),by (with_reducible repeat (first|apply Kd.N_alloc|apply Kd.N_drewN|apply Kd.N_drew));exact Kd.N_mono (Kd.N_far (p:=⟨gb108,0,none⟩) (Kd.N_mono HO117.out (fun k_ hk=>(⟨hk,hk.2⟩ : _ ∧ k_ ≠ gb108))) (fun _ hk=>hk.2) (.slice Ao11 y115.length co11)) (fun _ hk=>hk.1.1),by repeat (first|(with_reducible first|exact HB.out|apply below_alloc|apply pw_below_drewN|apply below_drew1|refine below_set ?_ GE108.out)|exact HB.out)⟩
def locklesslaw03_sane.f (k : Nat)  : Option (Bool):=(locklesslaw03_Buffers.f 0).bind fun t118=>((litmus_Interleavings.f t118).bind fun bt121=>(if bt121.2 = 0 then ((locklessref01_Lists.f k bt121.1 (([(([0,1,1,1,0] : List Int)),(([1,0,1,1,0] : List Int)),(([1,1,1,1,0] : List Int))] : List (List Int)))).bind fun t137=>(some t137)) else (some false)))
set_option maxHeartbeats 8000000 in
set_option maxRecDepth 100000 in
theorem locklesslaw03_sane.calls (k : Nat)  (r : Bool) (w : World) (h : locklesslaw03_sane.f k  = some r) :
 Calls Try.prog 10 #[] w fun e w'=>e = .returned (.bool r) ∧ Below w.heap.size w w':=by
 have HB:=Aside0.mk (Below.refl w.heap.size w)
 have H : ((locklesslaw03_Buffers.f 0).bind fun t118=>((litmus_Interleavings.f t118).bind fun bt121=>(if bt121.2 = 0 then ((locklessref01_Lists.f k bt121.1 (([(([0,1,1,1,0] : List Int)),(([1,0,1,1,0] : List Int)),(([1,1,1,1,0] : List Int))] : List (List Int)))).bind fun t137=>(some t137)) else (some false)))) = some r:=h
 clear h
 replace H:=Option.bind_eq_some_iff.mp H
 obtain ⟨t118,A10,H⟩:=H
 replace H : ((litmus_Interleavings.f t118).bind fun bt121=>(if bt121.2 = 0 then ((locklessref01_Lists.f k bt121.1 (([(([0,1,1,1,0] : List Int)),(([1,0,1,1,0] : List Int)),(([1,1,1,1,0] : List Int))] : List (List Int)))).bind fun t137=>(some t137)) else (some false))) = some r:=H
 have A1:=Aside0.mk A10
 clear A10
 replace H:=Option.bind_eq_some_iff.mp H
 obtain ⟨⟨t121,t124⟩,A20,H⟩:=H
 replace H : (if t124 = 0 then ((locklessref01_Lists.f k t121 (([(([0,1,1,1,0] : List Int)),(([1,0,1,1,0] : List Int)),(([1,1,1,1,0] : List Int))] : List (List Int)))).bind fun t137=>(some t137)) else (some false)) = some r:=H
 have A2:=Aside0.mk A20
 clear A20
 by_cases c3 : t124 = 0
 · rw [if_pos c3] at H
   have c3b0 : (t124 == 0) = true:=beq_iff_eq.mpr c3
   have c3b1 : (t124 != 0) = false:=bne_eq_false_iff_eq.mpr c3
   clear c3
   obtain ⟨y125,hy125⟩ : ∃ y_ : List Int,y_ = (([0,1,1,1,0] : List Int)):=⟨_,rfl⟩
   replace H : ((locklessref01_Lists.f k t121 (([y125,(([1,0,1,1,0] : List Int)),(([1,1,1,1,0] : List Int))] : List (List Int)))).bind fun t137=>(some t137)) = some r:=by first|(rw [hy125];with_reducible exact H)|(have H2_:=(Option.bind_some _ _).symm.trans H;rw [hy125];with_reducible exact H2_)|(have H2_:=(Option.bind_some _ _).symm.trans H;with_reducible exact H2_)|with_reducible exact H|(rw [hy125];exact H)|exact H
   have Ny125:=Aside0.mk hy125
   clear hy125
   obtain ⟨y128,hy128⟩ : ∃ y_ : List Int,y_ = (([1,0,1,1,0] : List Int)):=⟨_,rfl⟩
   replace H : ((locklessref01_Lists.f k t121 (([y125,y128,(([1,1,1,1,0] : List Int))] : List (List Int)))).bind fun t137=>(some t137)) = some r:=by first|(rw [hy128];with_reducible exact H)|(have H2_:=(Option.bind_some _ _).symm.trans H;rw [hy128];with_reducible exact H2_)|(have H2_:=(Option.bind_some _ _).symm.trans H;with_reducible exact H2_)|with_reducible exact H|(rw [hy128];exact H)|exact H
   have Ny128:=Aside0.mk hy128
   clear hy128
   obtain ⟨y131,hy131⟩ : ∃ y_ : List Int,y_ = (([1,1,1,1,0] : List Int)):=⟨_,rfl⟩
   replace H : ((locklessref01_Lists.f k t121 (([y125,y128,y131] : List (List Int)))).bind fun t137=>(some t137)) = some r:=by first|(rw [hy131];with_reducible exact H)|(have H2_:=(Option.bind_some _ _).symm.trans H;rw [hy131];with_reducible exact H2_)|(have H2_:=(Option.bind_some _ _).symm.trans H;with_reducible exact H2_)|with_reducible exact H|(rw [hy131];exact H)|exact H
   have Ny131:=Aside0.mk hy131
   clear hy131
   obtain ⟨y134,hy134⟩ : ∃ y_ : List (List Int),y_ = (([y125,y128,y131] : List (List Int))):=⟨_,rfl⟩
   replace H : ((locklessref01_Lists.f k t121 y134).bind fun t137=>(some t137)) = some r:=by first|(rw [hy134];with_reducible exact H)|(have H2_:=(Option.bind_some _ _).symm.trans H;rw [hy134];with_reducible exact H2_)|(have H2_:=(Option.bind_some _ _).symm.trans H;with_reducible exact H2_)|with_reducible exact H|(rw [hy134];exact H)|exact H
   have Ny134:=Aside0.mk hy134
   clear hy134
   replace H:=Option.bind_eq_some_iff.mp H
   obtain ⟨t137,A40,H⟩:=H
   replace H : (some t137) = some r:=H
   have A4:=Aside0.mk A40
   clear A40
   obtain rfl:=Option.some.inj H
   go_enter Try.func10,Try.ntmps10
   go_wp2_with (first|((with_reducible refine gate_callee (f:=29) rfl ?_);refine goesL_ (some 4) rfl rfl Try.func29 (by kernel_rfl) rfl #[.int .i64 0] rfl (by (try simp only [List.map_toArray,List.map_cons,List.map_nil]);first|done|rfl|(simp only [List.length_drop,List.length_take];rfl)) ?_;(with_reducible refine (locklesslaw03_Buffers.calls 0 t118 _ A1.out).mono ?_);rintro e w5 ⟨v119,rfl,ho0,hb⟩;refine ⟨_,rfl,?_⟩;have n0_:=Aside0.mk (Kd.N_lower (Kd.N_mono (ok':=fun k_=>True) ho0 (fun k_ hk_=>trivial)) (below_size (by repeat (first|(with_reducible first|exact HB.out|apply below_alloc|apply pw_below_drewN|apply below_drew1)|exact HB.out))));have n1_:=Aside0.mk (below_step (by repeat (first|(with_reducible first|exact HB.out|apply below_alloc|apply pw_below_drewN|apply below_drew1)|exact HB.out)) hb);clear HB;have HO120:=n0_;have HB:=n1_;clear n0_ n1_;(try clear hb);(try clear hb2);(try clear hk);(try clear hi);(try clear ho0);obtain ⟨Ao6,co6,eo6⟩:=Kd.N_slice HO120.out;subst eo6)|((with_reducible refine gate_callee (f:=17) rfl ?_);refine goesL_ (some 5) rfl rfl Try.func17 (by kernel_rfl) rfl #[.agg #[.slice Ao6 t118.length co6]] rfl (by (try simp only [List.map_toArray,List.map_cons,List.map_nil]);first|done|rfl|(simp only [List.length_drop,List.length_take];rfl)) ?_;(with_reducible refine (litmus_Interleavings.calls _ _ t118 t121 t124 _ ?side1 ?side2 A2.out).mono ?_);(case side1=>repeat (first|exact (Kd.N_reads' HO120.out).2.2|(with_reducible refine Kd.C_alloc ?_ _)|(with_reducible refine Kd.C_drewN ?_ _)|(with_reducible refine Kd.C_drew ?_)));(case side2=>exact (Kd.N_reads' HO120.out).2.1);rintro e w7 ⟨v122,rfl,ho0,hb⟩;refine ⟨_,rfl,?_⟩;have n0_:=Aside0.mk (Kd.N_elder' (by (with_reducible repeat (first|apply Kd.N_alloc|apply Kd.N_drewN|apply Kd.N_drew));exact HO120.out) (Kd.R_base ho0) hb);have n1_:=Aside0.mk (Kd.N_lower (Kd.N_mono (ok':=fun k_=>some k_ ≠ (.slice Ao6 t118.length co6 : Value).ownBlock) (Kd.R_N (Kd.R_bound ho0)) (fun k_ hk_=>(Kd.fresh' (Kd.N_lt (by (with_reducible repeat (first|apply Kd.N_alloc|apply Kd.N_drewN|apply Kd.N_drew));exact HO120.out)) k_ hk_.2.1))) (below_size (by repeat (first|(with_reducible first|exact HB.out|apply below_alloc|apply pw_below_drewN|apply below_drew1)|exact HB.out))));have n2_:=Aside0.mk (below_step (by repeat (first|(with_reducible first|exact HB.out|apply below_alloc|apply pw_below_drewN|apply below_drew1)|exact HB.out)) hb);clear HO120;clear HB;have HO120:=n0_;have HO123:=n1_;have HB:=n2_;clear n0_ n1_ n2_;(try clear hb);(try clear hb2);(try clear hk);(try clear hi);(try clear ho0))|((with_reducible refine gate_dst (N:=12) rfl ?_);(try (refine gate_guard (by rfl) ?_;dsimp only));refine Kd.R_lit (Kd.int .i64) _ 3 ?hg (N:=12) ?hd (xs:=([0,1,1,1,0] : List Int)) (inner:=[.int .i64 0,.int .i64 1,.int .i64 1,.int .i64 1,.int .i64 0]) (ok:=fun _=>True) (okp:=fun _=>True) ?hr ?hp (fun _ hk=>hk) trivial (Below.refl _ _) (Nat.le_refl _) (by simp) ?_;(case hd=>rfl);(case hg=>rfl);(case hr=>first|(go_simp;done)|(go_simp;rfl));(case hp=>exact (Reps.one (show Kd.M (Kd.int .i64) _ _ _ 0 [.int .i64 0] from rfl) (Reps.one (show Kd.M (Kd.int .i64) _ _ _ 1 [.int .i64 1] from rfl) (Reps.one (show Kd.M (Kd.int .i64) _ _ _ 1 [.int .i64 1] from rfl) (Reps.one (show Kd.M (Kd.int .i64) _ _ _ 1 [.int .i64 1] from rfl) (Reps.one (show Kd.M (Kd.int .i64) _ _ _ 0 [.int .i64 0] from rfl) (Reps.none _ _)))))));intro v126 w8 ho9 hb hg_ hnew_;clear hg_ hnew_;(first|rw [← Ny125.out] at ho9|(simp only [Int.reduceToNat] at ho9;rw [← Ny125.out] at ho9));have n0_:=Aside0.mk (Kd.N_elder' (by (with_reducible repeat (first|apply Kd.N_alloc|apply Kd.N_drewN|apply Kd.N_drew));exact HO120.out) (Kd.R_base ho9) hb);have n1_:=Aside0.mk (Kd.N_elder' (by (with_reducible repeat (first|apply Kd.N_alloc|apply Kd.N_drewN|apply Kd.N_drew));exact HO123.out) (Kd.R_base ho9) hb);have n2_:=Aside0.mk (Kd.R_lower ho9 (below_size (by repeat (first|(with_reducible first|exact HB.out|apply below_alloc|apply pw_below_drewN|apply below_drew1)|exact HB.out))));have n3_:=Aside0.mk (below_step (by repeat (first|(with_reducible first|exact HB.out|apply below_alloc|apply pw_below_drewN|apply below_drew1)|exact HB.out)) hb);clear HO120;clear HO123;clear HB;have HO120:=n0_;have HO123:=n1_;have HO127:=n2_;have HB:=n3_;clear n0_ n1_ n2_ n3_;clear hb ho9)|((with_reducible refine gate_dst (N:=13) rfl ?_);(try (refine gate_guard (by rfl) ?_;dsimp only));refine Kd.R_lit (Kd.int .i64) _ 3 ?hg (N:=13) ?hd (xs:=([1,0,1,1,0] : List Int)) (inner:=[.int .i64 1,.int .i64 0,.int .i64 1,.int .i64 1,.int .i64 0]) (ok:=fun _=>True) (okp:=fun _=>True) ?hr ?hp (fun _ hk=>hk) trivial (Below.refl _ _) (Nat.le_refl _) (by simp) ?_;(case hd=>rfl);(case hg=>rfl);(case hr=>first|(go_simp;done)|(go_simp;rfl));(case hp=>exact (Reps.one (show Kd.M (Kd.int .i64) _ _ _ 1 [.int .i64 1] from rfl) (Reps.one (show Kd.M (Kd.int .i64) _ _ _ 0 [.int .i64 0] from rfl) (Reps.one (show Kd.M (Kd.int .i64) _ _ _ 1 [.int .i64 1] from rfl) (Reps.one (show Kd.M (Kd.int .i64) _ _ _ 1 [.int .i64 1] from rfl) (Reps.one (show Kd.M (Kd.int .i64) _ _ _ 0 [.int .i64 0] from rfl) (Reps.none _ _)))))));intro v129 w10 ho11 hb hg_ hnew_;clear hg_ hnew_;(first|rw [← Ny128.out] at ho11|(simp only [Int.reduceToNat] at ho11;rw [← Ny128.out] at ho11));have n0_:=Aside0.mk (Kd.N_elder' (by (with_reducible repeat (first|apply Kd.N_alloc|apply Kd.N_drewN|apply Kd.N_drew));exact HO120.out) (Kd.R_base ho11) hb);have n1_:=Aside0.mk (Kd.N_elder' (by (with_reducible repeat (first|apply Kd.N_alloc|apply Kd.N_drewN|apply Kd.N_drew));exact HO123.out) (Kd.R_base ho11) hb);have n2_:=Aside0.mk (Kd.R_elder' (by (with_reducible repeat (first|apply Kd.R_alloc|apply Kd.R_drewN|apply Kd.R_drew));exact HO127.out) (Kd.R_base ho11) hb);have n3_:=Aside0.mk (Kd.R_lower (Kd.R_new' ho11 (Kd.R_lt (by (with_reducible repeat (first|apply Kd.R_alloc|apply Kd.R_drewN|apply Kd.R_drew));exact HO127.out))) (below_size (by repeat (first|(with_reducible first|exact HB.out|apply below_alloc|apply pw_below_drewN|apply below_drew1)|exact HB.out))));have n4_:=Aside0.mk (below_step (by repeat (first|(with_reducible first|exact HB.out|apply below_alloc|apply pw_below_drewN|apply below_drew1)|exact HB.out)) hb);clear HO120;clear HO123;clear HO127;clear HB;have HO120:=n0_;have HO123:=n1_;have HO127:=n2_;have HO130:=n3_;have HB:=n4_;clear n0_ n1_ n2_ n3_ n4_;clear hb ho11)|((with_reducible refine gate_dst (N:=14) rfl ?_);(try (refine gate_guard (by rfl) ?_;dsimp only));refine Kd.R_lit (Kd.int .i64) _ 3 ?hg (N:=14) ?hd (xs:=([1,1,1,1,0] : List Int)) (inner:=[.int .i64 1,.int .i64 1,.int .i64 1,.int .i64 1,.int .i64 0]) (ok:=fun _=>True) (okp:=fun _=>True) ?hr ?hp (fun _ hk=>hk) trivial (Below.refl _ _) (Nat.le_refl _) (by simp) ?_;(case hd=>rfl);(case hg=>rfl);(case hr=>first|(go_simp;done)|(go_simp;rfl));(case hp=>exact (Reps.one (show Kd.M (Kd.int .i64) _ _ _ 1 [.int .i64 1] from rfl) (Reps.one (show Kd.M (Kd.int .i64) _ _ _ 1 [.int .i64 1] from rfl) (Reps.one (show Kd.M (Kd.int .i64) _ _ _ 1 [.int .i64 1] from rfl) (Reps.one (show Kd.M (Kd.int .i64) _ _ _ 1 [.int .i64 1] from rfl) (Reps.one (show Kd.M (Kd.int .i64) _ _ _ 0 [.int .i64 0] from rfl) (Reps.none _ _)))))));intro v132 w12 ho13 hb hg_ hnew_;clear hg_ hnew_;(first|rw [← Ny131.out] at ho13|(simp only [Int.reduceToNat] at ho13;rw [← Ny131.out] at ho13));have n0_:=Aside0.mk (Kd.N_elder' (by (with_reducible repeat (first|apply Kd.N_alloc|apply Kd.N_drewN|apply Kd.N_drew));exact HO120.out) (Kd.R_base ho13) hb);have n1_:=Aside0.mk (Kd.N_elder' (by (with_reducible repeat (first|apply Kd.N_alloc|apply Kd.N_drewN|apply Kd.N_drew));exact HO123.out) (Kd.R_base ho13) hb);have n2_:=Aside0.mk (Kd.R_elder' (by (with_reducible repeat (first|apply Kd.R_alloc|apply Kd.R_drewN|apply Kd.R_drew));exact HO127.out) (Kd.R_base ho13) hb);have n3_:=Aside0.mk (Kd.R_elder' (by (with_reducible repeat (first|apply Kd.R_alloc|apply Kd.R_drewN|apply Kd.R_drew));exact HO130.out) (Kd.R_base ho13) hb);have n4_:=Aside0.mk (Kd.R_lower (Kd.R_new' (Kd.R_new' ho13 (Kd.R_lt (by (with_reducible repeat (first|apply Kd.R_alloc|apply Kd.R_drewN|apply Kd.R_drew));exact HO127.out))) (Kd.R_lt (by (with_reducible repeat (first|apply Kd.R_alloc|apply Kd.R_drewN|apply Kd.R_drew));exact HO130.out))) (below_size (by repeat (first|(with_reducible first|exact HB.out|apply below_alloc|apply pw_below_drewN|apply below_drew1)|exact HB.out))));have n5_:=Aside0.mk (below_step (by repeat (first|(with_reducible first|exact HB.out|apply below_alloc|apply pw_below_drewN|apply below_drew1)|exact HB.out)) hb);clear HO120;clear HO123;clear HO127;clear HO130;clear HB;have HO120:=n0_;have HO123:=n1_;have HO127:=n2_;have HO130:=n3_;have HO133:=n4_;have HB:=n5_;clear n0_ n1_ n2_ n3_ n4_ n5_;clear hb ho13;obtain ⟨Ao14,co14,eo14⟩:=Kd.R_slice HO127.out;subst eo14;obtain ⟨Ao15,co15,eo15⟩:=Kd.R_slice HO130.out;subst eo15;obtain ⟨Ao16,co16,eo16⟩:=Kd.R_slice HO133.out;subst eo16)|((with_reducible refine gate_dst (N:=15) rfl ?_);(try (refine gate_guard (by rfl) ?_;dsimp only));refine Kd.N_lit (Kd.slice 3 (Kd.int .i64)) _ 46 ?hg (N':=15) ?hd (xs:=([y125,y128,y131] : List (List Int))) (inner:=[.slice Ao14 y125.length co14,.slice Ao15 y128.length co15,.slice Ao16 y131.length co16]) (ok:=(fun k_=>some k_ ≠ (.slice Ao6 t118.length co6 : Value).ownBlock ∧ some k_ ≠ (v122 : Value).ownBlock)) (okp:=(fun k_=>some k_ ≠ (.slice Ao6 t118.length co6 : Value).ownBlock ∧ some k_ ≠ (v122 : Value).ownBlock)) ?hr ?hp (fun _ hk=>hk) ((show ∀ k_,w12.heap.size ≤ k_ → (fun k_=>some k_ ≠ (.slice Ao6 t118.length co6 : Value).ownBlock ∧ some k_ ≠ (v122 : Value).ownBlock) k_ from fun k_ hk=>⟨Kd.fresh' (Kd.N_lt (by (with_reducible repeat (first|apply Kd.N_alloc|apply Kd.N_drewN|apply Kd.N_drew));exact HO120.out)) k_ hk,Kd.fresh' (Kd.N_lt (by (with_reducible repeat (first|apply Kd.N_alloc|apply Kd.N_drewN|apply Kd.N_drew));exact HO123.out)) k_ hk⟩) _ (Nat.le_refl _)) (Below.refl _ _) (Nat.le_refl _) (by simp) ?_;(case hd=>rfl);(case hg=>rfl);(case hr=>first|(go_simp;done)|(go_simp;rfl));(case hp=>exact (Reps.one (show Kd.FK (Kd.slice 3 (Kd.int .i64)) _ _ y125 [.slice Ao14 y125.length co14] from (Kd.FK_slice_mk (Kd.R_reads' (Kd.R_mono (ok':=(fun k_=>some k_ ≠ (.slice Ao6 t118.length co6 : Value).ownBlock ∧ some k_ ≠ (v122 : Value).ownBlock)) (Kd.R_apart' (Kd.R_apart' (HO127.out) (Kd.N_typed HO120.out) (by decide)) (Kd.N_typed HO123.out) (by decide)) (fun k_ hk=>⟨hk.1.2,hk.2⟩))).2.1 (Kd.R_F (Kd.R_mono (ok':=(fun k_=>some k_ ≠ (.slice Ao6 t118.length co6 : Value).ownBlock ∧ some k_ ≠ (v122 : Value).ownBlock)) (Kd.R_apart' (Kd.R_apart' (HO127.out) (Kd.N_typed HO120.out) (by decide)) (Kd.N_typed HO123.out) (by decide)) (fun k_ hk=>⟨hk.1.2,hk.2⟩))))) (Reps.one (show Kd.FK (Kd.slice 3 (Kd.int .i64)) _ _ y128 [.slice Ao15 y128.length co15] from (Kd.FK_slice_mk (Kd.R_reads' (Kd.R_mono (ok':=(fun k_=>some k_ ≠ (.slice Ao6 t118.length co6 : Value).ownBlock ∧ some k_ ≠ (v122 : Value).ownBlock)) (Kd.R_apart' (Kd.R_apart' (HO130.out) (Kd.N_typed HO120.out) (by decide)) (Kd.N_typed HO123.out) (by decide)) (fun k_ hk=>⟨hk.1.2,hk.2⟩))).2.1 (Kd.R_F (Kd.R_mono (ok':=(fun k_=>some k_ ≠ (.slice Ao6 t118.length co6 : Value).ownBlock ∧ some k_ ≠ (v122 : Value).ownBlock)) (Kd.R_apart' (Kd.R_apart' (HO130.out) (Kd.N_typed HO120.out) (by decide)) (Kd.N_typed HO123.out) (by decide)) (fun k_ hk=>⟨hk.1.2,hk.2⟩))))) (Reps.one (show Kd.FK (Kd.slice 3 (Kd.int .i64)) _ _ y131 [.slice Ao16 y131.length co16] from (Kd.FK_slice_mk (Kd.R_reads' (Kd.R_mono (ok':=(fun k_=>some k_ ≠ (.slice Ao6 t118.length co6 : Value).ownBlock ∧ some k_ ≠ (v122 : Value).ownBlock)) (Kd.R_apart' (Kd.R_apart' (HO133.out) (Kd.N_typed HO120.out) (by decide)) (Kd.N_typed HO123.out) (by decide)) (fun k_ hk=>⟨hk.1.2,hk.2⟩))).2.1 (Kd.R_F (Kd.R_mono (ok':=(fun k_=>some k_ ≠ (.slice Ao6 t118.length co6 : Value).ownBlock ∧ some k_ ≠ (v122 : Value).ownBlock)) (Kd.R_apart' (Kd.R_apart' (HO133.out) (Kd.N_typed HO120.out) (by decide)) (Kd.N_typed HO123.out) (by decide)) (fun k_ hk=>⟨hk.1.2,hk.2⟩))))) (Reps.none _ _)))));intro v135 w17 ho18 hb hg_ hnew_;clear hg_ hnew_;(first|rw [← Ny134.out] at ho18|(simp only [Int.reduceToNat] at ho18;rw [← Ny134.out] at ho18));have n0_:=Aside0.mk (Kd.N_elder' (by (with_reducible repeat (first|apply Kd.N_alloc|apply Kd.N_drewN|apply Kd.N_drew));exact HO120.out) (Kd.N_base ho18) hb);have n1_:=Aside0.mk (Kd.N_elder' (by (with_reducible repeat (first|apply Kd.N_alloc|apply Kd.N_drewN|apply Kd.N_drew));exact HO123.out) (Kd.N_base ho18) hb);have n2_:=Aside0.mk (Kd.N_lower ho18 (below_size (by repeat (first|(with_reducible first|exact HB.out|apply below_alloc|apply pw_below_drewN|apply below_drew1)|exact HB.out))));have n3_:=Aside0.mk (below_step (by repeat (first|(with_reducible first|exact HB.out|apply below_alloc|apply pw_below_drewN|apply below_drew1)|exact HB.out)) hb);clear HO120;clear HO123;clear HB;clear HO127;clear HO130;clear HO133;have HO120:=n0_;have HO123:=n1_;have HO136:=n2_;have HB:=n3_;clear n0_ n1_ n2_ n3_;clear hb ho18;obtain ⟨Ao19,co19,eo19⟩:=Kd.N_slice HO123.out;subst eo19;obtain ⟨Ao20,co20,eo20⟩:=Kd.N_slice HO136.out;subst eo20)|(go_at_call 19;(with_reducible refine (locklessref01_Lists.calls k _ _ t121 _ _ y134 t137 _ ?side1 ?side2 ?side3 ?side4 A4.out).mono ?_);(case side1=>repeat (first|exact (Kd.N_reads' HO123.out).2.2|(with_reducible refine Kd.C_alloc ?_ _)|(with_reducible refine Kd.C_drewN ?_ _)|(with_reducible refine Kd.C_drew ?_)));(case side2=>exact (Kd.N_reads' HO123.out).2.1);(case side3=>repeat (first|exact (Kd.N_reads' HO136.out).2.2|(with_reducible refine Kd.C_alloc ?_ _)|(with_reducible refine Kd.C_drewN ?_ _)|(with_reducible refine Kd.C_drew ?_)));(case side4=>exact (Kd.N_reads' HO136.out).2.1);rintro e w' ⟨rfl,⟨nd,rfl⟩⟩))
   go_ret
   exact ⟨by first|rfl|(simp [errW_none,errW_some] <;> rfl)|(simp [*,errW_none,errW_some] <;> rfl),by repeat (first|(with_reducible first|exact HB.out|apply below_alloc|apply pw_below_drewN|apply below_drew1)|exact HB.out)⟩
 · rw [if_neg c3] at H
   have c3b0 : (t124 == 0) = false:=beq_eq_false_iff_ne.mpr c3
   have c3b1 : (t124 != 0) = true:=bne_iff_ne.mpr c3
   obtain rfl:=Option.some.inj H
   go_enter Try.func10,Try.ntmps10
   go_wp2_with (first|((with_reducible refine gate_callee (f:=29) rfl ?_);refine goesL_ (some 4) rfl rfl Try.func29 (by kernel_rfl) rfl #[.int .i64 0] rfl (by (try simp only [List.map_toArray,List.map_cons,List.map_nil]);first|done|rfl|(simp only [List.length_drop,List.length_take];rfl)) ?_;(with_reducible refine (locklesslaw03_Buffers.calls 0 t118 _ A1.out).mono ?_);rintro e w21 ⟨v119,rfl,ho0,hb⟩;refine ⟨_,rfl,?_⟩;have n0_:=Aside0.mk (Kd.N_lower (Kd.N_mono (ok':=fun k_=>True) ho0 (fun k_ hk_=>trivial)) (below_size (by repeat (first|(with_reducible first|exact HB.out|apply below_alloc|apply pw_below_drewN|apply below_drew1)|exact HB.out))));have n1_:=Aside0.mk (below_step (by repeat (first|(with_reducible first|exact HB.out|apply below_alloc|apply pw_below_drewN|apply below_drew1)|exact HB.out)) hb);clear HB;have HO120:=n0_;have HB:=n1_;clear n0_ n1_;(try clear hb);(try clear hb2);(try clear hk);(try clear hi);(try clear ho0);obtain ⟨Ao22,co22,eo22⟩:=Kd.N_slice HO120.out;subst eo22)|((with_reducible refine gate_callee (f:=17) rfl ?_);refine goesL_ (some 5) rfl rfl Try.func17 (by kernel_rfl) rfl #[.agg #[.slice Ao22 t118.length co22]] rfl (by (try simp only [List.map_toArray,List.map_cons,List.map_nil]);first|done|rfl|(simp only [List.length_drop,List.length_take];rfl)) ?_;(with_reducible refine (litmus_Interleavings.calls _ _ t118 t121 t124 _ ?side1 ?side2 A2.out).mono ?_);(case side1=>repeat (first|exact (Kd.N_reads' HO120.out).2.2|(with_reducible refine Kd.C_alloc ?_ _)|(with_reducible refine Kd.C_drewN ?_ _)|(with_reducible refine Kd.C_drew ?_)));(case side2=>exact (Kd.N_reads' HO120.out).2.1);rintro e w23 ⟨v122,rfl,ho0,hb⟩;refine ⟨_,rfl,?_⟩;have n0_:=Aside0.mk (Kd.N_elder' (by (with_reducible repeat (first|apply Kd.N_alloc|apply Kd.N_drewN|apply Kd.N_drew));exact HO120.out) (Kd.R_base ho0) hb);have n1_:=Aside0.mk (Kd.N_lower (Kd.N_mono (ok':=fun k_=>some k_ ≠ (.slice Ao22 t118.length co22 : Value).ownBlock) (Kd.R_N (Kd.R_bound ho0)) (fun k_ hk_=>(Kd.fresh' (Kd.N_lt (by (with_reducible repeat (first|apply Kd.N_alloc|apply Kd.N_drewN|apply Kd.N_drew));exact HO120.out)) k_ hk_.2.1))) (below_size (by repeat (first|(with_reducible first|exact HB.out|apply below_alloc|apply pw_below_drewN|apply below_drew1)|exact HB.out))));have n2_:=Aside0.mk (below_step (by repeat (first|(with_reducible first|exact HB.out|apply below_alloc|apply pw_below_drewN|apply below_drew1)|exact HB.out)) hb);clear HO120;clear HB;have HO120:=n0_;have HO123:=n1_;have HB:=n2_;clear n0_ n1_ n2_;(try clear hb);(try clear hb2);(try clear hk);(try clear hi);(try clear ho0)))
   go_ret
   exact ⟨by first|rfl|(simp [errW_none,errW_some] <;> rfl)|(simp [*,errW_none,errW_some] <;> rfl),by repeat (first|(with_reducible first|exact HB.out|apply below_alloc|apply pw_below_drewN|apply below_drew1)|exact HB.out)⟩
end Go.Proofs.Ytgfbgbclpeihdaa.XSn
