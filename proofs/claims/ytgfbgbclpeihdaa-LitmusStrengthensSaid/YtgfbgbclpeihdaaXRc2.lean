/- What the Go functions of this text compute, as plain Lean functions, and that the machine does just that: written by a program of this session; no condition. -/
import Derived.Test.YtgfbgbclpeihdaaXRc0
import Derived.Test.YtgfbgbclpeihdaaXRc1
namespace Go.Proofs.Ytgfbgbclpeihdaa.XRc
open Go.RowKit Go.Proofs.YtgfbgbclpeihdaaW.PrintWords Go.Proofs.YtgfbgbclpeihdaaW.PrintLast Go.Proofs.YtgfbgbclpeihdaaW.PrintMore
attribute [local go_sem] max2_int min2_int max_two min_two max_three min_three max_four min_four   -- for this text's walks alone
set_option linter.unusedVariables false
set_option linter.unusedSimpArgs false
mutual
def locklessref03_Check.l0 : Nat → Int → Int → List Int → Bool → Int → List (List (S44)) → Option (Int)
 | 0,_,_,_,_,_,_=>none
 | k + 1,x3,x4,x5,x6,x7,x105000=>if x7 < (x105000.length : Int) then (locklessref03_Check.l1 k x3 x4 x5 x6 x7 0 x105000) else (if (x105000.length : Int) > 3 then (locklessref03_Check.j4 k x5 x6 true) else (if x3 > 6 then (locklessref03_Check.j4 k x5 x6 true) else (locklessref03_Check.j4 k x5 x6 (decide (x4 > 8)))))
def locklessref03_Check.l1 : Nat → Int → Int → List Int → Bool → Int → Int → List (List (S44)) → Option (Int)
 | 0,_,_,_,_,_,_,_=>none
 | k + 1,x3,x4,x5,x6,x7,x8,x105000=>if 0 ≤ x7 then (if x7 < (x105000.length : Int) then (if x8 < ((rd_L2 x105000 x7).length : Int) then (if 0 ≤ x8 then (if x6 = true then ((locklessref03_isOp.f k ((rd_T44 (rd_L2 x105000 x7) x8).f0) ((rd_T44 (rd_L2 x105000 x7) x8).f1) ((rd_T44 (rd_L2 x105000 x7) x8).f2) ((rd_T44 (rd_L2 x105000 x7) x8).f3) ((rd_T44 (rd_L2 x105000 x7) x8).f4)).bind fun t112=>(locklessref03_Check.j2 k x3 x4 x5 t112 x7 x8 x105000 ((rd_T44 (rd_L2 x105000 x7) x8).f0) ((rd_T44 (rd_L2 x105000 x7) x8).f1) ((rd_T44 (rd_L2 x105000 x7) x8).f2) ((rd_T44 (rd_L2 x105000 x7) x8).f3) ((rd_T44 (rd_L2 x105000 x7) x8).f4))) else (locklessref03_Check.j2 k x3 x4 x5 false x7 x8 x105000 ((rd_T44 (rd_L2 x105000 x7) x8).f0) ((rd_T44 (rd_L2 x105000 x7) x8).f1) ((rd_T44 (rd_L2 x105000 x7) x8).f2) ((rd_T44 (rd_L2 x105000 x7) x8).f3) ((rd_T44 (rd_L2 x105000 x7) x8).f4))) else (none)) else (locklessref03_Check.l0 k x3 x4 x5 x6 (wrap64 (x7 + 1)) x105000)) else (none)) else (none)
def locklessref03_Check.j2 : Nat → Int → Int → List Int → Bool → Int → Int → List (List (S44)) → Int → Int → Int → Int → Int → Option (Int)
 | 0,_,_,_,_,_,_,_,_,_,_,_,_=>none
 | k + 1,x3,x4,x5,x6,x7,x8,x105000,x112000,x112001,x112002,x112003,x112004=>if x112000 = 5 then (locklessref03_Check.j3 k x3 (wrap64 (x4 + 1)) x5 x6 x7 x8 x105000 x112000 x112001 x112002 x112003 x112004) else (locklessref03_Check.j3 k x3 x4 x5 x6 x7 x8 x105000 x112000 x112001 x112002 x112003 x112004)
def locklessref03_Check.j3 : Nat → Int → Int → List Int → Bool → Int → Int → List (List (S44)) → Int → Int → Int → Int → Int → Option (Int)
 | 0,_,_,_,_,_,_,_,_,_,_,_,_=>none
 | k + 1,x3,x4,x5,x6,x7,x8,x105000,x112000,x112001,x112002,x112003,x112004=>(locklessref03_isAccess.f x112000 x112001 x112002 x112003 x112004).bind fun t113=>(if t113 = true then (if x112004 = 4 then (if x112000 > 0 then (if x112001 ≥ 0 then (if x112001 < 3 then (if 0 ≤ x112001 then (if x112001 < (x5.length : Int) then (locklessref03_Check.l1 k (wrap64 (x3 + 1)) (wrap64 (x4 + 2)) (x5.set (x112001 : Int).toNat (wrap64 ((rd x5 x112001) + 1))) x6 x7 (wrap64 (x8 + 1)) x105000) else (none)) else (none)) else (locklessref03_Check.l1 k (wrap64 (x3 + 1)) (wrap64 (x4 + 2)) x5 x6 x7 (wrap64 (x8 + 1)) x105000)) else (locklessref03_Check.l1 k (wrap64 (x3 + 1)) (wrap64 (x4 + 2)) x5 x6 x7 (wrap64 (x8 + 1)) x105000)) else (locklessref03_Check.l1 k (wrap64 (x3 + 1)) (wrap64 (x4 + 2)) x5 x6 x7 (wrap64 (x8 + 1)) x105000)) else (if x112000 > 0 then (if x112001 ≥ 0 then (if x112001 < 3 then (if 0 ≤ x112001 then (if x112001 < (x5.length : Int) then (locklessref03_Check.l1 k (wrap64 (x3 + 1)) x4 (x5.set (x112001 : Int).toNat (wrap64 ((rd x5 x112001) + 1))) x6 x7 (wrap64 (x8 + 1)) x105000) else (none)) else (none)) else (locklessref03_Check.l1 k (wrap64 (x3 + 1)) x4 x5 x6 x7 (wrap64 (x8 + 1)) x105000)) else (locklessref03_Check.l1 k (wrap64 (x3 + 1)) x4 x5 x6 x7 (wrap64 (x8 + 1)) x105000)) else (locklessref03_Check.l1 k (wrap64 (x3 + 1)) x4 x5 x6 x7 (wrap64 (x8 + 1)) x105000))) else (locklessref03_Check.l1 k x3 x4 x5 x6 x7 (wrap64 (x8 + 1)) x105000))
def locklessref03_Check.j4 : Nat → List Int → Bool → Bool → Option (Int)
 | 0,_,_,_=>none
 | k + 1,x5,x6,x95=>if x95 = true then (some 2) else (locklessref03_Check.l2 k x5 x6 0)
def locklessref03_Check.l2 : Nat → List Int → Bool → Int → Option (Int)
 | 0,_,_,_=>none
 | k + 1,x5,x6,x10=>if x10 < (x5.length : Int) then (if 0 ≤ x10 then (if (rd x5 x10) > 4 then (some 2) else (locklessref03_Check.l2 k x5 x6 (wrap64 (x10 + 1)))) else (none)) else (if x6 = true then (some 0) else (some 1))
end
def locklessref03_Check.f (k : Nat) (l0_0 : List (List (S44))) : Option (Int):=if 3 ≤ 35184372088832 then (locklessref03_Check.l0 k 0 0 (List.replicate 3 0) (decide ((l0_0.length : Int) > 0)) 0 l0_0) else (none)
def locklessref03_Check.T20 : Bool × List (List Nat × List Nat):=(true,[([],[]),([],[]),([1],[1]),([],[]),([],[]),([4],[4]),([3,5],[3,5]),([6],[6]),([7],[7]),([0,2,0,1,2,3,4,5,6,7,8],[0,2]),([9,8,0,1,2,3,4,5,6,7,8],[8,9])])
def locklessref03_Check.B20 : List Nat:=[0,0,2,0,0,16,56,120,248,511,1023]
theorem locklessref03_Check.tab20 : rtab .any (opsOf Try.f15 20) = locklessref03_Check.T20:=by kernel_rfl
theorem locklessref03_Check.bits20 : waitsOk locklessref03_Check.T20.2 locklessref03_Check.B20 = true:=by kernel_rfl
set_option maxHeartbeats 8000000 in
set_option maxRecDepth 100000 in
theorem locklessref03_Check.calls (k : Nat) (A0_0 : Option Addr) (c0_0 : Nat) (l0_0 : List (List (S44))) (r : Int) (w : World) (hr0_0 : Kd.C (Kd.slice 44 k44) w A0_0 l0_0.length l0_0) (hc0_0 : l0_0.length ≤ c0_0) (h : locklessref03_Check.f k l0_0 = some r) :
 Calls Try.prog 15 #[.agg #[.slice A0_0 l0_0.length c0_0]] w fun e w'=>e = .returned (.int .i64 r) ∧ Below w.heap.size w w':=by
 have hu24:=Try.underlying24
 have hu44:=Try.underlying44
 have HR0_0:=Aside0.mk hr0_0
 have HC0_0:=Aside0.mk hc0_0
 clear hr0_0 hc0_0
 have HB:=Aside0.mk (Below.refl w.heap.size w)
 have H : (if 3 ≤ 35184372088832 then (locklessref03_Check.l0 k 0 0 (List.replicate 3 0) (decide ((l0_0.length : Int) > 0)) 0 l0_0) else (none)) = some r:=h
 clear h
 by_cases c2 : 3 ≤ 35184372088832
 · rw [if_pos c2] at H
   have c2b0:=eq_true c2
   have c2b1 : decide (3 ≤ 35184372088832) = true:=decide_eq_true c2
   clear c2
   obtain ⟨y105,hy105⟩ : ∃ y_ : List Int,y_ = (List.replicate 3 0):=⟨_,rfl⟩
   replace H : (locklessref03_Check.l0 k 0 0 y105 (decide ((l0_0.length : Int) > 0)) 0 l0_0) = some r:=by first|(rw [hy105];with_reducible exact H)|(have H2_:=(Option.bind_some _ _).symm.trans H;rw [hy105];with_reducible exact H2_)|(have H2_:=(Option.bind_some _ _).symm.trans H;with_reducible exact H2_)|with_reducible exact H|(rw [hy105];exact H)|exact H
   have Ny105:=Aside0.mk hy105
   clear hy105
   have H':=Aside0.mk H
   clear H
   go_enter Try.func15,Try.ntmps15
   go_wp2_with (first|((with_reducible refine gate_dst (N:=1) rfl ?_);refine box_event ?hg (N:=1) ?hd (cs:=#[.slice A0_0 l0_0.length c0_0]) (t:=24) ?hr ?_;(case hd=>rfl);(case hg=>rfl);(case hr=>first|(go_simp;done)|(go_simp;rfl));intro gb104 hg w3 hbox hb;have zT:=two_ hb (by repeat (first|(with_reducible first|exact HB.out|apply below_alloc|apply pw_below_drewN|apply below_drew1)|exact HB.out));have n0_:=Aside0.mk zT.1;have n1_:=Aside0.mk (hbox);have n2_:=Aside0.mk ((by rw [hg];exact zT.2 : w.heap.size ≤ gb104));have n3_:=n2_;clear zT;clear HB;have HB:=n0_;have BK104:=n1_;have GW104:=n2_;have GE104:=n3_;clear n0_ n1_ n2_ n3_;clear hb hbox hg)|((with_reducible refine gate_dst (N:=11) rfl ?_);refine Kd.R_make (Kd.int .i64) _ 3 rfl (N:=11) rfl 46 _ _ rfl 3 rfl rfl Try.underlying46 (.int .i64 0) 8 info3 rfl (by decide) (by omega) 0 (ok:=fun _=>True) (okp:=fun _=>True) rfl (fun _ hk=>hk) trivial (by omega) (by omega) (Below.refl _ _) (Nat.le_refl _) ?_;intro v106 w4 ho5 hb hg_ hnew_;clear hg_ hnew_;(first|rw [← Ny105.out] at ho5|(simp only [Int.reduceToNat] at ho5;rw [← Ny105.out] at ho5));have n0_:=Aside0.mk (Kd.R_lower ho5 (below_size (by repeat (first|(with_reducible first|exact HB.out|apply below_alloc|apply pw_below_drewN|apply below_drew1|refine below_set ?_ GE104.out)|exact HB.out))));have n1_:=Aside0.mk (blk_below (zb BK104.out) hb);have n2_:=Aside0.mk (below_step (by repeat (first|(with_reducible first|exact HB.out|apply below_alloc|apply pw_below_drewN|apply below_drew1|refine below_set ?_ GE104.out)|exact HB.out)) hb);clear BK104;clear HB;have HO107:=n0_;have BK104:=n1_;have HB:=n2_;clear n0_ n1_ n2_;clear hb ho5;have hcz6_0 : w4.cell? ⟨gb104,0,none⟩ = some (.slice A0_0 l0_0.length c0_0):=(blk_cell BK104.out 0).trans rfl;have hfz6_0:=blk_frozen BK104.out 0))
   go_loopg [3,4,6,7] k (fun kq v3 v4 v6 v7 w'=>∃ (x3_1 : Int) (x4_1 : Int) (x5_1 : List Int) (x6_1 : Bool) (x7_1 : Int),v3 = .int .i64 x3_1 ∧ v4 = .int .i64 x4_1 ∧ v6 = .bool x6_1 ∧ v7 = .int .i64 x7_1 ∧ Aside0 (locklessref03_Check.l0 kq x3_1 x4_1 x5_1 x6_1 x7_1 l0_0 = some r) ∧ Aside0 (kq ≤ k) ∧ Aside0 (Kd.R (Kd.int .i64) 3 w' w.heap.size (fun _=>True) v106 x5_1) ∧ Aside0 (w'.heap[gb104]? = some (.cells #[(.slice A0_0 l0_0.length c0_0)] 24 (0,0))) ∧ Aside0 (Below w.heap.size w w'))
   case atStart=>exact ⟨(0),(0),(y105),(decide ((l0_0.length : Int) > 0)),(0),(by first|rfl|(simp;done)|(simp [*];done)),(by first|rfl|(simp;done)|(simp [*];done)),(by first|rfl|(simp;done)|(simp [*];done)),(by first|rfl|(simp;done)|(simp [*];done)),H',⟨Nat.le_refl _⟩,⟨by (with_reducible repeat (first|apply Kd.R_alloc|apply Kd.R_drewN|apply Kd.R_drew));exact HO107.out⟩,⟨by (with_reducible repeat (first|apply kN|apply kD|apply kA));exact BK104.out⟩,⟨by repeat (first|(with_reducible first|exact HB.out|apply below_alloc|apply pw_below_drewN|apply below_drew1|refine below_set ?_ GE104.out)|exact HB.out)⟩⟩
   case round=>
    clear H'
    (try clear c1);(try clear c2);(try clear c2b0);(try clear c2b1);(try clear p2);(try clear hcz6_0);(try clear hfz6_0)
    obtain ⟨x3_1,x4_1,x5_1,x6_1,x7_1,rfl,rfl,rfl,rfl,HA,HK1,HO_5,BK104,HB⟩:=hrel
    cases gk with
    | zero=>exact absurd HA.out (by simp [locklessref03_Check.l0])
    | succ k1=>
     have H:=HA.out
     clear HA
     simp only [locklessref03_Check.l0] at H
     by_cases c7 : x7_1 < (l0_0.length : Int)
     · rw [if_pos c7] at H
       have c7b0 : decide (x7_1 < (l0_0.length : Int)) = true:=decide_eq_true c7
       clear c7
       have H':=Aside0.mk H
       clear H
       have hcz8_0 : wr.cell? ⟨gb104,0,none⟩ = some (.slice A0_0 l0_0.length c0_0):=(blk_cell BK104.out 0).trans rfl
       have hfz8_0:=blk_frozen BK104.out 0
       go_wp2
       go_loopg [3,4,6,8] k1 (fun kq v3 v4 v6 v8 w'=>∃ (x3_2 : Int) (x4_2 : Int) (x5_2 : List Int) (x6_2 : Bool) (x8_2 : Int),v3 = .int .i64 x3_2 ∧ v4 = .int .i64 x4_2 ∧ v6 = .bool x6_2 ∧ v8 = .int .i64 x8_2 ∧ Aside0 (locklessref03_Check.l1 kq x3_2 x4_2 x5_2 x6_2 x7_1 x8_2 l0_0 = some r) ∧ Aside0 (kq ≤ k1) ∧ Aside0 (Kd.R (Kd.int .i64) 3 w' w.heap.size (fun _=>True) v106 x5_2) ∧ Aside0 (w'.heap[gb104]? = some (.cells #[(.slice A0_0 l0_0.length c0_0)] 24 (0,0))) ∧ Aside0 (Below w.heap.size w w'))
       case atStart=>exact ⟨(x3_1),(x4_1),(x5_1),(x6_1),(0),(by first|rfl|(simp;done)|(simp [*];done)),(by first|rfl|(simp;done)|(simp [*];done)),(by first|rfl|(simp;done)|(simp [*];done)),(by first|rfl|(simp;done)|(simp [*];done)),H',⟨Nat.le_refl _⟩,⟨by (with_reducible repeat (first|apply Kd.R_alloc|apply Kd.R_drewN|apply Kd.R_drew));exact HO_5.out⟩,⟨by (with_reducible repeat (first|apply kN|apply kD|apply kA));exact BK104.out⟩,⟨by repeat (first|(with_reducible first|exact HB.out|apply below_alloc|apply pw_below_drewN|apply below_drew1|refine below_set ?_ GE104.out)|exact HB.out)⟩⟩
       case round=>
        clear H'
        (try clear c1);(try clear c2);(try clear c2b0);(try clear c2b1);(try clear p2);(try clear c7);(try clear c7b0);(try clear hcz6_0);(try clear hcz8_0);(try clear hfz6_0);(try clear hfz8_0);(try clear p2)
        obtain ⟨x3_2,x4_2,x5_2,x6_2,x8_2,rfl,rfl,rfl,rfl,HA,HK2,HO_5,BK104,HB⟩:=hrel
        cases gk with
        | zero=>exact absurd HA.out (by simp [locklessref03_Check.l1])
        | succ k2=>
         have H:=HA.out
         clear HA
         simp only [locklessref03_Check.l1] at H
         by_cases c9 : 0 ≤ x7_1
         · rw [if_pos c9] at H
           have c9b0 : decide (0 ≤ x7_1) = true:=decide_eq_true c9
           clear c9
           by_cases c10 : x7_1 < (l0_0.length : Int)
           · rw [if_pos c10] at H
             have c10b0 : decide (x7_1 < (l0_0.length : Int)) = true:=decide_eq_true c10
             clear c10
             by_cases c11 : x8_2 < ((rd_L2 l0_0 x7_1).length : Int)
             · rw [if_pos c11] at H
               have c11b0 : decide (x8_2 < ((rd_L2 l0_0 x7_1).length : Int)) = true:=decide_eq_true c11
               clear c11
               by_cases c12 : 0 ≤ x8_2
               · rw [if_pos c12] at H
                 have c12b0 : decide (0 ≤ x8_2) = true:=decide_eq_true c12
                 clear c12
                 have HC13:=Aside0.mk H
                 clear H
                 have hcz14_0 : wr.cell? ⟨gb104,0,none⟩ = some (.slice A0_0 l0_0.length c0_0):=(blk_cell BK104.out 0).trans rfl
                 have hfz14_0:=blk_frozen BK104.out 0
                 have p108 : 0 ≤ (x7_1 : Int):=of_decide_eq_true (by first|(with_reducible assumption)|assumption)
                 have q108 : x7_1 < (l0_0.length : Int):=of_decide_eq_true (by first|(with_reducible assumption)|assumption)
                 obtain ⟨ad108,A108_0,c108_0,e108,hx108_0,hl108_0,hi108_0⟩:=at_L2 HR0_0.out x7_1 p108 q108
                 cases e108
                 replace hx108_0:=(HB.out.cell (World.block_lt_of_cell? w _ hx108_0)).trans hx108_0
                 have HR108_0:=Aside0.mk hi108_0
                 have HC108_0:=Aside0.mk hl108_0
                 clear hi108_0 hl108_0
                 replace p108:=eq_true p108
                 replace q108:=eq_true q108
                 have p109 : 0 ≤ (x7_1 : Int):=of_decide_eq_true (by first|(with_reducible assumption)|assumption)
                 have q109 : x7_1 < (l0_0.length : Int):=of_decide_eq_true (by first|(with_reducible assumption)|assumption)
                 obtain ⟨ad109,A109_0,c109_0,e109,hx109_0,hl109_0,hi109_0⟩:=at_L2 HR0_0.out x7_1 p109 q109
                 obtain rfl : ad108 = ad109:=(by injection e109)
                 replace hx109_0:=(HB.out.cell (World.block_lt_of_cell? w _ hx109_0)).trans hx109_0
                 have HR109_0:=Aside0.mk hi109_0
                 have HC109_0:=Aside0.mk hl109_0
                 clear hi109_0 hl109_0
                 replace p109:=eq_true p109
                 replace q109:=eq_true q109
                 have ea_:=Option.some.inj (hx108_0.symm.trans hx109_0)
                 injection ea_ with ea_ en_ ec_
                 subst ea_
                 subst ec_
                 clear en_
                 have p110 : 0 ≤ (x8_2 : Int):=of_decide_eq_true (by first|(with_reducible assumption)|assumption)
                 have q110 : x8_2 < ((rd_L2 l0_0 x7_1).length : Int):=of_decide_eq_true (by first|(with_reducible assumption)|assumption)
                 obtain ⟨ad110,e110,hx110_0,hx110_1,hx110_2,hx110_3,hx110_4⟩:=at_T44 HR109_0.out x8_2 p110 q110
                 cases e110
                 replace hx110_0:=(HB.out.cell (World.block_lt_of_cell? w _ hx110_0)).trans hx110_0
                 replace hx110_1:=(HB.out.cell (World.block_lt_of_cell? w _ hx110_1)).trans hx110_1
                 replace hx110_2:=(HB.out.cell (World.block_lt_of_cell? w _ hx110_2)).trans hx110_2
                 replace hx110_3:=(HB.out.cell (World.block_lt_of_cell? w _ hx110_3)).trans hx110_3
                 replace hx110_4:=(HB.out.cell (World.block_lt_of_cell? w _ hx110_4)).trans hx110_4
                 replace p110:=eq_true p110
                 replace q110:=eq_true q110
                 go_upto_region 12 with (first|((with_reducible refine gate_dst (N:=9) rfl ?_);refine box_event ?hg (N:=9) ?hd (cs:=#[.int .i64 0,.int .i64 0,.int .i64 0,.int .i64 0,.int .i64 0]) (t:=44) ?hr ?_;(case hd=>rfl);(case hg=>rfl);(case hr=>first|(go_simp;done)|(go_simp;rfl));intro gb111 hg w15 hbox hb;have n0_:=Aside0.mk (Kd.R_below (by (with_reducible repeat (first|apply Kd.R_alloc|apply Kd.R_drewN|apply Kd.R_drew));exact HO_5.out) hb);have zgb104:=bk_ hb (zb BK104.out);have n1_:=Aside0.mk zgb104.1;have zT:=two_ hb (by repeat (first|(with_reducible first|exact HB.out|apply below_alloc|apply pw_below_drewN|apply below_drew1|refine below_set ?_ GE104.out)|exact HB.out));have n2_:=Aside0.mk zT.1;have n3_:=Aside0.mk (hbox);have n4_:=Aside0.mk ((by rw [hg];exact zT.2 : w.heap.size ≤ gb111));have n5_:=n4_;have n6_:=Aside0.mk ((by rw [hg];exact zgb104.2 : gb104 ≠ gb111));have n7_:=Aside0.mk n6_.out.symm;clear zgb104 zT;clear HO_5;clear BK104;clear HB;have HO_5:=n0_;have BK104:=n1_;have HB:=n2_;have BK111:=n3_;have GW111:=n4_;have GE111:=n5_;have NB104_111:=n6_;have NB111_104:=n7_;clear n0_ n1_ n2_ n3_ n4_ n5_ n6_ n7_;clear hb hbox hg;have hnb16:=NB111_104.out;have hnc16:=NB104_111.out;have hcz17_0 : w15.cell? ⟨gb111,0,none⟩ = some (.int .i64 0):=(blk_cell BK111.out 0).trans rfl;have hcz17_1 : w15.cell? ⟨gb111,1,none⟩ = some (.int .i64 0):=(blk_cell BK111.out 1).trans rfl;have hcz17_2 : w15.cell? ⟨gb111,2,none⟩ = some (.int .i64 0):=(blk_cell BK111.out 2).trans rfl;have hcz17_3 : w15.cell? ⟨gb111,3,none⟩ = some (.int .i64 0):=(blk_cell BK111.out 3).trans rfl;have hcz17_4 : w15.cell? ⟨gb111,4,none⟩ = some (.int .i64 0):=(blk_cell BK111.out 4).trans rfl;have hfz17_0:=blk_frozen BK111.out 0;have hfz17_1:=blk_frozen BK111.out 1;have hfz17_2:=blk_frozen BK111.out 2;have hfz17_3:=blk_frozen BK111.out 3;have hfz17_4:=blk_frozen BK111.out 4))
                 (try simp only [Act.put,List.setIfInBounds_toArray,List.set_cons_zero,List.set_cons_succ])
                 go_cut [6] (fun v6 wc=>∃ (kq : Nat) (x6_12 : Bool),v6 = .bool x6_12 ∧ Aside0 (locklessref03_Check.j2 kq x3_2 x4_2 x5_2 x6_12 x7_1 x8_2 l0_0 ((rd_T44 (rd_L2 l0_0 x7_1) x8_2).f0) ((rd_T44 (rd_L2 l0_0 x7_1) x8_2).f1) ((rd_T44 (rd_L2 l0_0 x7_1) x8_2).f2) ((rd_T44 (rd_L2 l0_0 x7_1) x8_2).f3) ((rd_T44 (rd_L2 l0_0 x7_1) x8_2).f4) = some r) ∧ Aside0 (kq ≤ k2) ∧ Aside0 (Kd.R (Kd.int .i64) 3 wc w.heap.size (fun _=>True) v106 x5_2) ∧ Aside0 (wc.heap[gb104]? = some (.cells #[(.slice (some ad108) l0_0.length c0_0)] 24 (0,0))) ∧ Aside0 (wc.heap[gb111]? = some (.cells #[.int .i64 ((rd_T44 (rd_L2 l0_0 x7_1) x8_2).f0),.int .i64 ((rd_T44 (rd_L2 l0_0 x7_1) x8_2).f1),.int .i64 ((rd_T44 (rd_L2 l0_0 x7_1) x8_2).f2),.int .i64 ((rd_T44 (rd_L2 l0_0 x7_1) x8_2).f3),.int .i64 ((rd_T44 (rd_L2 l0_0 x7_1) x8_2).f4)] 44 (0,0))) ∧ Aside0 (Below w.heap.size w wc))
                 case first=>
                  have H:=HC13.out
                  clear HC13
                  by_cases c18 : x6_2 = true
                  · subst c18
                    have H1 : ((locklessref03_isOp.f k2 ((rd_T44 (rd_L2 l0_0 x7_1) x8_2).f0) ((rd_T44 (rd_L2 l0_0 x7_1) x8_2).f1) ((rd_T44 (rd_L2 l0_0 x7_1) x8_2).f2) ((rd_T44 (rd_L2 l0_0 x7_1) x8_2).f3) ((rd_T44 (rd_L2 l0_0 x7_1) x8_2).f4)).bind fun t112=>(locklessref03_Check.j2 k2 x3_2 x4_2 x5_2 t112 x7_1 x8_2 l0_0 ((rd_T44 (rd_L2 l0_0 x7_1) x8_2).f0) ((rd_T44 (rd_L2 l0_0 x7_1) x8_2).f1) ((rd_T44 (rd_L2 l0_0 x7_1) x8_2).f2) ((rd_T44 (rd_L2 l0_0 x7_1) x8_2).f3) ((rd_T44 (rd_L2 l0_0 x7_1) x8_2).f4))) = some r:=by rw [if_pos rfl] at H;exact H
                    clear H
                    have H:=H1
                    clear H1
                    replace H:=Option.bind_eq_some_iff.mp H
                    obtain ⟨t112,A190,H⟩:=H
                    replace H : (locklessref03_Check.j2 k2 x3_2 x4_2 x5_2 t112 x7_1 x8_2 l0_0 ((rd_T44 (rd_L2 l0_0 x7_1) x8_2).f0) ((rd_T44 (rd_L2 l0_0 x7_1) x8_2).f1) ((rd_T44 (rd_L2 l0_0 x7_1) x8_2).f2) ((rd_T44 (rd_L2 l0_0 x7_1) x8_2).f3) ((rd_T44 (rd_L2 l0_0 x7_1) x8_2).f4)) = some r:=H
                    have A19:=Aside0.mk A190
                    clear A190
                    have H':=Aside0.mk H
                    clear H
                    have hnb20:=NB111_104.out
                    have hnc20:=NB104_111.out
                    have hcz21_0 : w15.cell? ⟨gb111,0,none⟩ = some (.int .i64 0):=(blk_cell BK111.out 0).trans rfl
                    have hcz21_1 : w15.cell? ⟨gb111,1,none⟩ = some (.int .i64 0):=(blk_cell BK111.out 1).trans rfl
                    have hcz21_2 : w15.cell? ⟨gb111,2,none⟩ = some (.int .i64 0):=(blk_cell BK111.out 2).trans rfl
                    have hcz21_3 : w15.cell? ⟨gb111,3,none⟩ = some (.int .i64 0):=(blk_cell BK111.out 3).trans rfl
                    have hcz21_4 : w15.cell? ⟨gb111,4,none⟩ = some (.int .i64 0):=(blk_cell BK111.out 4).trans rfl
                    have hfz21_0:=blk_frozen BK111.out 0
                    have hfz21_1:=blk_frozen BK111.out 1
                    have hfz21_2:=blk_frozen BK111.out 2
                    have hfz21_3:=blk_frozen BK111.out 3
                    have hfz21_4:=blk_frozen BK111.out 4
                    go_wp2_with (first|(go_at_call 34;(with_reducible refine (locklessref03_isOp.calls k2 ((rd_T44 (rd_L2 l0_0 x7_1) x8_2).f0) ((rd_T44 (rd_L2 l0_0 x7_1) x8_2).f1) ((rd_T44 (rd_L2 l0_0 x7_1) x8_2).f2) ((rd_T44 (rd_L2 l0_0 x7_1) x8_2).f3) ((rd_T44 (rd_L2 l0_0 x7_1) x8_2).f4) t112 _ A19.out).mono ?_);rintro e w22 ⟨rfl,hb⟩;have n0_:=Aside0.mk (Kd.R_below (by (with_reducible repeat (first|apply Kd.R_alloc|apply Kd.R_drewN|apply Kd.R_drew));exact (Kd.R_mono (Kd.R_far (p:=⟨gb111,4,none⟩) (Kd.R_far (p:=⟨gb111,3,none⟩) (Kd.R_far (p:=⟨gb111,2,none⟩) (Kd.R_far (p:=⟨gb111,1,none⟩) (Kd.R_far (p:=⟨gb111,0,none⟩) (Kd.R_types HO_5.out BK111.out (by decide)) (fun _ hk=>hk.2) (.int .i64 ((rd_T44 (rd_L2 l0_0 x7_1) x8_2).f0))) (fun _ hk=>hk.2) (.int .i64 ((rd_T44 (rd_L2 l0_0 x7_1) x8_2).f1))) (fun _ hk=>hk.2) (.int .i64 ((rd_T44 (rd_L2 l0_0 x7_1) x8_2).f2))) (fun _ hk=>hk.2) (.int .i64 ((rd_T44 (rd_L2 l0_0 x7_1) x8_2).f3))) (fun _ hk=>hk.2) (.int .i64 ((rd_T44 (rd_L2 l0_0 x7_1) x8_2).f4))) (fun _ h_=>h_.1))) hb);have n1_:=Aside0.mk (blk_below (g:=gb104) (o:=.cells #[.slice (some ad108) l0_0.length c0_0] 24 (0,0)) (by (with_reducible repeat (first|apply kN|apply kD|apply kA));refine blk_far ?_ NB104_111.out _;(with_reducible repeat (first|apply kN|apply kD|apply kA));refine blk_far ?_ NB104_111.out _;(with_reducible repeat (first|apply kN|apply kD|apply kA));refine blk_far ?_ NB104_111.out _;(with_reducible repeat (first|apply kN|apply kD|apply kA));refine blk_far ?_ NB104_111.out _;(with_reducible repeat (first|apply kN|apply kD|apply kA));refine blk_far ?_ NB104_111.out _;(with_reducible repeat (first|apply kN|apply kD|apply kA));exact BK104.out) hb);have n2_:=Aside0.mk (blk_below (g:=gb111) (o:=.cells #[.int .i64 ((rd_T44 (rd_L2 l0_0 x7_1) x8_2).f0),.int .i64 ((rd_T44 (rd_L2 l0_0 x7_1) x8_2).f1),.int .i64 ((rd_T44 (rd_L2 l0_0 x7_1) x8_2).f2),.int .i64 ((rd_T44 (rd_L2 l0_0 x7_1) x8_2).f3),.int .i64 ((rd_T44 (rd_L2 l0_0 x7_1) x8_2).f4)] 44 (0,0)) (by (with_reducible repeat (first|apply kN|apply kD|apply kA));refine blk_put (cs:=#[.int .i64 ((rd_T44 (rd_L2 l0_0 x7_1) x8_2).f0),.int .i64 ((rd_T44 (rd_L2 l0_0 x7_1) x8_2).f1),.int .i64 ((rd_T44 (rd_L2 l0_0 x7_1) x8_2).f2),.int .i64 ((rd_T44 (rd_L2 l0_0 x7_1) x8_2).f3),.int .i64 0]) ?_ 4 _ rfl;(with_reducible repeat (first|apply kN|apply kD|apply kA));refine blk_put (cs:=#[.int .i64 ((rd_T44 (rd_L2 l0_0 x7_1) x8_2).f0),.int .i64 ((rd_T44 (rd_L2 l0_0 x7_1) x8_2).f1),.int .i64 ((rd_T44 (rd_L2 l0_0 x7_1) x8_2).f2),.int .i64 0,.int .i64 0]) ?_ 3 _ rfl;(with_reducible repeat (first|apply kN|apply kD|apply kA));refine blk_put (cs:=#[.int .i64 ((rd_T44 (rd_L2 l0_0 x7_1) x8_2).f0),.int .i64 ((rd_T44 (rd_L2 l0_0 x7_1) x8_2).f1),.int .i64 0,.int .i64 0,.int .i64 0]) ?_ 2 _ rfl;(with_reducible repeat (first|apply kN|apply kD|apply kA));refine blk_put (cs:=#[.int .i64 ((rd_T44 (rd_L2 l0_0 x7_1) x8_2).f0),.int .i64 0,.int .i64 0,.int .i64 0,.int .i64 0]) ?_ 1 _ rfl;(with_reducible repeat (first|apply kN|apply kD|apply kA));refine blk_put (cs:=#[.int .i64 0,.int .i64 0,.int .i64 0,.int .i64 0,.int .i64 0]) ?_ 0 _ rfl;(with_reducible repeat (first|apply kN|apply kD|apply kA));exact BK111.out) hb);have n3_:=Aside0.mk (below_step (by repeat (first|(with_reducible first|exact HB.out|apply below_alloc|apply pw_below_drewN|apply below_drew1|refine below_set ?_ GE104.out|refine below_set ?_ GE111.out)|exact HB.out)) hb);clear HO_5;clear BK104;clear BK111;clear HB;have HO_5:=n0_;have BK104:=n1_;have BK111:=n2_;have HB:=n3_;clear n0_ n1_ n2_ n3_;(try clear hb);(try clear hb2);(try clear hk);(try clear hi)))
                    go_meet
                    case rel=>exact ⟨_,(t112),(by first|rfl|(simp;done)|(simp [*];done)),H',⟨by have:=HK1.out;have:=HK2.out;first|omega|exact Nat.le_refl _⟩,⟨by (with_reducible repeat (first|apply Kd.R_alloc|apply Kd.R_drewN|apply Kd.R_drew));exact HO_5.out⟩,⟨by (with_reducible repeat (first|apply kN|apply kD|apply kA));exact BK104.out⟩,⟨by (with_reducible repeat (first|apply kN|apply kD|apply kA));exact BK111.out⟩,⟨by repeat (first|(with_reducible first|exact HB.out|apply below_alloc|apply pw_below_drewN|apply below_drew1|refine below_set ?_ GE104.out|refine below_set ?_ GE111.out)|exact HB.out)⟩⟩
                  · replace c18:=Bool.eq_false_iff.mpr c18
                    subst c18
                    have H1 : (locklessref03_Check.j2 k2 x3_2 x4_2 x5_2 false x7_1 x8_2 l0_0 ((rd_T44 (rd_L2 l0_0 x7_1) x8_2).f0) ((rd_T44 (rd_L2 l0_0 x7_1) x8_2).f1) ((rd_T44 (rd_L2 l0_0 x7_1) x8_2).f2) ((rd_T44 (rd_L2 l0_0 x7_1) x8_2).f3) ((rd_T44 (rd_L2 l0_0 x7_1) x8_2).f4)) = some r:=by rw [if_neg (show ¬ (false = true) by decide)] at H;exact H
                    clear H
                    have H:=H1
                    clear H1
                    have H':=Aside0.mk H
                    clear H
                    go_wp2
                    go_meet
                    case rel=>exact ⟨_,(false),(by first|rfl|(simp;done)|(simp [*];done)),H',⟨by have:=HK1.out;have:=HK2.out;first|omega|exact Nat.le_refl _⟩,⟨by (with_reducible repeat (first|apply Kd.R_alloc|apply Kd.R_drewN|apply Kd.R_drew));exact Kd.R_mono (Kd.R_far (p:=⟨gb111,4,none⟩) (Kd.R_far (p:=⟨gb111,3,none⟩) (Kd.R_far (p:=⟨gb111,2,none⟩) (Kd.R_far (p:=⟨gb111,1,none⟩) (Kd.R_far (p:=⟨gb111,0,none⟩) (Kd.R_types HO_5.out BK111.out (by decide)) (fun _ hk=>hk.2) (.int .i64 ((rd_T44 (rd_L2 l0_0 x7_1) x8_2).f0))) (fun _ hk=>hk.2) (.int .i64 ((rd_T44 (rd_L2 l0_0 x7_1) x8_2).f1))) (fun _ hk=>hk.2) (.int .i64 ((rd_T44 (rd_L2 l0_0 x7_1) x8_2).f2))) (fun _ hk=>hk.2) (.int .i64 ((rd_T44 (rd_L2 l0_0 x7_1) x8_2).f3))) (fun _ hk=>hk.2) (.int .i64 ((rd_T44 (rd_L2 l0_0 x7_1) x8_2).f4))) (fun _ hk=>trivial)⟩,⟨by (with_reducible repeat (first|apply kN|apply kD|apply kA));refine blk_far ?_ NB104_111.out _;(with_reducible repeat (first|apply kN|apply kD|apply kA));refine blk_far ?_ NB104_111.out _;(with_reducible repeat (first|apply kN|apply kD|apply kA));refine blk_far ?_ NB104_111.out _;(with_reducible repeat (first|apply kN|apply kD|apply kA));refine blk_far ?_ NB104_111.out _;(with_reducible repeat (first|apply kN|apply kD|apply kA));refine blk_far ?_ NB104_111.out _;(with_reducible repeat (first|apply kN|apply kD|apply kA));exact BK104.out⟩,⟨by (with_reducible repeat (first|apply kN|apply kD|apply kA));refine blk_put (cs:=#[.int .i64 ((rd_T44 (rd_L2 l0_0 x7_1) x8_2).f0),.int .i64 ((rd_T44 (rd_L2 l0_0 x7_1) x8_2).f1),.int .i64 ((rd_T44 (rd_L2 l0_0 x7_1) x8_2).f2),.int .i64 ((rd_T44 (rd_L2 l0_0 x7_1) x8_2).f3),.int .i64 0]) ?_ 4 _ rfl;(with_reducible repeat (first|apply kN|apply kD|apply kA));refine blk_put (cs:=#[.int .i64 ((rd_T44 (rd_L2 l0_0 x7_1) x8_2).f0),.int .i64 ((rd_T44 (rd_L2 l0_0 x7_1) x8_2).f1),.int .i64 ((rd_T44 (rd_L2 l0_0 x7_1) x8_2).f2),.int .i64 0,.int .i64 0]) ?_ 3 _ rfl;(with_reducible repeat (first|apply kN|apply kD|apply kA));refine blk_put (cs:=#[.int .i64 ((rd_T44 (rd_L2 l0_0 x7_1) x8_2).f0),.int .i64 ((rd_T44 (rd_L2 l0_0 x7_1) x8_2).f1),.int .i64 0,.int .i64 0,.int .i64 0]) ?_ 2 _ rfl;(with_reducible repeat (first|apply kN|apply kD|apply kA));refine blk_put (cs:=#[.int .i64 ((rd_T44 (rd_L2 l0_0 x7_1) x8_2).f0),.int .i64 0,.int .i64 0,.int .i64 0,.int .i64 0]) ?_ 1 _ rfl;(with_reducible repeat (first|apply kN|apply kD|apply kA));refine blk_put (cs:=#[.int .i64 0,.int .i64 0,.int .i64 0,.int .i64 0,.int .i64 0]) ?_ 0 _ rfl;(with_reducible repeat (first|apply kN|apply kD|apply kA));exact BK111.out⟩,⟨by repeat (first|(with_reducible first|exact HB.out|apply below_alloc|apply pw_below_drewN|apply below_drew1|refine below_set ?_ GE104.out|refine below_set ?_ GE111.out)|exact HB.out)⟩⟩
                 case rest=>
                  clear HC13
                  (try clear c1);(try clear p1);(try clear q1);(try clear hx1);(try clear c2);(try clear c2b0);(try clear c2b1);(try clear p2);(try clear c7);(try clear c7b0);(try clear c9);(try clear c9b0);(try clear c10);(try clear c10b0);(try clear p10);(try clear q10);(try clear hx10);(try clear c11);(try clear c11b0);(try clear p11);(try clear q11);(try clear hx11);(try clear c12);(try clear c12b0);(try clear c15);(try clear c16);(try clear c18);(try clear c20);(try clear hcz14_0);(try clear hcz17_0);(try clear hcz17_1);(try clear hcz17_2);(try clear hcz17_3);(try clear hcz17_4);(try clear hcz21_0);(try clear hcz21_1);(try clear hcz21_2);(try clear hcz21_3);(try clear hcz21_4);(try clear hcz6_0);(try clear hcz8_0);(try clear hfz14_0);(try clear hfz17_0);(try clear hfz17_1);(try clear hfz17_2);(try clear hfz17_3);(try clear hfz17_4);(try clear hfz21_0);(try clear hfz21_1);(try clear hfz21_2);(try clear hfz21_3);(try clear hfz21_4);(try clear hfz6_0);(try clear hfz8_0);(try clear hx108_0);(try clear hx109_0);(try clear hx110_0);(try clear hx110_1);(try clear hx110_2);(try clear hx110_3);(try clear hx110_4);(try clear p108);(try clear p109);(try clear p110);(try clear p2);(try clear q108);(try clear q109);(try clear q110)
                  obtain ⟨kq,x6_12,rfl,HA,HJ12,HO_5,BK104,BK111,HB⟩:=hcut
                  cases kq with
                  | zero=>exact absurd HA.out (by simp [locklessref03_Check.j2])
                  | succ kj12=>
                   have H:=HA.out
                   clear HA
                   simp only [locklessref03_Check.j2] at H
                   have HC23:=Aside0.mk H
                   clear H
                   have hnb24:=NB111_104.out
                   have hnc24:=NB104_111.out
                   have hcz25_0 : wc.cell? ⟨gb111,0,none⟩ = some (.int .i64 ((rd_T44 (rd_L2 l0_0 x7_1) x8_2).f0)):=(blk_cell BK111.out 0).trans rfl
                   have hcz25_1 : wc.cell? ⟨gb111,1,none⟩ = some (.int .i64 ((rd_T44 (rd_L2 l0_0 x7_1) x8_2).f1)):=(blk_cell BK111.out 1).trans rfl
                   have hcz25_2 : wc.cell? ⟨gb111,2,none⟩ = some (.int .i64 ((rd_T44 (rd_L2 l0_0 x7_1) x8_2).f2)):=(blk_cell BK111.out 2).trans rfl
                   have hcz25_3 : wc.cell? ⟨gb111,3,none⟩ = some (.int .i64 ((rd_T44 (rd_L2 l0_0 x7_1) x8_2).f3)):=(blk_cell BK111.out 3).trans rfl
                   have hcz25_4 : wc.cell? ⟨gb111,4,none⟩ = some (.int .i64 ((rd_T44 (rd_L2 l0_0 x7_1) x8_2).f4)):=(blk_cell BK111.out 4).trans rfl
                   have hfz25_0:=blk_frozen BK111.out 0
                   have hfz25_1:=blk_frozen BK111.out 1
                   have hfz25_2:=blk_frozen BK111.out 2
                   have hfz25_3:=blk_frozen BK111.out 3
                   have hfz25_4:=blk_frozen BK111.out 4
                   go_upto_if 48 with (fail)
                   go_cut [4] (fun v4 wc=>∃ (kq : Nat) (x4_22 : Int),v4 = .int .i64 x4_22 ∧ Aside0 (locklessref03_Check.j3 kq x3_2 x4_22 x5_2 x6_12 x7_1 x8_2 l0_0 ((rd_T44 (rd_L2 l0_0 x7_1) x8_2).f0) ((rd_T44 (rd_L2 l0_0 x7_1) x8_2).f1) ((rd_T44 (rd_L2 l0_0 x7_1) x8_2).f2) ((rd_T44 (rd_L2 l0_0 x7_1) x8_2).f3) ((rd_T44 (rd_L2 l0_0 x7_1) x8_2).f4) = some r) ∧ Aside0 (kq ≤ kj12) ∧ Aside0 (Kd.R (Kd.int .i64) 3 wc w.heap.size (fun _=>True) v106 x5_2) ∧ Aside0 (wc.heap[gb104]? = some (.cells #[(.slice (some ad108) l0_0.length c0_0)] 24 (0,0))) ∧ Aside0 (wc.heap[gb111]? = some (.cells #[.int .i64 ((rd_T44 (rd_L2 l0_0 x7_1) x8_2).f0),.int .i64 ((rd_T44 (rd_L2 l0_0 x7_1) x8_2).f1),.int .i64 ((rd_T44 (rd_L2 l0_0 x7_1) x8_2).f2),.int .i64 ((rd_T44 (rd_L2 l0_0 x7_1) x8_2).f3),.int .i64 ((rd_T44 (rd_L2 l0_0 x7_1) x8_2).f4)] 44 (0,0))) ∧ Aside0 (Below w.heap.size w wc))
                   case first=>
                    have H:=HC23.out
                    clear HC23
                    by_cases c26 : ((rd_T44 (rd_L2 l0_0 x7_1) x8_2).f0) = 5
                    · rw [if_pos c26] at H
                      have c26b0 : (((rd_T44 (rd_L2 l0_0 x7_1) x8_2).f0) == 5) = true:=beq_iff_eq.mpr c26
                      have c26b1 : (((rd_T44 (rd_L2 l0_0 x7_1) x8_2).f0) != 5) = false:=bne_eq_false_iff_eq.mpr c26
                      clear c26
                      (first|rw [c26b0]|(simp only [i64_w,i32_w];rw [c26b0])|skip)
                      have H':=Aside0.mk H
                      clear H
                      go_wp2
                      go_meet
                      case rel=>exact ⟨_,(wrap64 (x4_2 + 1)),(by first|rfl|(simp;done)|(simp [*];done)),H',⟨by have:=HK1.out;have:=HK2.out;have:=HJ12.out;first|omega|exact Nat.le_refl _⟩,⟨by (with_reducible repeat (first|apply Kd.R_alloc|apply Kd.R_drewN|apply Kd.R_drew));exact HO_5.out⟩,⟨by (with_reducible repeat (first|apply kN|apply kD|apply kA));exact BK104.out⟩,⟨by (with_reducible repeat (first|apply kN|apply kD|apply kA));exact BK111.out⟩,⟨by repeat (first|(with_reducible first|exact HB.out|apply below_alloc|apply pw_below_drewN|apply below_drew1|refine below_set ?_ GE104.out|refine below_set ?_ GE111.out)|exact HB.out)⟩⟩
                    · rw [if_neg c26] at H
                      have c26b0 : (((rd_T44 (rd_L2 l0_0 x7_1) x8_2).f0) == 5) = false:=beq_eq_false_iff_ne.mpr c26
                      have c26b1 : (((rd_T44 (rd_L2 l0_0 x7_1) x8_2).f0) != 5) = true:=bne_iff_ne.mpr c26
                      (first|rw [c26b0]|(simp only [i64_w,i32_w];rw [c26b0])|skip)
                      have H':=Aside0.mk H
                      clear H
                      go_wp2
                      go_meet
                      case rel=>exact ⟨_,(x4_2),(by first|rfl|(simp;done)|(simp [*];done)),H',⟨by have:=HK1.out;have:=HK2.out;have:=HJ12.out;first|omega|exact Nat.le_refl _⟩,⟨by (with_reducible repeat (first|apply Kd.R_alloc|apply Kd.R_drewN|apply Kd.R_drew));exact HO_5.out⟩,⟨by (with_reducible repeat (first|apply kN|apply kD|apply kA));exact BK104.out⟩,⟨by (with_reducible repeat (first|apply kN|apply kD|apply kA));exact BK111.out⟩,⟨by repeat (first|(with_reducible first|exact HB.out|apply below_alloc|apply pw_below_drewN|apply below_drew1|refine below_set ?_ GE104.out|refine below_set ?_ GE111.out)|exact HB.out)⟩⟩
                   case rest=>
                    clear HC23
                    (try clear c1);(try clear p1);(try clear q1);(try clear hx1);(try clear c2);(try clear c2b0);(try clear c2b1);(try clear p2);(try clear p6);(try clear c7);(try clear c7b0);(try clear c9);(try clear c9b0);(try clear c10);(try clear c10b0);(try clear p10);(try clear q10);(try clear hx10);(try clear c11);(try clear c11b0);(try clear p11);(try clear q11);(try clear hx11);(try clear c12);(try clear c12b0);(try clear c15);(try clear c16);(try clear c18);(try clear c20);(try clear c24);(try clear c26);(try clear c26b0);(try clear c26b1);(try clear hcz14_0);(try clear hcz17_0);(try clear hcz17_1);(try clear hcz17_2);(try clear hcz17_3);(try clear hcz17_4);(try clear hcz21_0);(try clear hcz21_1);(try clear hcz21_2);(try clear hcz21_3);(try clear hcz21_4);(try clear hcz25_0);(try clear hcz25_1);(try clear hcz25_2);(try clear hcz25_3);(try clear hcz25_4);(try clear hcz6_0);(try clear hcz8_0);(try clear hfz14_0);(try clear hfz17_0);(try clear hfz17_1);(try clear hfz17_2);(try clear hfz17_3);(try clear hfz17_4);(try clear hfz21_0);(try clear hfz21_1);(try clear hfz21_2);(try clear hfz21_3);(try clear hfz21_4);(try clear hfz25_0);(try clear hfz25_1);(try clear hfz25_2);(try clear hfz25_3);(try clear hfz25_4);(try clear hfz6_0);(try clear hfz8_0);(try clear hx108_0);(try clear hx109_0);(try clear hx110_0);(try clear hx110_1);(try clear hx110_2);(try clear hx110_3);(try clear hx110_4);(try clear p1);(try clear p10);(try clear p108);(try clear p109);(try clear p11);(try clear p110);(try clear p2);(try clear q1);(try clear q10);(try clear q108);(try clear q109);(try clear q11);(try clear q110)
                    obtain ⟨kq,x4_22,rfl,HA,HJ22,HO_5,BK104,BK111,HB⟩:=hcut
                    cases kq with
                    | zero=>exact absurd HA.out (by simp [locklessref03_Check.j3])
                    | succ kj22=>
                     have H:=HA.out
                     clear HA
                     simp only [locklessref03_Check.j3] at H
                     replace H:=Option.bind_eq_some_iff.mp H
                     obtain ⟨t113,A270,H⟩:=H
                     replace H : (if t113 = true then (if ((rd_T44 (rd_L2 l0_0 x7_1) x8_2).f4) = 4 then (if ((rd_T44 (rd_L2 l0_0 x7_1) x8_2).f0) > 0 then (if ((rd_T44 (rd_L2 l0_0 x7_1) x8_2).f1) ≥ 0 then (if ((rd_T44 (rd_L2 l0_0 x7_1) x8_2).f1) < 3 then (if 0 ≤ ((rd_T44 (rd_L2 l0_0 x7_1) x8_2).f1) then (if ((rd_T44 (rd_L2 l0_0 x7_1) x8_2).f1) < (x5_2.length : Int) then (locklessref03_Check.l1 kj22 (wrap64 (x3_2 + 1)) (wrap64 (x4_22 + 2)) (x5_2.set (((rd_T44 (rd_L2 l0_0 x7_1) x8_2).f1) : Int).toNat (wrap64 ((rd x5_2 ((rd_T44 (rd_L2 l0_0 x7_1) x8_2).f1)) + 1))) x6_12 x7_1 (wrap64 (x8_2 + 1)) l0_0) else (none)) else (none)) else (locklessref03_Check.l1 kj22 (wrap64 (x3_2 + 1)) (wrap64 (x4_22 + 2)) x5_2 x6_12 x7_1 (wrap64 (x8_2 + 1)) l0_0)) else (locklessref03_Check.l1 kj22 (wrap64 (x3_2 + 1)) (wrap64 (x4_22 + 2)) x5_2 x6_12 x7_1 (wrap64 (x8_2 + 1)) l0_0)) else (locklessref03_Check.l1 kj22 (wrap64 (x3_2 + 1)) (wrap64 (x4_22 + 2)) x5_2 x6_12 x7_1 (wrap64 (x8_2 + 1)) l0_0)) else (if ((rd_T44 (rd_L2 l0_0 x7_1) x8_2).f0) > 0 then (if ((rd_T44 (rd_L2 l0_0 x7_1) x8_2).f1) ≥ 0 then (if ((rd_T44 (rd_L2 l0_0 x7_1) x8_2).f1) < 3 then (if 0 ≤ ((rd_T44 (rd_L2 l0_0 x7_1) x8_2).f1) then (if ((rd_T44 (rd_L2 l0_0 x7_1) x8_2).f1) < (x5_2.length : Int) then (locklessref03_Check.l1 kj22 (wrap64 (x3_2 + 1)) x4_22 (x5_2.set (((rd_T44 (rd_L2 l0_0 x7_1) x8_2).f1) : Int).toNat (wrap64 ((rd x5_2 ((rd_T44 (rd_L2 l0_0 x7_1) x8_2).f1)) + 1))) x6_12 x7_1 (wrap64 (x8_2 + 1)) l0_0) else (none)) else (none)) else (locklessref03_Check.l1 kj22 (wrap64 (x3_2 + 1)) x4_22 x5_2 x6_12 x7_1 (wrap64 (x8_2 + 1)) l0_0)) else (locklessref03_Check.l1 kj22 (wrap64 (x3_2 + 1)) x4_22 x5_2 x6_12 x7_1 (wrap64 (x8_2 + 1)) l0_0)) else (locklessref03_Check.l1 kj22 (wrap64 (x3_2 + 1)) x4_22 x5_2 x6_12 x7_1 (wrap64 (x8_2 + 1)) l0_0))) else (locklessref03_Check.l1 kj22 x3_2 x4_22 x5_2 x6_12 x7_1 (wrap64 (x8_2 + 1)) l0_0)) = some r:=H
                     have A27:=Aside0.mk A270
                     clear A270
                     by_cases c28 : t113 = true
                     · subst c28
                       have H1 : (if ((rd_T44 (rd_L2 l0_0 x7_1) x8_2).f4) = 4 then (if ((rd_T44 (rd_L2 l0_0 x7_1) x8_2).f0) > 0 then (if ((rd_T44 (rd_L2 l0_0 x7_1) x8_2).f1) ≥ 0 then (if ((rd_T44 (rd_L2 l0_0 x7_1) x8_2).f1) < 3 then (if 0 ≤ ((rd_T44 (rd_L2 l0_0 x7_1) x8_2).f1) then (if ((rd_T44 (rd_L2 l0_0 x7_1) x8_2).f1) < (x5_2.length : Int) then (locklessref03_Check.l1 kj22 (wrap64 (x3_2 + 1)) (wrap64 (x4_22 + 2)) (x5_2.set (((rd_T44 (rd_L2 l0_0 x7_1) x8_2).f1) : Int).toNat (wrap64 ((rd x5_2 ((rd_T44 (rd_L2 l0_0 x7_1) x8_2).f1)) + 1))) x6_12 x7_1 (wrap64 (x8_2 + 1)) l0_0) else (none)) else (none)) else (locklessref03_Check.l1 kj22 (wrap64 (x3_2 + 1)) (wrap64 (x4_22 + 2)) x5_2 x6_12 x7_1 (wrap64 (x8_2 + 1)) l0_0)) else (locklessref03_Check.l1 kj22 (wrap64 (x3_2 + 1)) (wrap64 (x4_22 + 2)) x5_2 x6_12 x7_1 (wrap64 (x8_2 + 1)) l0_0)) else (locklessref03_Check.l1 kj22 (wrap64 (x3_2 + 1)) (wrap64 (x4_22 + 2)) x5_2 x6_12 x7_1 (wrap64 (x8_2 + 1)) l0_0)) else (if ((rd_T44 (rd_L2 l0_0 x7_1) x8_2).f0) > 0 then (if ((rd_T44 (rd_L2 l0_0 x7_1) x8_2).f1) ≥ 0 then (if ((rd_T44 (rd_L2 l0_0 x7_1) x8_2).f1) < 3 then (if 0 ≤ ((rd_T44 (rd_L2 l0_0 x7_1) x8_2).f1) then (if ((rd_T44 (rd_L2 l0_0 x7_1) x8_2).f1) < (x5_2.length : Int) then (locklessref03_Check.l1 kj22 (wrap64 (x3_2 + 1)) x4_22 (x5_2.set (((rd_T44 (rd_L2 l0_0 x7_1) x8_2).f1) : Int).toNat (wrap64 ((rd x5_2 ((rd_T44 (rd_L2 l0_0 x7_1) x8_2).f1)) + 1))) x6_12 x7_1 (wrap64 (x8_2 + 1)) l0_0) else (none)) else (none)) else (locklessref03_Check.l1 kj22 (wrap64 (x3_2 + 1)) x4_22 x5_2 x6_12 x7_1 (wrap64 (x8_2 + 1)) l0_0)) else (locklessref03_Check.l1 kj22 (wrap64 (x3_2 + 1)) x4_22 x5_2 x6_12 x7_1 (wrap64 (x8_2 + 1)) l0_0)) else (locklessref03_Check.l1 kj22 (wrap64 (x3_2 + 1)) x4_22 x5_2 x6_12 x7_1 (wrap64 (x8_2 + 1)) l0_0))) = some r:=by rw [if_pos rfl] at H;exact H
                       clear H
                       have H:=H1
                       clear H1
                       by_cases c29 : ((rd_T44 (rd_L2 l0_0 x7_1) x8_2).f4) = 4
                       · rw [if_pos c29] at H
                         have c29b0 : (((rd_T44 (rd_L2 l0_0 x7_1) x8_2).f4) == 4) = true:=beq_iff_eq.mpr c29
                         have c29b1 : (((rd_T44 (rd_L2 l0_0 x7_1) x8_2).f4) != 4) = false:=bne_eq_false_iff_eq.mpr c29
                         clear c29
                         by_cases c30 : ((rd_T44 (rd_L2 l0_0 x7_1) x8_2).f0) > 0
                         · rw [if_pos c30] at H
                           have c30b0 : decide (0 < ((rd_T44 (rd_L2 l0_0 x7_1) x8_2).f0)) = true:=decide_eq_true c30
                           clear c30
                           by_cases c31 : ((rd_T44 (rd_L2 l0_0 x7_1) x8_2).f1) ≥ 0
                           · rw [if_pos c31] at H
                             have c31b0 : decide (0 ≤ ((rd_T44 (rd_L2 l0_0 x7_1) x8_2).f1)) = true:=decide_eq_true c31
                             clear c31
                             by_cases c32 : ((rd_T44 (rd_L2 l0_0 x7_1) x8_2).f1) < 3
                             · rw [if_pos c32] at H
                               have c32b0 : decide (((rd_T44 (rd_L2 l0_0 x7_1) x8_2).f1) < 3) = true:=decide_eq_true c32
                               clear c32
                               by_cases c33 : 0 ≤ ((rd_T44 (rd_L2 l0_0 x7_1) x8_2).f1)
                               · rw [if_pos c33] at H
                                 have c33b0 : decide (0 ≤ ((rd_T44 (rd_L2 l0_0 x7_1) x8_2).f1)) = true:=decide_eq_true c33
                                 clear c33
                                 by_cases c34 : ((rd_T44 (rd_L2 l0_0 x7_1) x8_2).f1) < (x5_2.length : Int)
                                 · rw [if_pos c34] at H
                                   have c34b0 : decide (((rd_T44 (rd_L2 l0_0 x7_1) x8_2).f1) < (x5_2.length : Int)) = true:=decide_eq_true c34
                                   clear c34
                                   obtain ⟨y115,hy115⟩ : ∃ y_ : List Int,y_ = (x5_2.set (((rd_T44 (rd_L2 l0_0 x7_1) x8_2).f1) : Int).toNat (wrap64 ((rd x5_2 ((rd_T44 (rd_L2 l0_0 x7_1) x8_2).f1)) + 1))):=⟨_,rfl⟩
                                   replace H : (locklessref03_Check.l1 kj22 (wrap64 (x3_2 + 1)) (wrap64 (x4_22 + 2)) y115 x6_12 x7_1 (wrap64 (x8_2 + 1)) l0_0) = some r:=by first|(rw [hy115];with_reducible exact H)|(have H2_:=(Option.bind_some _ _).symm.trans H;rw [hy115];with_reducible exact H2_)|(have H2_:=(Option.bind_some _ _).symm.trans H;with_reducible exact H2_)|with_reducible exact H|(rw [hy115];exact H)|exact H
                                   have Ny115:=Aside0.mk hy115
                                   clear hy115
                                   have H':=Aside0.mk H
                                   clear H
                                   have hnb36:=NB111_104.out
                                   have hnc36:=NB104_111.out
                                   have hcz37_0 : wc.cell? ⟨gb111,0,none⟩ = some (.int .i64 ((rd_T44 (rd_L2 l0_0 x7_1) x8_2).f0)):=(blk_cell BK111.out 0).trans rfl
                                   have hcz37_1 : wc.cell? ⟨gb111,1,none⟩ = some (.int .i64 ((rd_T44 (rd_L2 l0_0 x7_1) x8_2).f1)):=(blk_cell BK111.out 1).trans rfl
                                   have hcz37_2 : wc.cell? ⟨gb111,2,none⟩ = some (.int .i64 ((rd_T44 (rd_L2 l0_0 x7_1) x8_2).f2)):=(blk_cell BK111.out 2).trans rfl
                                   have hcz37_3 : wc.cell? ⟨gb111,3,none⟩ = some (.int .i64 ((rd_T44 (rd_L2 l0_0 x7_1) x8_2).f3)):=(blk_cell BK111.out 3).trans rfl
                                   have hcz37_4 : wc.cell? ⟨gb111,4,none⟩ = some (.int .i64 ((rd_T44 (rd_L2 l0_0 x7_1) x8_2).f4)):=(blk_cell BK111.out 4).trans rfl
                                   have hfz37_0:=blk_frozen BK111.out 0
                                   have hfz37_1:=blk_frozen BK111.out 1
                                   have hfz37_2:=blk_frozen BK111.out 2
                                   have hfz37_3:=blk_frozen BK111.out 3
                                   have hfz37_4:=blk_frozen BK111.out 4
                                   try go_wp2_with (first|((with_reducible refine gate_callee (f:=35) rfl ?_);refine goesL_ (some 52) rfl rfl Try.func35 (by kernel_rfl) rfl #[.agg #[.int .i64 ((rd_T44 (rd_L2 l0_0 x7_1) x8_2).f0),.int .i64 ((rd_T44 (rd_L2 l0_0 x7_1) x8_2).f1),.int .i64 ((rd_T44 (rd_L2 l0_0 x7_1) x8_2).f2),.int .i64 ((rd_T44 (rd_L2 l0_0 x7_1) x8_2).f3),.int .i64 ((rd_T44 (rd_L2 l0_0 x7_1) x8_2).f4)]] rfl (by (try simp only [List.map_toArray,List.map_cons,List.map_nil]);first|done|rfl|(simp only [List.length_drop,List.length_take];rfl)) ?_;(with_reducible refine (locklessref03_isAccess.calls ((rd_T44 (rd_L2 l0_0 x7_1) x8_2).f0) ((rd_T44 (rd_L2 l0_0 x7_1) x8_2).f1) ((rd_T44 (rd_L2 l0_0 x7_1) x8_2).f2) ((rd_T44 (rd_L2 l0_0 x7_1) x8_2).f3) ((rd_T44 (rd_L2 l0_0 x7_1) x8_2).f4) true _ A27.out).mono ?_);rintro e w38 ⟨rfl,hb⟩;refine ⟨_,rfl,?_⟩;have n0_:=Aside0.mk (Kd.R_below (by (with_reducible repeat (first|apply Kd.R_alloc|apply Kd.R_drewN|apply Kd.R_drew));exact HO_5.out) hb);have n1_:=Aside0.mk (blk_below (zb BK104.out) hb);have n2_:=Aside0.mk (blk_below (zb BK111.out) hb);have n3_:=Aside0.mk (below_step (by repeat (first|(with_reducible first|exact HB.out|apply below_alloc|apply pw_below_drewN|apply below_drew1|refine below_set ?_ GE104.out|refine below_set ?_ GE111.out)|exact HB.out)) hb);clear HO_5;clear BK104;clear BK111;clear HB;have HO_5:=n0_;have BK104:=n1_;have BK111:=n2_;have HB:=n3_;clear n0_ n1_ n2_ n3_;(try clear hb);(try clear hb2);(try clear hk);(try clear hi);have hcz39_0 : w38.cell? ⟨gb111,0,none⟩ = some (.int .i64 ((rd_T44 (rd_L2 l0_0 x7_1) x8_2).f0)):=(blk_cell BK111.out 0).trans rfl;have hcz39_1 : w38.cell? ⟨gb111,1,none⟩ = some (.int .i64 ((rd_T44 (rd_L2 l0_0 x7_1) x8_2).f1)):=(blk_cell BK111.out 1).trans rfl;have hcz39_2 : w38.cell? ⟨gb111,2,none⟩ = some (.int .i64 ((rd_T44 (rd_L2 l0_0 x7_1) x8_2).f2)):=(blk_cell BK111.out 2).trans rfl;have hcz39_3 : w38.cell? ⟨gb111,3,none⟩ = some (.int .i64 ((rd_T44 (rd_L2 l0_0 x7_1) x8_2).f3)):=(blk_cell BK111.out 3).trans rfl;have hcz39_4 : w38.cell? ⟨gb111,4,none⟩ = some (.int .i64 ((rd_T44 (rd_L2 l0_0 x7_1) x8_2).f4)):=(blk_cell BK111.out 4).trans rfl;have hfz39_0:=blk_frozen BK111.out 0;have hfz39_1:=blk_frozen BK111.out 1;have hfz39_2:=blk_frozen BK111.out 2;have hfz39_3:=blk_frozen BK111.out 3;have hfz39_4:=blk_frozen BK111.out 4))
                                   have n0_:=Aside0.mk (Kd.R_drew HO_5.out)
                                   have n1_:=Aside0.mk (blk_drew BK104.out)
                                   have n2_:=Aside0.mk (blk_drew BK111.out)
                                   have n3_:=Aside0.mk (below_drew1 HB.out)
                                   clear HO_5
                                   clear BK104
                                   clear BK111
                                   clear HB
                                   have HO_5:=n0_
                                   have BK104:=n1_
                                   have BK111:=n2_
                                   have HB:=n3_
                                   clear n0_ n1_ n2_ n3_
                                   obtain ⟨Ao41,co41,eo41⟩:=Kd.R_slice HO_5.out
                                   (first|subst eo41|(injection eo41 with f1_ f2_ f3_;have f4_:=f1_.symm;have f5_:=f3_.symm;clear f1_ f2_ f3_;subst f4_;subst f5_))
                                   have p114 : 0 ≤ (((rd_T44 (rd_L2 l0_0 x7_1) x8_2).f1) : Int):=of_decide_eq_true (by first|(with_reducible assumption)|assumption)
                                   have q114 : ((rd_T44 (rd_L2 l0_0 x7_1) x8_2).f1) < (x5_2.length : Int):=of_decide_eq_true (by first|(with_reducible assumption)|assumption)
                                   obtain ⟨ad114,e114,hx114_0⟩:=Kd.at_int (Kd.R_reads' HO_5.out).2.2 ((rd_T44 (rd_L2 l0_0 x7_1) x8_2).f1) p114 q114
                                   cases e114
                                   replace p114:=eq_true p114
                                   replace q114:=eq_true q114
                                   have p35 : 0 ≤ (((rd_T44 (rd_L2 l0_0 x7_1) x8_2).f1) : Int):=of_decide_eq_true (by first|(with_reducible assumption)|assumption)
                                   have q35 : (((rd_T44 (rd_L2 l0_0 x7_1) x8_2).f1) : Int) < ((x5_2.length : Int) : Int):=of_decide_eq_true (by first|(with_reducible assumption)|assumption)
                                   obtain ⟨go35,co35,eo35,gb35,gl35,cl35,HG35⟩:=Kd.R_form HO_5.out (by omega)
                                   (first|cases eo35|(injection eo35 with ea_ en_ ec_;(first|subst ea_|(injection ea_ with ea_;subst ea_));subst ec_;clear en_))
                                   have GB35:=Aside0.mk gb35
                                   have GG35:=Aside0.mk HG35
                                   clear gb35 gl35 HG35
                                   (first|simp only [add_plain] at hx114_0|skip)
                                   obtain ⟨hx35_0,hf35_0⟩:=Kd.R_celln 0 HO_5.out (((rd_T44 (rd_L2 l0_0 x7_1) x8_2).f1) : Int) p35 q35
                                   replace p35:=eq_true p35
                                   replace q35:=eq_true q35
                                   have HP42:=Kd.R_putn HO_5.out (((rd_T44 (rd_L2 l0_0 x7_1) x8_2).f1) : Int) (wrap64 ((rd x5_2 ((rd_T44 (rd_L2 l0_0 x7_1) x8_2).f1)) + 1))
                                   rw [← Ny115.out] at HP42
                                   have HQ42:=Aside0.mk HP42
                                   clear HP42
                                   refine start_ (n:=11) (S:=fun w'=>w'.cell? ⟨gb111,0,none⟩ = some (.int .i64 ((rd_T44 (rd_L2 l0_0 x7_1) x8_2).f0)) ∧ w'.cell? ⟨gb111,1,none⟩ = some (.int .i64 ((rd_T44 (rd_L2 l0_0 x7_1) x8_2).f1)) ∧ w'.cell? ⟨gb111,2,none⟩ = some (.int .i64 ((rd_T44 (rd_L2 l0_0 x7_1) x8_2).f2)) ∧ w'.cell? ⟨gb111,3,none⟩ = some (.int .i64 ((rd_T44 (rd_L2 l0_0 x7_1) x8_2).f3)) ∧ w'.cell? ⟨gb111,4,none⟩ = some (.int .i64 ((rd_T44 (rd_L2 l0_0 x7_1) x8_2).f4)) ∧ w'.cell? ⟨go35,(((rd_T44 (rd_L2 l0_0 x7_1) x8_2).f1)).toNat,none⟩ = some (.int .i64 (rd x5_2 ((rd_T44 (rd_L2 l0_0 x7_1) x8_2).f1)))) (ds:=[10]) #[false,false,false,false,false,false,false,false,false,false,false] (by kernel_rfl) rfl rfl ⟨(blk_cell BK111.out 0).trans rfl,(blk_cell BK111.out 1).trans rfl,(blk_cell BK111.out 2).trans rfl,(blk_cell BK111.out 3).trans rfl,(blk_cell BK111.out 4).trans rfl,hx114_0⟩ (fun hHeld=>?_);refine with_tabW locklessref03_Check.tab20 locklessref03_Check.bits20 (fun HT_ HW_=>?_)
                                   generalize w38.drew = w40 at HO_5 BK104 BK111 HB GG35 HQ42 hf35_0 hx114_0 hx35_0 hHeld ⊢
                                   refine pure_ (i:=0) (N:=some 74) (v:=?_) (a':=?_) #[true,false,false,false,false,false,false,false,false,false,false] rfl rfl (any_of HT_.out (by kernel_rfl)) (fun _ _ _ h=>h) (Or.inl ⟨by rfl,?_⟩) ?_ ?_
                                   rotate_left
                                   · intro w'
                                     go_simp
                                     with_reducible rfl
                                   rotate_left
                                   · simp only [Act.put,List.setIfInBounds_toArray,List.set_cons_zero,List.set_cons_succ,i64_w,i32_w]
                                     rfl
                                   refine pure_ (i:=1) (N:=some 75) (v:=?_) (a':=?_) #[true,true,false,false,false,false,false,false,false,false,false] rfl rfl (any_of HT_.out (by kernel_rfl)) (fun _ _ _ h=>h) (Or.inl ⟨by rfl,?_⟩) ?_ ?_
                                   rotate_left
                                   · intro w'
                                     go_simp
                                     with_reducible rfl
                                   rotate_left
                                   · simp only [Act.put,List.setIfInBounds_toArray,List.set_cons_zero,List.set_cons_succ,i64_w,i32_w]
                                     rfl
                                   refine pure_ (i:=3) (N:=some 77) (v:=?_) (a':=?_) #[true,true,false,true,false,false,false,false,false,false,false] rfl rfl (any_of HT_.out (by kernel_rfl)) (fun _ _ _ h=>h) (Or.inl ⟨by rfl,?_⟩) ?_ ?_
                                   rotate_left
                                   · intro w'
                                     go_simp
                                     with_reducible rfl
                                   rotate_left
                                   · simp only [Act.put,List.setIfInBounds_toArray,List.set_cons_zero,List.set_cons_succ,i64_w,i32_w]
                                     rfl
                                   refine pure_ (i:=4) (N:=some 78) (v:=?_) (a':=?_) #[true,true,false,true,true,false,false,false,false,false,false] rfl rfl (any_of HT_.out (by kernel_rfl)) (fun _ _ _ h=>h) (Or.inl ⟨by rfl,?_⟩) ?_ ?_
                                   rotate_left
                                   · intro w'
                                     go_simp
                                     with_reducible rfl
                                   rotate_left
                                   · simp only [Act.put,List.setIfInBounds_toArray,List.set_cons_zero,List.set_cons_succ,i64_w,i32_w]
                                     rfl
                                   refine take_ (i:=2) (N:=some 76) (v:=?_) (a':=?_) #[true,true,true,true,true,false,false,false,false,false,false] rfl rfl (take_ofW HT_.out HW_.out (by kernel_rfl)) (fun _ _ _ h=>h) (Or.inl ⟨by rfl,?_⟩) hHeld ?_ ?_
                                   rotate_left
                                   · rintro w' ⟨s0,s1,s2,s3,s4,s5⟩
                                     go_simp
                                     with_reducible rfl
                                   rotate_left
                                   · simp only [Act.put,List.setIfInBounds_toArray,List.set_cons_zero,List.set_cons_succ,i64_w,i32_w]
                                     rfl
                                   refine take_ (i:=5) (N:=some 79) (v:=?_) (a':=?_) #[true,true,true,true,true,true,false,false,false,false,false] rfl rfl (take_ofW HT_.out HW_.out (by kernel_rfl)) (fun _ _ _ h=>h) (Or.inl ⟨by rfl,?_⟩) hHeld ?_ ?_
                                   rotate_left
                                   · rintro w' ⟨s0,s1,s2,s3,s4,s5⟩
                                     go_simp
                                     with_reducible rfl
                                   rotate_left
                                   · simp only [Act.put,List.setIfInBounds_toArray,List.set_cons_zero,List.set_cons_succ,i64_w,i32_w]
                                     rfl
                                   refine pure_ (i:=6) (N:=some 80) (v:=?_) (a':=?_) #[true,true,true,true,true,true,true,false,false,false,false] rfl rfl (any_of HT_.out (by kernel_rfl)) (fun _ _ _ h=>h) (Or.inl ⟨by rfl,?_⟩) ?_ ?_
                                   rotate_left
                                   · intro w'
                                     go_simp
                                     with_reducible rfl
                                   rotate_left
                                   · simp only [Act.put,List.setIfInBounds_toArray,List.set_cons_zero,List.set_cons_succ,i64_w,i32_w]
                                     rfl
                                   refine take_ (i:=7) (N:=some 81) (v:=?_) (a':=?_) #[true,true,true,true,true,true,true,true,false,false,false] rfl rfl (take_ofW HT_.out HW_.out (by kernel_rfl)) (fun _ _ _ h=>h) (Or.inl ⟨by rfl,?_⟩) hHeld ?_ ?_
                                   rotate_left
                                   · rintro w' ⟨s0,s1,s2,s3,s4,s5⟩
                                     go_simp
                                     with_reducible rfl
                                   rotate_left
                                   · simp only [Act.put,List.setIfInBounds_toArray,List.set_cons_zero,List.set_cons_succ,i64_w,i32_w]
                                     rfl
                                   refine pure_ (i:=8) (N:=some 82) (v:=?_) (a':=?_) #[true,true,true,true,true,true,true,true,true,false,false] rfl rfl (any_of HT_.out (by kernel_rfl)) (fun _ _ _ h=>h) (Or.inl ⟨by rfl,?_⟩) ?_ ?_
                                   rotate_left
                                   · intro w'
                                     go_simp
                                     with_reducible rfl
                                   rotate_left
                                   · simp only [Act.put,List.setIfInBounds_toArray,List.set_cons_zero,List.set_cons_succ,i64_w,i32_w]
                                     rfl
                                   refine pure_ (i:=9) (N:=some 83) (v:=?_) (a':=?_) #[true,true,true,true,true,true,true,true,true,true,false] rfl rfl (any_of HT_.out (by kernel_rfl)) (fun _ _ _ h=>h) (Or.inl ⟨by rfl,?_⟩) ?_ ?_
                                   rotate_left
                                   · intro w'
                                     go_simp
                                     with_reducible rfl
                                   rotate_left
                                   · simp only [Act.put,List.setIfInBounds_toArray,List.set_cons_zero,List.set_cons_succ,i64_w,i32_w]
                                     rfl
                                   refine last_ (i:=10) (N:=none) #[true,true,true,true,true,true,true,true,true,true,true] rfl rfl (one_of HT_.out (by kernel_rfl)) (by decide) (fun K hK=>?_)
                                   refine skip_ (w1:=?_) (by rfl) rfl ?_ ?_
                                   rotate_left
                                   · go_simp
                                     rfl
                                   refine hK.out _ _ ?_
                                   clear hK K
                                   refine done_ (done_of HT_.out (by kernel_rfl)) ?_
                                   try go_wp2
                                   go_roundg kj22
                                   case measure=>have:=HK1.out;have:=HK2.out;have:=HJ12.out;have:=HJ22.out;omega
                                   case rel=>exact ⟨(wrap64 (x3_2 + 1)),(wrap64 (x4_22 + 2)),(y115),(x6_12),(wrap64 (x8_2 + 1)),(by first|rfl|(simp;done)|(simp [*];done)),(by first|rfl|(simp;done)|(simp [*];done)),(by first|rfl|(simp;done)|(simp [*];done)),(by first|rfl|(simp;done)|(simp [*];done)),H',⟨by have:=HK1.out;have:=HK2.out;have:=HJ12.out;have:=HJ22.out;omega⟩,⟨by (with_reducible repeat (first|apply Kd.R_alloc|apply Kd.R_drewN|apply Kd.R_drew));exact HQ42.out⟩,⟨by (with_reducible repeat (first|apply kN|apply kD|apply kA));refine blk_far ?_ (by have h_:=Kd.R_ne HO_5.out BK104.out (by decide);intro e_;exact h_ (by rw [e_];rfl)) _;(with_reducible repeat (first|apply kN|apply kD|apply kA));exact BK104.out⟩,⟨by repeat (first|(with_reducible first|exact HB.out|apply below_alloc|apply pw_below_drewN|apply below_drew1|refine below_set ?_ GB35.out|refine below_set ?_ GE104.out|refine below_set ?_ GE111.out)|exact HB.out)⟩⟩
                                 · rw [if_neg c34] at H
                                   exact absurd H (by simp)
                               · rw [if_neg c33] at H
                                 exact absurd H (by simp)
                             · rw [if_neg c32] at H
                               have c32b0 : decide (((rd_T44 (rd_L2 l0_0 x7_1) x8_2).f1) < 3) = false:=decide_eq_false c32
                               clear c32
                               have H':=Aside0.mk H
                               clear H
                               have hnb43:=NB111_104.out
                               have hnc43:=NB104_111.out
                               have hcz44_0 : wc.cell? ⟨gb111,0,none⟩ = some (.int .i64 ((rd_T44 (rd_L2 l0_0 x7_1) x8_2).f0)):=(blk_cell BK111.out 0).trans rfl
                               have hcz44_1 : wc.cell? ⟨gb111,1,none⟩ = some (.int .i64 ((rd_T44 (rd_L2 l0_0 x7_1) x8_2).f1)):=(blk_cell BK111.out 1).trans rfl
                               have hcz44_2 : wc.cell? ⟨gb111,2,none⟩ = some (.int .i64 ((rd_T44 (rd_L2 l0_0 x7_1) x8_2).f2)):=(blk_cell BK111.out 2).trans rfl
                               have hcz44_3 : wc.cell? ⟨gb111,3,none⟩ = some (.int .i64 ((rd_T44 (rd_L2 l0_0 x7_1) x8_2).f3)):=(blk_cell BK111.out 3).trans rfl
                               have hcz44_4 : wc.cell? ⟨gb111,4,none⟩ = some (.int .i64 ((rd_T44 (rd_L2 l0_0 x7_1) x8_2).f4)):=(blk_cell BK111.out 4).trans rfl
                               have hfz44_0:=blk_frozen BK111.out 0
                               have hfz44_1:=blk_frozen BK111.out 1
                               have hfz44_2:=blk_frozen BK111.out 2
                               have hfz44_3:=blk_frozen BK111.out 3
                               have hfz44_4:=blk_frozen BK111.out 4
                               go_wp2_with (first|((with_reducible refine gate_callee (f:=35) rfl ?_);refine goesL_ (some 52) rfl rfl Try.func35 (by kernel_rfl) rfl #[.agg #[.int .i64 ((rd_T44 (rd_L2 l0_0 x7_1) x8_2).f0),.int .i64 ((rd_T44 (rd_L2 l0_0 x7_1) x8_2).f1),.int .i64 ((rd_T44 (rd_L2 l0_0 x7_1) x8_2).f2),.int .i64 ((rd_T44 (rd_L2 l0_0 x7_1) x8_2).f3),.int .i64 ((rd_T44 (rd_L2 l0_0 x7_1) x8_2).f4)]] rfl (by (try simp only [List.map_toArray,List.map_cons,List.map_nil]);first|done|rfl|(simp only [List.length_drop,List.length_take];rfl)) ?_;(with_reducible refine (locklessref03_isAccess.calls ((rd_T44 (rd_L2 l0_0 x7_1) x8_2).f0) ((rd_T44 (rd_L2 l0_0 x7_1) x8_2).f1) ((rd_T44 (rd_L2 l0_0 x7_1) x8_2).f2) ((rd_T44 (rd_L2 l0_0 x7_1) x8_2).f3) ((rd_T44 (rd_L2 l0_0 x7_1) x8_2).f4) true _ A27.out).mono ?_);rintro e w45 ⟨rfl,hb⟩;refine ⟨_,rfl,?_⟩;have n0_:=Aside0.mk (Kd.R_below (by (with_reducible repeat (first|apply Kd.R_alloc|apply Kd.R_drewN|apply Kd.R_drew));exact HO_5.out) hb);have n1_:=Aside0.mk (blk_below (zb BK104.out) hb);have n2_:=Aside0.mk (blk_below (zb BK111.out) hb);have n3_:=Aside0.mk (below_step (by repeat (first|(with_reducible first|exact HB.out|apply below_alloc|apply pw_below_drewN|apply below_drew1|refine below_set ?_ GE104.out|refine below_set ?_ GE111.out)|exact HB.out)) hb);clear HO_5;clear BK104;clear BK111;clear HB;have HO_5:=n0_;have BK104:=n1_;have BK111:=n2_;have HB:=n3_;clear n0_ n1_ n2_ n3_;(try clear hb);(try clear hb2);(try clear hk);(try clear hi);have hcz46_0 : w45.cell? ⟨gb111,0,none⟩ = some (.int .i64 ((rd_T44 (rd_L2 l0_0 x7_1) x8_2).f0)):=(blk_cell BK111.out 0).trans rfl;have hcz46_1 : w45.cell? ⟨gb111,1,none⟩ = some (.int .i64 ((rd_T44 (rd_L2 l0_0 x7_1) x8_2).f1)):=(blk_cell BK111.out 1).trans rfl;have hcz46_2 : w45.cell? ⟨gb111,2,none⟩ = some (.int .i64 ((rd_T44 (rd_L2 l0_0 x7_1) x8_2).f2)):=(blk_cell BK111.out 2).trans rfl;have hcz46_3 : w45.cell? ⟨gb111,3,none⟩ = some (.int .i64 ((rd_T44 (rd_L2 l0_0 x7_1) x8_2).f3)):=(blk_cell BK111.out 3).trans rfl;have hcz46_4 : w45.cell? ⟨gb111,4,none⟩ = some (.int .i64 ((rd_T44 (rd_L2 l0_0 x7_1) x8_2).f4)):=(blk_cell BK111.out 4).trans rfl;have hfz46_0:=blk_frozen BK111.out 0;have hfz46_1:=blk_frozen BK111.out 1;have hfz46_2:=blk_frozen BK111.out 2;have hfz46_3:=blk_frozen BK111.out 3;have hfz46_4:=blk_frozen BK111.out 4))
                               go_roundg kj22
                               case measure=>have:=HK1.out;have:=HK2.out;have:=HJ12.out;have:=HJ22.out;omega
                               case rel=>exact ⟨(wrap64 (x3_2 + 1)),(wrap64 (x4_22 + 2)),(x5_2),(x6_12),(wrap64 (x8_2 + 1)),(by first|rfl|(simp;done)|(simp [*];done)),(by first|rfl|(simp;done)|(simp [*];done)),(by first|rfl|(simp;done)|(simp [*];done)),(by first|rfl|(simp;done)|(simp [*];done)),H',⟨by have:=HK1.out;have:=HK2.out;have:=HJ12.out;have:=HJ22.out;omega⟩,⟨by (with_reducible repeat (first|apply Kd.R_alloc|apply Kd.R_drewN|apply Kd.R_drew));exact HO_5.out⟩,⟨by (with_reducible repeat (first|apply kN|apply kD|apply kA));exact BK104.out⟩,⟨by repeat (first|(with_reducible first|exact HB.out|apply below_alloc|apply pw_below_drewN|apply below_drew1|refine below_set ?_ GE104.out|refine below_set ?_ GE111.out)|exact HB.out)⟩⟩
                           · rw [if_neg c31] at H
                             have c31b0 : decide (0 ≤ ((rd_T44 (rd_L2 l0_0 x7_1) x8_2).f1)) = false:=decide_eq_false c31
                             clear c31
                             have H':=Aside0.mk H
                             clear H
                             have hnb47:=NB111_104.out
                             have hnc47:=NB104_111.out
                             have hcz48_0 : wc.cell? ⟨gb111,0,none⟩ = some (.int .i64 ((rd_T44 (rd_L2 l0_0 x7_1) x8_2).f0)):=(blk_cell BK111.out 0).trans rfl
                             have hcz48_1 : wc.cell? ⟨gb111,1,none⟩ = some (.int .i64 ((rd_T44 (rd_L2 l0_0 x7_1) x8_2).f1)):=(blk_cell BK111.out 1).trans rfl
                             have hcz48_2 : wc.cell? ⟨gb111,2,none⟩ = some (.int .i64 ((rd_T44 (rd_L2 l0_0 x7_1) x8_2).f2)):=(blk_cell BK111.out 2).trans rfl
                             have hcz48_3 : wc.cell? ⟨gb111,3,none⟩ = some (.int .i64 ((rd_T44 (rd_L2 l0_0 x7_1) x8_2).f3)):=(blk_cell BK111.out 3).trans rfl
                             have hcz48_4 : wc.cell? ⟨gb111,4,none⟩ = some (.int .i64 ((rd_T44 (rd_L2 l0_0 x7_1) x8_2).f4)):=(blk_cell BK111.out 4).trans rfl
                             have hfz48_0:=blk_frozen BK111.out 0
                             have hfz48_1:=blk_frozen BK111.out 1
                             have hfz48_2:=blk_frozen BK111.out 2
                             have hfz48_3:=blk_frozen BK111.out 3
                             have hfz48_4:=blk_frozen BK111.out 4
                             go_wp2_with (first|((with_reducible refine gate_callee (f:=35) rfl ?_);refine goesL_ (some 52) rfl rfl Try.func35 (by kernel_rfl) rfl #[.agg #[.int .i64 ((rd_T44 (rd_L2 l0_0 x7_1) x8_2).f0),.int .i64 ((rd_T44 (rd_L2 l0_0 x7_1) x8_2).f1),.int .i64 ((rd_T44 (rd_L2 l0_0 x7_1) x8_2).f2),.int .i64 ((rd_T44 (rd_L2 l0_0 x7_1) x8_2).f3),.int .i64 ((rd_T44 (rd_L2 l0_0 x7_1) x8_2).f4)]] rfl (by (try simp only [List.map_toArray,List.map_cons,List.map_nil]);first|done|rfl|(simp only [List.length_drop,List.length_take];rfl)) ?_;(with_reducible refine (locklessref03_isAccess.calls ((rd_T44 (rd_L2 l0_0 x7_1) x8_2).f0) ((rd_T44 (rd_L2 l0_0 x7_1) x8_2).f1) ((rd_T44 (rd_L2 l0_0 x7_1) x8_2).f2) ((rd_T44 (rd_L2 l0_0 x7_1) x8_2).f3) ((rd_T44 (rd_L2 l0_0 x7_1) x8_2).f4) true _ A27.out).mono ?_);rintro e w49 ⟨rfl,hb⟩;refine ⟨_,rfl,?_⟩;have n0_:=Aside0.mk (Kd.R_below (by (with_reducible repeat (first|apply Kd.R_alloc|apply Kd.R_drewN|apply Kd.R_drew));exact HO_5.out) hb);have n1_:=Aside0.mk (blk_below (zb BK104.out) hb);have n2_:=Aside0.mk (blk_below (zb BK111.out) hb);have n3_:=Aside0.mk (below_step (by repeat (first|(with_reducible first|exact HB.out|apply below_alloc|apply pw_below_drewN|apply below_drew1|refine below_set ?_ GE104.out|refine below_set ?_ GE111.out)|exact HB.out)) hb);clear HO_5;clear BK104;clear BK111;clear HB;have HO_5:=n0_;have BK104:=n1_;have BK111:=n2_;have HB:=n3_;clear n0_ n1_ n2_ n3_;(try clear hb);(try clear hb2);(try clear hk);(try clear hi);have hcz50_0 : w49.cell? ⟨gb111,0,none⟩ = some (.int .i64 ((rd_T44 (rd_L2 l0_0 x7_1) x8_2).f0)):=(blk_cell BK111.out 0).trans rfl;have hcz50_1 : w49.cell? ⟨gb111,1,none⟩ = some (.int .i64 ((rd_T44 (rd_L2 l0_0 x7_1) x8_2).f1)):=(blk_cell BK111.out 1).trans rfl;have hcz50_2 : w49.cell? ⟨gb111,2,none⟩ = some (.int .i64 ((rd_T44 (rd_L2 l0_0 x7_1) x8_2).f2)):=(blk_cell BK111.out 2).trans rfl;have hcz50_3 : w49.cell? ⟨gb111,3,none⟩ = some (.int .i64 ((rd_T44 (rd_L2 l0_0 x7_1) x8_2).f3)):=(blk_cell BK111.out 3).trans rfl;have hcz50_4 : w49.cell? ⟨gb111,4,none⟩ = some (.int .i64 ((rd_T44 (rd_L2 l0_0 x7_1) x8_2).f4)):=(blk_cell BK111.out 4).trans rfl;have hfz50_0:=blk_frozen BK111.out 0;have hfz50_1:=blk_frozen BK111.out 1;have hfz50_2:=blk_frozen BK111.out 2;have hfz50_3:=blk_frozen BK111.out 3;have hfz50_4:=blk_frozen BK111.out 4))
                             go_roundg kj22
                             case measure=>have:=HK1.out;have:=HK2.out;have:=HJ12.out;have:=HJ22.out;omega
                             case rel=>exact ⟨(wrap64 (x3_2 + 1)),(wrap64 (x4_22 + 2)),(x5_2),(x6_12),(wrap64 (x8_2 + 1)),(by first|rfl|(simp;done)|(simp [*];done)),(by first|rfl|(simp;done)|(simp [*];done)),(by first|rfl|(simp;done)|(simp [*];done)),(by first|rfl|(simp;done)|(simp [*];done)),H',⟨by have:=HK1.out;have:=HK2.out;have:=HJ12.out;have:=HJ22.out;omega⟩,⟨by (with_reducible repeat (first|apply Kd.R_alloc|apply Kd.R_drewN|apply Kd.R_drew));exact HO_5.out⟩,⟨by (with_reducible repeat (first|apply kN|apply kD|apply kA));exact BK104.out⟩,⟨by repeat (first|(with_reducible first|exact HB.out|apply below_alloc|apply pw_below_drewN|apply below_drew1|refine below_set ?_ GE104.out|refine below_set ?_ GE111.out)|exact HB.out)⟩⟩
                         · rw [if_neg c30] at H
                           have c30b0 : decide (0 < ((rd_T44 (rd_L2 l0_0 x7_1) x8_2).f0)) = false:=decide_eq_false c30
                           clear c30
                           have H':=Aside0.mk H
                           clear H
                           have hnb51:=NB111_104.out
                           have hnc51:=NB104_111.out
                           have hcz52_0 : wc.cell? ⟨gb111,0,none⟩ = some (.int .i64 ((rd_T44 (rd_L2 l0_0 x7_1) x8_2).f0)):=(blk_cell BK111.out 0).trans rfl
                           have hcz52_1 : wc.cell? ⟨gb111,1,none⟩ = some (.int .i64 ((rd_T44 (rd_L2 l0_0 x7_1) x8_2).f1)):=(blk_cell BK111.out 1).trans rfl
                           have hcz52_2 : wc.cell? ⟨gb111,2,none⟩ = some (.int .i64 ((rd_T44 (rd_L2 l0_0 x7_1) x8_2).f2)):=(blk_cell BK111.out 2).trans rfl
                           have hcz52_3 : wc.cell? ⟨gb111,3,none⟩ = some (.int .i64 ((rd_T44 (rd_L2 l0_0 x7_1) x8_2).f3)):=(blk_cell BK111.out 3).trans rfl
                           have hcz52_4 : wc.cell? ⟨gb111,4,none⟩ = some (.int .i64 ((rd_T44 (rd_L2 l0_0 x7_1) x8_2).f4)):=(blk_cell BK111.out 4).trans rfl
                           have hfz52_0:=blk_frozen BK111.out 0
                           have hfz52_1:=blk_frozen BK111.out 1
                           have hfz52_2:=blk_frozen BK111.out 2
                           have hfz52_3:=blk_frozen BK111.out 3
                           have hfz52_4:=blk_frozen BK111.out 4
                           go_wp2_with (first|((with_reducible refine gate_callee (f:=35) rfl ?_);refine goesL_ (some 52) rfl rfl Try.func35 (by kernel_rfl) rfl #[.agg #[.int .i64 ((rd_T44 (rd_L2 l0_0 x7_1) x8_2).f0),.int .i64 ((rd_T44 (rd_L2 l0_0 x7_1) x8_2).f1),.int .i64 ((rd_T44 (rd_L2 l0_0 x7_1) x8_2).f2),.int .i64 ((rd_T44 (rd_L2 l0_0 x7_1) x8_2).f3),.int .i64 ((rd_T44 (rd_L2 l0_0 x7_1) x8_2).f4)]] rfl (by (try simp only [List.map_toArray,List.map_cons,List.map_nil]);first|done|rfl|(simp only [List.length_drop,List.length_take];rfl)) ?_;(with_reducible refine (locklessref03_isAccess.calls ((rd_T44 (rd_L2 l0_0 x7_1) x8_2).f0) ((rd_T44 (rd_L2 l0_0 x7_1) x8_2).f1) ((rd_T44 (rd_L2 l0_0 x7_1) x8_2).f2) ((rd_T44 (rd_L2 l0_0 x7_1) x8_2).f3) ((rd_T44 (rd_L2 l0_0 x7_1) x8_2).f4) true _ A27.out).mono ?_);rintro e w53 ⟨rfl,hb⟩;refine ⟨_,rfl,?_⟩;have n0_:=Aside0.mk (Kd.R_below (by (with_reducible repeat (first|apply Kd.R_alloc|apply Kd.R_drewN|apply Kd.R_drew));exact HO_5.out) hb);have n1_:=Aside0.mk (blk_below (zb BK104.out) hb);have n2_:=Aside0.mk (blk_below (zb BK111.out) hb);have n3_:=Aside0.mk (below_step (by repeat (first|(with_reducible first|exact HB.out|apply below_alloc|apply pw_below_drewN|apply below_drew1|refine below_set ?_ GE104.out|refine below_set ?_ GE111.out)|exact HB.out)) hb);clear HO_5;clear BK104;clear BK111;clear HB;have HO_5:=n0_;have BK104:=n1_;have BK111:=n2_;have HB:=n3_;clear n0_ n1_ n2_ n3_;(try clear hb);(try clear hb2);(try clear hk);(try clear hi);have hcz54_0 : w53.cell? ⟨gb111,0,none⟩ = some (.int .i64 ((rd_T44 (rd_L2 l0_0 x7_1) x8_2).f0)):=(blk_cell BK111.out 0).trans rfl;have hcz54_1 : w53.cell? ⟨gb111,1,none⟩ = some (.int .i64 ((rd_T44 (rd_L2 l0_0 x7_1) x8_2).f1)):=(blk_cell BK111.out 1).trans rfl;have hcz54_2 : w53.cell? ⟨gb111,2,none⟩ = some (.int .i64 ((rd_T44 (rd_L2 l0_0 x7_1) x8_2).f2)):=(blk_cell BK111.out 2).trans rfl;have hcz54_3 : w53.cell? ⟨gb111,3,none⟩ = some (.int .i64 ((rd_T44 (rd_L2 l0_0 x7_1) x8_2).f3)):=(blk_cell BK111.out 3).trans rfl;have hcz54_4 : w53.cell? ⟨gb111,4,none⟩ = some (.int .i64 ((rd_T44 (rd_L2 l0_0 x7_1) x8_2).f4)):=(blk_cell BK111.out 4).trans rfl;have hfz54_0:=blk_frozen BK111.out 0;have hfz54_1:=blk_frozen BK111.out 1;have hfz54_2:=blk_frozen BK111.out 2;have hfz54_3:=blk_frozen BK111.out 3;have hfz54_4:=blk_frozen BK111.out 4))
                           go_roundg kj22
                           case measure=>have:=HK1.out;have:=HK2.out;have:=HJ12.out;have:=HJ22.out;omega
                           case rel=>exact ⟨(wrap64 (x3_2 + 1)),(wrap64 (x4_22 + 2)),(x5_2),(x6_12),(wrap64 (x8_2 + 1)),(by first|rfl|(simp;done)|(simp [*];done)),(by first|rfl|(simp;done)|(simp [*];done)),(by first|rfl|(simp;done)|(simp [*];done)),(by first|rfl|(simp;done)|(simp [*];done)),H',⟨by have:=HK1.out;have:=HK2.out;have:=HJ12.out;have:=HJ22.out;omega⟩,⟨by (with_reducible repeat (first|apply Kd.R_alloc|apply Kd.R_drewN|apply Kd.R_drew));exact HO_5.out⟩,⟨by (with_reducible repeat (first|apply kN|apply kD|apply kA));exact BK104.out⟩,⟨by repeat (first|(with_reducible first|exact HB.out|apply below_alloc|apply pw_below_drewN|apply below_drew1|refine below_set ?_ GE104.out|refine below_set ?_ GE111.out)|exact HB.out)⟩⟩
                       · rw [if_neg c29] at H
                         have c29b0 : (((rd_T44 (rd_L2 l0_0 x7_1) x8_2).f4) == 4) = false:=beq_eq_false_iff_ne.mpr c29
                         have c29b1 : (((rd_T44 (rd_L2 l0_0 x7_1) x8_2).f4) != 4) = true:=bne_iff_ne.mpr c29
                         by_cases c55 : ((rd_T44 (rd_L2 l0_0 x7_1) x8_2).f0) > 0
                         · rw [if_pos c55] at H
                           have c55b0 : decide (0 < ((rd_T44 (rd_L2 l0_0 x7_1) x8_2).f0)) = true:=decide_eq_true c55
                           clear c55
                           by_cases c56 : ((rd_T44 (rd_L2 l0_0 x7_1) x8_2).f1) ≥ 0
                           · rw [if_pos c56] at H
                             have c56b0 : decide (0 ≤ ((rd_T44 (rd_L2 l0_0 x7_1) x8_2).f1)) = true:=decide_eq_true c56
                             clear c56
                             by_cases c57 : ((rd_T44 (rd_L2 l0_0 x7_1) x8_2).f1) < 3
                             · rw [if_pos c57] at H
                               have c57b0 : decide (((rd_T44 (rd_L2 l0_0 x7_1) x8_2).f1) < 3) = true:=decide_eq_true c57
                               clear c57
                               by_cases c58 : 0 ≤ ((rd_T44 (rd_L2 l0_0 x7_1) x8_2).f1)
                               · rw [if_pos c58] at H
                                 have c58b0 : decide (0 ≤ ((rd_T44 (rd_L2 l0_0 x7_1) x8_2).f1)) = true:=decide_eq_true c58
                                 clear c58
                                 by_cases c59 : ((rd_T44 (rd_L2 l0_0 x7_1) x8_2).f1) < (x5_2.length : Int)
                                 · rw [if_pos c59] at H
                                   have c59b0 : decide (((rd_T44 (rd_L2 l0_0 x7_1) x8_2).f1) < (x5_2.length : Int)) = true:=decide_eq_true c59
                                   clear c59
                                   obtain ⟨y117,hy117⟩ : ∃ y_ : List Int,y_ = (x5_2.set (((rd_T44 (rd_L2 l0_0 x7_1) x8_2).f1) : Int).toNat (wrap64 ((rd x5_2 ((rd_T44 (rd_L2 l0_0 x7_1) x8_2).f1)) + 1))):=⟨_,rfl⟩
                                   replace H : (locklessref03_Check.l1 kj22 (wrap64 (x3_2 + 1)) x4_22 y117 x6_12 x7_1 (wrap64 (x8_2 + 1)) l0_0) = some r:=by first|(rw [hy117];with_reducible exact H)|(have H2_:=(Option.bind_some _ _).symm.trans H;rw [hy117];with_reducible exact H2_)|(have H2_:=(Option.bind_some _ _).symm.trans H;with_reducible exact H2_)|with_reducible exact H|(rw [hy117];exact H)|exact H
                                   have Ny117:=Aside0.mk hy117
                                   clear hy117
                                   have H':=Aside0.mk H
                                   clear H
                                   have hnb61:=NB111_104.out
                                   have hnc61:=NB104_111.out
                                   have hcz62_0 : wc.cell? ⟨gb111,0,none⟩ = some (.int .i64 ((rd_T44 (rd_L2 l0_0 x7_1) x8_2).f0)):=(blk_cell BK111.out 0).trans rfl
                                   have hcz62_1 : wc.cell? ⟨gb111,1,none⟩ = some (.int .i64 ((rd_T44 (rd_L2 l0_0 x7_1) x8_2).f1)):=(blk_cell BK111.out 1).trans rfl
                                   have hcz62_2 : wc.cell? ⟨gb111,2,none⟩ = some (.int .i64 ((rd_T44 (rd_L2 l0_0 x7_1) x8_2).f2)):=(blk_cell BK111.out 2).trans rfl
                                   have hcz62_3 : wc.cell? ⟨gb111,3,none⟩ = some (.int .i64 ((rd_T44 (rd_L2 l0_0 x7_1) x8_2).f3)):=(blk_cell BK111.out 3).trans rfl
                                   have hcz62_4 : wc.cell? ⟨gb111,4,none⟩ = some (.int .i64 ((rd_T44 (rd_L2 l0_0 x7_1) x8_2).f4)):=(blk_cell BK111.out 4).trans rfl
                                   have hfz62_0:=blk_frozen BK111.out 0
                                   have hfz62_1:=blk_frozen BK111.out 1
                                   have hfz62_2:=blk_frozen BK111.out 2
                                   have hfz62_3:=blk_frozen BK111.out 3
                                   have hfz62_4:=blk_frozen BK111.out 4
                                   try go_wp2_with (first|((with_reducible refine gate_callee (f:=35) rfl ?_);refine goesL_ (some 52) rfl rfl Try.func35 (by kernel_rfl) rfl #[.agg #[.int .i64 ((rd_T44 (rd_L2 l0_0 x7_1) x8_2).f0),.int .i64 ((rd_T44 (rd_L2 l0_0 x7_1) x8_2).f1),.int .i64 ((rd_T44 (rd_L2 l0_0 x7_1) x8_2).f2),.int .i64 ((rd_T44 (rd_L2 l0_0 x7_1) x8_2).f3),.int .i64 ((rd_T44 (rd_L2 l0_0 x7_1) x8_2).f4)]] rfl (by (try simp only [List.map_toArray,List.map_cons,List.map_nil]);first|done|rfl|(simp only [List.length_drop,List.length_take];rfl)) ?_;(with_reducible refine (locklessref03_isAccess.calls ((rd_T44 (rd_L2 l0_0 x7_1) x8_2).f0) ((rd_T44 (rd_L2 l0_0 x7_1) x8_2).f1) ((rd_T44 (rd_L2 l0_0 x7_1) x8_2).f2) ((rd_T44 (rd_L2 l0_0 x7_1) x8_2).f3) ((rd_T44 (rd_L2 l0_0 x7_1) x8_2).f4) true _ A27.out).mono ?_);rintro e w63 ⟨rfl,hb⟩;refine ⟨_,rfl,?_⟩;have n0_:=Aside0.mk (Kd.R_below (by (with_reducible repeat (first|apply Kd.R_alloc|apply Kd.R_drewN|apply Kd.R_drew));exact HO_5.out) hb);have n1_:=Aside0.mk (blk_below (zb BK104.out) hb);have n2_:=Aside0.mk (blk_below (zb BK111.out) hb);have n3_:=Aside0.mk (below_step (by repeat (first|(with_reducible first|exact HB.out|apply below_alloc|apply pw_below_drewN|apply below_drew1|refine below_set ?_ GE104.out|refine below_set ?_ GE111.out)|exact HB.out)) hb);clear HO_5;clear BK104;clear BK111;clear HB;have HO_5:=n0_;have BK104:=n1_;have BK111:=n2_;have HB:=n3_;clear n0_ n1_ n2_ n3_;(try clear hb);(try clear hb2);(try clear hk);(try clear hi);have hcz64_0 : w63.cell? ⟨gb111,0,none⟩ = some (.int .i64 ((rd_T44 (rd_L2 l0_0 x7_1) x8_2).f0)):=(blk_cell BK111.out 0).trans rfl;have hcz64_1 : w63.cell? ⟨gb111,1,none⟩ = some (.int .i64 ((rd_T44 (rd_L2 l0_0 x7_1) x8_2).f1)):=(blk_cell BK111.out 1).trans rfl;have hcz64_2 : w63.cell? ⟨gb111,2,none⟩ = some (.int .i64 ((rd_T44 (rd_L2 l0_0 x7_1) x8_2).f2)):=(blk_cell BK111.out 2).trans rfl;have hcz64_3 : w63.cell? ⟨gb111,3,none⟩ = some (.int .i64 ((rd_T44 (rd_L2 l0_0 x7_1) x8_2).f3)):=(blk_cell BK111.out 3).trans rfl;have hcz64_4 : w63.cell? ⟨gb111,4,none⟩ = some (.int .i64 ((rd_T44 (rd_L2 l0_0 x7_1) x8_2).f4)):=(blk_cell BK111.out 4).trans rfl;have hfz64_0:=blk_frozen BK111.out 0;have hfz64_1:=blk_frozen BK111.out 1;have hfz64_2:=blk_frozen BK111.out 2;have hfz64_3:=blk_frozen BK111.out 3;have hfz64_4:=blk_frozen BK111.out 4))
                                   have n0_:=Aside0.mk (Kd.R_drew HO_5.out)
                                   have n1_:=Aside0.mk (blk_drew BK104.out)
                                   have n2_:=Aside0.mk (blk_drew BK111.out)
                                   have n3_:=Aside0.mk (below_drew1 HB.out)
                                   clear HO_5
                                   clear BK104
                                   clear BK111
                                   clear HB
                                   have HO_5:=n0_
                                   have BK104:=n1_
                                   have BK111:=n2_
                                   have HB:=n3_
                                   clear n0_ n1_ n2_ n3_
                                   obtain ⟨Ao66,co66,eo66⟩:=Kd.R_slice HO_5.out
                                   (first|subst eo66|(injection eo66 with f1_ f2_ f3_;have f4_:=f1_.symm;have f5_:=f3_.symm;clear f1_ f2_ f3_;subst f4_;subst f5_))
                                   have p116 : 0 ≤ (((rd_T44 (rd_L2 l0_0 x7_1) x8_2).f1) : Int):=of_decide_eq_true (by first|(with_reducible assumption)|assumption)
                                   have q116 : ((rd_T44 (rd_L2 l0_0 x7_1) x8_2).f1) < (x5_2.length : Int):=of_decide_eq_true (by first|(with_reducible assumption)|assumption)
                                   obtain ⟨ad116,e116,hx116_0⟩:=Kd.at_int (Kd.R_reads' HO_5.out).2.2 ((rd_T44 (rd_L2 l0_0 x7_1) x8_2).f1) p116 q116
                                   cases e116
                                   replace p116:=eq_true p116
                                   replace q116:=eq_true q116
                                   have p60 : 0 ≤ (((rd_T44 (rd_L2 l0_0 x7_1) x8_2).f1) : Int):=of_decide_eq_true (by first|(with_reducible assumption)|assumption)
                                   have q60 : (((rd_T44 (rd_L2 l0_0 x7_1) x8_2).f1) : Int) < ((x5_2.length : Int) : Int):=of_decide_eq_true (by first|(with_reducible assumption)|assumption)
                                   obtain ⟨go60,co60,eo60,gb60,gl60,cl60,HG60⟩:=Kd.R_form HO_5.out (by omega)
                                   (first|cases eo60|(injection eo60 with ea_ en_ ec_;(first|subst ea_|(injection ea_ with ea_;subst ea_));subst ec_;clear en_))
                                   have GB60:=Aside0.mk gb60
                                   have GG60:=Aside0.mk HG60
                                   clear gb60 gl60 HG60
                                   (first|simp only [add_plain] at hx116_0|skip)
                                   obtain ⟨hx60_0,hf60_0⟩:=Kd.R_celln 0 HO_5.out (((rd_T44 (rd_L2 l0_0 x7_1) x8_2).f1) : Int) p60 q60
                                   replace p60:=eq_true p60
                                   replace q60:=eq_true q60
                                   have HP67:=Kd.R_putn HO_5.out (((rd_T44 (rd_L2 l0_0 x7_1) x8_2).f1) : Int) (wrap64 ((rd x5_2 ((rd_T44 (rd_L2 l0_0 x7_1) x8_2).f1)) + 1))
                                   rw [← Ny117.out] at HP67
                                   have HQ67:=Aside0.mk HP67
                                   clear HP67
                                   refine start_ (n:=11) (S:=fun w'=>w'.cell? ⟨gb111,0,none⟩ = some (.int .i64 ((rd_T44 (rd_L2 l0_0 x7_1) x8_2).f0)) ∧ w'.cell? ⟨gb111,1,none⟩ = some (.int .i64 ((rd_T44 (rd_L2 l0_0 x7_1) x8_2).f1)) ∧ w'.cell? ⟨gb111,2,none⟩ = some (.int .i64 ((rd_T44 (rd_L2 l0_0 x7_1) x8_2).f2)) ∧ w'.cell? ⟨gb111,3,none⟩ = some (.int .i64 ((rd_T44 (rd_L2 l0_0 x7_1) x8_2).f3)) ∧ w'.cell? ⟨gb111,4,none⟩ = some (.int .i64 ((rd_T44 (rd_L2 l0_0 x7_1) x8_2).f4)) ∧ w'.cell? ⟨go60,(((rd_T44 (rd_L2 l0_0 x7_1) x8_2).f1)).toNat,none⟩ = some (.int .i64 (rd x5_2 ((rd_T44 (rd_L2 l0_0 x7_1) x8_2).f1)))) (ds:=[10]) #[false,false,false,false,false,false,false,false,false,false,false] (by kernel_rfl) rfl rfl ⟨(blk_cell BK111.out 0).trans rfl,(blk_cell BK111.out 1).trans rfl,(blk_cell BK111.out 2).trans rfl,(blk_cell BK111.out 3).trans rfl,(blk_cell BK111.out 4).trans rfl,hx116_0⟩ (fun hHeld=>?_);refine with_tabW locklessref03_Check.tab20 locklessref03_Check.bits20 (fun HT_ HW_=>?_)
                                   generalize w63.drew = w65 at HO_5 BK104 BK111 HB GG60 HQ67 hf60_0 hx116_0 hx60_0 hHeld ⊢
                                   refine pure_ (i:=0) (N:=some 74) (v:=?_) (a':=?_) #[true,false,false,false,false,false,false,false,false,false,false] rfl rfl (any_of HT_.out (by kernel_rfl)) (fun _ _ _ h=>h) (Or.inl ⟨by rfl,?_⟩) ?_ ?_
                                   rotate_left
                                   · intro w'
                                     go_simp
                                     with_reducible rfl
                                   rotate_left
                                   · simp only [Act.put,List.setIfInBounds_toArray,List.set_cons_zero,List.set_cons_succ,i64_w,i32_w]
                                     rfl
                                   refine pure_ (i:=1) (N:=some 75) (v:=?_) (a':=?_) #[true,true,false,false,false,false,false,false,false,false,false] rfl rfl (any_of HT_.out (by kernel_rfl)) (fun _ _ _ h=>h) (Or.inl ⟨by rfl,?_⟩) ?_ ?_
                                   rotate_left
                                   · intro w'
                                     go_simp
                                     with_reducible rfl
                                   rotate_left
                                   · simp only [Act.put,List.setIfInBounds_toArray,List.set_cons_zero,List.set_cons_succ,i64_w,i32_w]
                                     rfl
                                   refine pure_ (i:=3) (N:=some 77) (v:=?_) (a':=?_) #[true,true,false,true,false,false,false,false,false,false,false] rfl rfl (any_of HT_.out (by kernel_rfl)) (fun _ _ _ h=>h) (Or.inl ⟨by rfl,?_⟩) ?_ ?_
                                   rotate_left
                                   · intro w'
                                     go_simp
                                     with_reducible rfl
                                   rotate_left
                                   · simp only [Act.put,List.setIfInBounds_toArray,List.set_cons_zero,List.set_cons_succ,i64_w,i32_w]
                                     rfl
                                   refine pure_ (i:=4) (N:=some 78) (v:=?_) (a':=?_) #[true,true,false,true,true,false,false,false,false,false,false] rfl rfl (any_of HT_.out (by kernel_rfl)) (fun _ _ _ h=>h) (Or.inl ⟨by rfl,?_⟩) ?_ ?_
                                   rotate_left
                                   · intro w'
                                     go_simp
                                     with_reducible rfl
                                   rotate_left
                                   · simp only [Act.put,List.setIfInBounds_toArray,List.set_cons_zero,List.set_cons_succ,i64_w,i32_w]
                                     rfl
                                   refine take_ (i:=2) (N:=some 76) (v:=?_) (a':=?_) #[true,true,true,true,true,false,false,false,false,false,false] rfl rfl (take_ofW HT_.out HW_.out (by kernel_rfl)) (fun _ _ _ h=>h) (Or.inl ⟨by rfl,?_⟩) hHeld ?_ ?_
                                   rotate_left
                                   · rintro w' ⟨s0,s1,s2,s3,s4,s5⟩
                                     go_simp
                                     with_reducible rfl
                                   rotate_left
                                   · simp only [Act.put,List.setIfInBounds_toArray,List.set_cons_zero,List.set_cons_succ,i64_w,i32_w]
                                     rfl
                                   refine take_ (i:=5) (N:=some 79) (v:=?_) (a':=?_) #[true,true,true,true,true,true,false,false,false,false,false] rfl rfl (take_ofW HT_.out HW_.out (by kernel_rfl)) (fun _ _ _ h=>h) (Or.inl ⟨by rfl,?_⟩) hHeld ?_ ?_
                                   rotate_left
                                   · rintro w' ⟨s0,s1,s2,s3,s4,s5⟩
                                     go_simp
                                     with_reducible rfl
                                   rotate_left
                                   · simp only [Act.put,List.setIfInBounds_toArray,List.set_cons_zero,List.set_cons_succ,i64_w,i32_w]
                                     rfl
                                   refine pure_ (i:=6) (N:=some 80) (v:=?_) (a':=?_) #[true,true,true,true,true,true,true,false,false,false,false] rfl rfl (any_of HT_.out (by kernel_rfl)) (fun _ _ _ h=>h) (Or.inl ⟨by rfl,?_⟩) ?_ ?_
                                   rotate_left
                                   · intro w'
                                     go_simp
                                     with_reducible rfl
                                   rotate_left
                                   · simp only [Act.put,List.setIfInBounds_toArray,List.set_cons_zero,List.set_cons_succ,i64_w,i32_w]
                                     rfl
                                   refine take_ (i:=7) (N:=some 81) (v:=?_) (a':=?_) #[true,true,true,true,true,true,true,true,false,false,false] rfl rfl (take_ofW HT_.out HW_.out (by kernel_rfl)) (fun _ _ _ h=>h) (Or.inl ⟨by rfl,?_⟩) hHeld ?_ ?_
                                   rotate_left
                                   · rintro w' ⟨s0,s1,s2,s3,s4,s5⟩
                                     go_simp
                                     with_reducible rfl
                                   rotate_left
                                   · simp only [Act.put,List.setIfInBounds_toArray,List.set_cons_zero,List.set_cons_succ,i64_w,i32_w]
                                     rfl
                                   refine pure_ (i:=8) (N:=some 82) (v:=?_) (a':=?_) #[true,true,true,true,true,true,true,true,true,false,false] rfl rfl (any_of HT_.out (by kernel_rfl)) (fun _ _ _ h=>h) (Or.inl ⟨by rfl,?_⟩) ?_ ?_
                                   rotate_left
                                   · intro w'
                                     go_simp
                                     with_reducible rfl
                                   rotate_left
                                   · simp only [Act.put,List.setIfInBounds_toArray,List.set_cons_zero,List.set_cons_succ,i64_w,i32_w]
                                     rfl
                                   refine pure_ (i:=9) (N:=some 83) (v:=?_) (a':=?_) #[true,true,true,true,true,true,true,true,true,true,false] rfl rfl (any_of HT_.out (by kernel_rfl)) (fun _ _ _ h=>h) (Or.inl ⟨by rfl,?_⟩) ?_ ?_
                                   rotate_left
                                   · intro w'
                                     go_simp
                                     with_reducible rfl
                                   rotate_left
                                   · simp only [Act.put,List.setIfInBounds_toArray,List.set_cons_zero,List.set_cons_succ,i64_w,i32_w]
                                     rfl
                                   refine last_ (i:=10) (N:=none) #[true,true,true,true,true,true,true,true,true,true,true] rfl rfl (one_of HT_.out (by kernel_rfl)) (by decide) (fun K hK=>?_)
                                   refine skip_ (w1:=?_) (by rfl) rfl ?_ ?_
                                   rotate_left
                                   · go_simp
                                     rfl
                                   refine hK.out _ _ ?_
                                   clear hK K
                                   refine done_ (done_of HT_.out (by kernel_rfl)) ?_
                                   try go_wp2
                                   go_roundg kj22
                                   case measure=>have:=HK1.out;have:=HK2.out;have:=HJ12.out;have:=HJ22.out;omega
                                   case rel=>exact ⟨(wrap64 (x3_2 + 1)),(x4_22),(y117),(x6_12),(wrap64 (x8_2 + 1)),(by first|rfl|(simp;done)|(simp [*];done)),(by first|rfl|(simp;done)|(simp [*];done)),(by first|rfl|(simp;done)|(simp [*];done)),(by first|rfl|(simp;done)|(simp [*];done)),H',⟨by have:=HK1.out;have:=HK2.out;have:=HJ12.out;have:=HJ22.out;omega⟩,⟨by (with_reducible repeat (first|apply Kd.R_alloc|apply Kd.R_drewN|apply Kd.R_drew));exact HQ67.out⟩,⟨by (with_reducible repeat (first|apply kN|apply kD|apply kA));refine blk_far ?_ (by have h_:=Kd.R_ne HO_5.out BK104.out (by decide);intro e_;exact h_ (by rw [e_];rfl)) _;(with_reducible repeat (first|apply kN|apply kD|apply kA));exact BK104.out⟩,⟨by repeat (first|(with_reducible first|exact HB.out|apply below_alloc|apply pw_below_drewN|apply below_drew1|refine below_set ?_ GB60.out|refine below_set ?_ GE104.out|refine below_set ?_ GE111.out)|exact HB.out)⟩⟩
                                 · rw [if_neg c59] at H
                                   exact absurd H (by simp)
                               · rw [if_neg c58] at H
                                 exact absurd H (by simp)
                             · rw [if_neg c57] at H
                               have c57b0 : decide (((rd_T44 (rd_L2 l0_0 x7_1) x8_2).f1) < 3) = false:=decide_eq_false c57
                               clear c57
                               have H':=Aside0.mk H
                               clear H
                               have hnb68:=NB111_104.out
                               have hnc68:=NB104_111.out
                               have hcz69_0 : wc.cell? ⟨gb111,0,none⟩ = some (.int .i64 ((rd_T44 (rd_L2 l0_0 x7_1) x8_2).f0)):=(blk_cell BK111.out 0).trans rfl
                               have hcz69_1 : wc.cell? ⟨gb111,1,none⟩ = some (.int .i64 ((rd_T44 (rd_L2 l0_0 x7_1) x8_2).f1)):=(blk_cell BK111.out 1).trans rfl
                               have hcz69_2 : wc.cell? ⟨gb111,2,none⟩ = some (.int .i64 ((rd_T44 (rd_L2 l0_0 x7_1) x8_2).f2)):=(blk_cell BK111.out 2).trans rfl
                               have hcz69_3 : wc.cell? ⟨gb111,3,none⟩ = some (.int .i64 ((rd_T44 (rd_L2 l0_0 x7_1) x8_2).f3)):=(blk_cell BK111.out 3).trans rfl
                               have hcz69_4 : wc.cell? ⟨gb111,4,none⟩ = some (.int .i64 ((rd_T44 (rd_L2 l0_0 x7_1) x8_2).f4)):=(blk_cell BK111.out 4).trans rfl
                               have hfz69_0:=blk_frozen BK111.out 0
                               have hfz69_1:=blk_frozen BK111.out 1
                               have hfz69_2:=blk_frozen BK111.out 2
                               have hfz69_3:=blk_frozen BK111.out 3
                               have hfz69_4:=blk_frozen BK111.out 4
                               go_wp2_with (first|((with_reducible refine gate_callee (f:=35) rfl ?_);refine goesL_ (some 52) rfl rfl Try.func35 (by kernel_rfl) rfl #[.agg #[.int .i64 ((rd_T44 (rd_L2 l0_0 x7_1) x8_2).f0),.int .i64 ((rd_T44 (rd_L2 l0_0 x7_1) x8_2).f1),.int .i64 ((rd_T44 (rd_L2 l0_0 x7_1) x8_2).f2),.int .i64 ((rd_T44 (rd_L2 l0_0 x7_1) x8_2).f3),.int .i64 ((rd_T44 (rd_L2 l0_0 x7_1) x8_2).f4)]] rfl (by (try simp only [List.map_toArray,List.map_cons,List.map_nil]);first|done|rfl|(simp only [List.length_drop,List.length_take];rfl)) ?_;(with_reducible refine (locklessref03_isAccess.calls ((rd_T44 (rd_L2 l0_0 x7_1) x8_2).f0) ((rd_T44 (rd_L2 l0_0 x7_1) x8_2).f1) ((rd_T44 (rd_L2 l0_0 x7_1) x8_2).f2) ((rd_T44 (rd_L2 l0_0 x7_1) x8_2).f3) ((rd_T44 (rd_L2 l0_0 x7_1) x8_2).f4) true _ A27.out).mono ?_);rintro e w70 ⟨rfl,hb⟩;refine ⟨_,rfl,?_⟩;have n0_:=Aside0.mk (Kd.R_below (by (with_reducible repeat (first|apply Kd.R_alloc|apply Kd.R_drewN|apply Kd.R_drew));exact HO_5.out) hb);have n1_:=Aside0.mk (blk_below (zb BK104.out) hb);have n2_:=Aside0.mk (blk_below (zb BK111.out) hb);have n3_:=Aside0.mk (below_step (by repeat (first|(with_reducible first|exact HB.out|apply below_alloc|apply pw_below_drewN|apply below_drew1|refine below_set ?_ GE104.out|refine below_set ?_ GE111.out)|exact HB.out)) hb);clear HO_5;clear BK104;clear BK111;clear HB;have HO_5:=n0_;have BK104:=n1_;have BK111:=n2_;have HB:=n3_;clear n0_ n1_ n2_ n3_;(try clear hb);(try clear hb2);(try clear hk);(try clear hi);have hcz71_0 : w70.cell? ⟨gb111,0,none⟩ = some (.int .i64 ((rd_T44 (rd_L2 l0_0 x7_1) x8_2).f0)):=(blk_cell BK111.out 0).trans rfl;have hcz71_1 : w70.cell? ⟨gb111,1,none⟩ = some (.int .i64 ((rd_T44 (rd_L2 l0_0 x7_1) x8_2).f1)):=(blk_cell BK111.out 1).trans rfl;have hcz71_2 : w70.cell? ⟨gb111,2,none⟩ = some (.int .i64 ((rd_T44 (rd_L2 l0_0 x7_1) x8_2).f2)):=(blk_cell BK111.out 2).trans rfl;have hcz71_3 : w70.cell? ⟨gb111,3,none⟩ = some (.int .i64 ((rd_T44 (rd_L2 l0_0 x7_1) x8_2).f3)):=(blk_cell BK111.out 3).trans rfl;have hcz71_4 : w70.cell? ⟨gb111,4,none⟩ = some (.int .i64 ((rd_T44 (rd_L2 l0_0 x7_1) x8_2).f4)):=(blk_cell BK111.out 4).trans rfl;have hfz71_0:=blk_frozen BK111.out 0;have hfz71_1:=blk_frozen BK111.out 1;have hfz71_2:=blk_frozen BK111.out 2;have hfz71_3:=blk_frozen BK111.out 3;have hfz71_4:=blk_frozen BK111.out 4))
                               go_roundg kj22
                               case measure=>have:=HK1.out;have:=HK2.out;have:=HJ12.out;have:=HJ22.out;omega
                               case rel=>exact ⟨(wrap64 (x3_2 + 1)),(x4_22),(x5_2),(x6_12),(wrap64 (x8_2 + 1)),(by first|rfl|(simp;done)|(simp [*];done)),(by first|rfl|(simp;done)|(simp [*];done)),(by first|rfl|(simp;done)|(simp [*];done)),(by first|rfl|(simp;done)|(simp [*];done)),H',⟨by have:=HK1.out;have:=HK2.out;have:=HJ12.out;have:=HJ22.out;omega⟩,⟨by (with_reducible repeat (first|apply Kd.R_alloc|apply Kd.R_drewN|apply Kd.R_drew));exact HO_5.out⟩,⟨by (with_reducible repeat (first|apply kN|apply kD|apply kA));exact BK104.out⟩,⟨by repeat (first|(with_reducible first|exact HB.out|apply below_alloc|apply pw_below_drewN|apply below_drew1|refine below_set ?_ GE104.out|refine below_set ?_ GE111.out)|exact HB.out)⟩⟩
                           · rw [if_neg c56] at H
                             have c56b0 : decide (0 ≤ ((rd_T44 (rd_L2 l0_0 x7_1) x8_2).f1)) = false:=decide_eq_false c56
                             clear c56
                             have H':=Aside0.mk H
                             clear H
                             have hnb72:=NB111_104.out
                             have hnc72:=NB104_111.out
                             have hcz73_0 : wc.cell? ⟨gb111,0,none⟩ = some (.int .i64 ((rd_T44 (rd_L2 l0_0 x7_1) x8_2).f0)):=(blk_cell BK111.out 0).trans rfl
                             have hcz73_1 : wc.cell? ⟨gb111,1,none⟩ = some (.int .i64 ((rd_T44 (rd_L2 l0_0 x7_1) x8_2).f1)):=(blk_cell BK111.out 1).trans rfl
                             have hcz73_2 : wc.cell? ⟨gb111,2,none⟩ = some (.int .i64 ((rd_T44 (rd_L2 l0_0 x7_1) x8_2).f2)):=(blk_cell BK111.out 2).trans rfl
                             have hcz73_3 : wc.cell? ⟨gb111,3,none⟩ = some (.int .i64 ((rd_T44 (rd_L2 l0_0 x7_1) x8_2).f3)):=(blk_cell BK111.out 3).trans rfl
                             have hcz73_4 : wc.cell? ⟨gb111,4,none⟩ = some (.int .i64 ((rd_T44 (rd_L2 l0_0 x7_1) x8_2).f4)):=(blk_cell BK111.out 4).trans rfl
                             have hfz73_0:=blk_frozen BK111.out 0
                             have hfz73_1:=blk_frozen BK111.out 1
                             have hfz73_2:=blk_frozen BK111.out 2
                             have hfz73_3:=blk_frozen BK111.out 3
                             have hfz73_4:=blk_frozen BK111.out 4
                             go_wp2_with (first|((with_reducible refine gate_callee (f:=35) rfl ?_);refine goesL_ (some 52) rfl rfl Try.func35 (by kernel_rfl) rfl #[.agg #[.int .i64 ((rd_T44 (rd_L2 l0_0 x7_1) x8_2).f0),.int .i64 ((rd_T44 (rd_L2 l0_0 x7_1) x8_2).f1),.int .i64 ((rd_T44 (rd_L2 l0_0 x7_1) x8_2).f2),.int .i64 ((rd_T44 (rd_L2 l0_0 x7_1) x8_2).f3),.int .i64 ((rd_T44 (rd_L2 l0_0 x7_1) x8_2).f4)]] rfl (by (try simp only [List.map_toArray,List.map_cons,List.map_nil]);first|done|rfl|(simp only [List.length_drop,List.length_take];rfl)) ?_;(with_reducible refine (locklessref03_isAccess.calls ((rd_T44 (rd_L2 l0_0 x7_1) x8_2).f0) ((rd_T44 (rd_L2 l0_0 x7_1) x8_2).f1) ((rd_T44 (rd_L2 l0_0 x7_1) x8_2).f2) ((rd_T44 (rd_L2 l0_0 x7_1) x8_2).f3) ((rd_T44 (rd_L2 l0_0 x7_1) x8_2).f4) true _ A27.out).mono ?_);rintro e w74 ⟨rfl,hb⟩;refine ⟨_,rfl,?_⟩;have n0_:=Aside0.mk (Kd.R_below (by (with_reducible repeat (first|apply Kd.R_alloc|apply Kd.R_drewN|apply Kd.R_drew));exact HO_5.out) hb);have n1_:=Aside0.mk (blk_below (zb BK104.out) hb);have n2_:=Aside0.mk (blk_below (zb BK111.out) hb);have n3_:=Aside0.mk (below_step (by repeat (first|(with_reducible first|exact HB.out|apply below_alloc|apply pw_below_drewN|apply below_drew1|refine below_set ?_ GE104.out|refine below_set ?_ GE111.out)|exact HB.out)) hb);clear HO_5;clear BK104;clear BK111;clear HB;have HO_5:=n0_;have BK104:=n1_;have BK111:=n2_;have HB:=n3_;clear n0_ n1_ n2_ n3_;(try clear hb);(try clear hb2);(try clear hk);(try clear hi);have hcz75_0 : w74.cell? ⟨gb111,0,none⟩ = some (.int .i64 ((rd_T44 (rd_L2 l0_0 x7_1) x8_2).f0)):=(blk_cell BK111.out 0).trans rfl;have hcz75_1 : w74.cell? ⟨gb111,1,none⟩ = some (.int .i64 ((rd_T44 (rd_L2 l0_0 x7_1) x8_2).f1)):=(blk_cell BK111.out 1).trans rfl;have hcz75_2 : w74.cell? ⟨gb111,2,none⟩ = some (.int .i64 ((rd_T44 (rd_L2 l0_0 x7_1) x8_2).f2)):=(blk_cell BK111.out 2).trans rfl;have hcz75_3 : w74.cell? ⟨gb111,3,none⟩ = some (.int .i64 ((rd_T44 (rd_L2 l0_0 x7_1) x8_2).f3)):=(blk_cell BK111.out 3).trans rfl;have hcz75_4 : w74.cell? ⟨gb111,4,none⟩ = some (.int .i64 ((rd_T44 (rd_L2 l0_0 x7_1) x8_2).f4)):=(blk_cell BK111.out 4).trans rfl;have hfz75_0:=blk_frozen BK111.out 0;have hfz75_1:=blk_frozen BK111.out 1;have hfz75_2:=blk_frozen BK111.out 2;have hfz75_3:=blk_frozen BK111.out 3;have hfz75_4:=blk_frozen BK111.out 4))
                             go_roundg kj22
                             case measure=>have:=HK1.out;have:=HK2.out;have:=HJ12.out;have:=HJ22.out;omega
                             case rel=>exact ⟨(wrap64 (x3_2 + 1)),(x4_22),(x5_2),(x6_12),(wrap64 (x8_2 + 1)),(by first|rfl|(simp;done)|(simp [*];done)),(by first|rfl|(simp;done)|(simp [*];done)),(by first|rfl|(simp;done)|(simp [*];done)),(by first|rfl|(simp;done)|(simp [*];done)),H',⟨by have:=HK1.out;have:=HK2.out;have:=HJ12.out;have:=HJ22.out;omega⟩,⟨by (with_reducible repeat (first|apply Kd.R_alloc|apply Kd.R_drewN|apply Kd.R_drew));exact HO_5.out⟩,⟨by (with_reducible repeat (first|apply kN|apply kD|apply kA));exact BK104.out⟩,⟨by repeat (first|(with_reducible first|exact HB.out|apply below_alloc|apply pw_below_drewN|apply below_drew1|refine below_set ?_ GE104.out|refine below_set ?_ GE111.out)|exact HB.out)⟩⟩
                         · rw [if_neg c55] at H
                           have c55b0 : decide (0 < ((rd_T44 (rd_L2 l0_0 x7_1) x8_2).f0)) = false:=decide_eq_false c55
                           clear c55
                           have H':=Aside0.mk H
                           clear H
                           have hnb76:=NB111_104.out
                           have hnc76:=NB104_111.out
                           have hcz77_0 : wc.cell? ⟨gb111,0,none⟩ = some (.int .i64 ((rd_T44 (rd_L2 l0_0 x7_1) x8_2).f0)):=(blk_cell BK111.out 0).trans rfl
                           have hcz77_1 : wc.cell? ⟨gb111,1,none⟩ = some (.int .i64 ((rd_T44 (rd_L2 l0_0 x7_1) x8_2).f1)):=(blk_cell BK111.out 1).trans rfl
                           have hcz77_2 : wc.cell? ⟨gb111,2,none⟩ = some (.int .i64 ((rd_T44 (rd_L2 l0_0 x7_1) x8_2).f2)):=(blk_cell BK111.out 2).trans rfl
                           have hcz77_3 : wc.cell? ⟨gb111,3,none⟩ = some (.int .i64 ((rd_T44 (rd_L2 l0_0 x7_1) x8_2).f3)):=(blk_cell BK111.out 3).trans rfl
                           have hcz77_4 : wc.cell? ⟨gb111,4,none⟩ = some (.int .i64 ((rd_T44 (rd_L2 l0_0 x7_1) x8_2).f4)):=(blk_cell BK111.out 4).trans rfl
                           have hfz77_0:=blk_frozen BK111.out 0
                           have hfz77_1:=blk_frozen BK111.out 1
                           have hfz77_2:=blk_frozen BK111.out 2
                           have hfz77_3:=blk_frozen BK111.out 3
                           have hfz77_4:=blk_frozen BK111.out 4
                           go_wp2_with (first|((with_reducible refine gate_callee (f:=35) rfl ?_);refine goesL_ (some 52) rfl rfl Try.func35 (by kernel_rfl) rfl #[.agg #[.int .i64 ((rd_T44 (rd_L2 l0_0 x7_1) x8_2).f0),.int .i64 ((rd_T44 (rd_L2 l0_0 x7_1) x8_2).f1),.int .i64 ((rd_T44 (rd_L2 l0_0 x7_1) x8_2).f2),.int .i64 ((rd_T44 (rd_L2 l0_0 x7_1) x8_2).f3),.int .i64 ((rd_T44 (rd_L2 l0_0 x7_1) x8_2).f4)]] rfl (by (try simp only [List.map_toArray,List.map_cons,List.map_nil]);first|done|rfl|(simp only [List.length_drop,List.length_take];rfl)) ?_;(with_reducible refine (locklessref03_isAccess.calls ((rd_T44 (rd_L2 l0_0 x7_1) x8_2).f0) ((rd_T44 (rd_L2 l0_0 x7_1) x8_2).f1) ((rd_T44 (rd_L2 l0_0 x7_1) x8_2).f2) ((rd_T44 (rd_L2 l0_0 x7_1) x8_2).f3) ((rd_T44 (rd_L2 l0_0 x7_1) x8_2).f4) true _ A27.out).mono ?_);rintro e w78 ⟨rfl,hb⟩;refine ⟨_,rfl,?_⟩;have n0_:=Aside0.mk (Kd.R_below (by (with_reducible repeat (first|apply Kd.R_alloc|apply Kd.R_drewN|apply Kd.R_drew));exact HO_5.out) hb);have n1_:=Aside0.mk (blk_below (zb BK104.out) hb);have n2_:=Aside0.mk (blk_below (zb BK111.out) hb);have n3_:=Aside0.mk (below_step (by repeat (first|(with_reducible first|exact HB.out|apply below_alloc|apply pw_below_drewN|apply below_drew1|refine below_set ?_ GE104.out|refine below_set ?_ GE111.out)|exact HB.out)) hb);clear HO_5;clear BK104;clear BK111;clear HB;have HO_5:=n0_;have BK104:=n1_;have BK111:=n2_;have HB:=n3_;clear n0_ n1_ n2_ n3_;(try clear hb);(try clear hb2);(try clear hk);(try clear hi);have hcz79_0 : w78.cell? ⟨gb111,0,none⟩ = some (.int .i64 ((rd_T44 (rd_L2 l0_0 x7_1) x8_2).f0)):=(blk_cell BK111.out 0).trans rfl;have hcz79_1 : w78.cell? ⟨gb111,1,none⟩ = some (.int .i64 ((rd_T44 (rd_L2 l0_0 x7_1) x8_2).f1)):=(blk_cell BK111.out 1).trans rfl;have hcz79_2 : w78.cell? ⟨gb111,2,none⟩ = some (.int .i64 ((rd_T44 (rd_L2 l0_0 x7_1) x8_2).f2)):=(blk_cell BK111.out 2).trans rfl;have hcz79_3 : w78.cell? ⟨gb111,3,none⟩ = some (.int .i64 ((rd_T44 (rd_L2 l0_0 x7_1) x8_2).f3)):=(blk_cell BK111.out 3).trans rfl;have hcz79_4 : w78.cell? ⟨gb111,4,none⟩ = some (.int .i64 ((rd_T44 (rd_L2 l0_0 x7_1) x8_2).f4)):=(blk_cell BK111.out 4).trans rfl;have hfz79_0:=blk_frozen BK111.out 0;have hfz79_1:=blk_frozen BK111.out 1;have hfz79_2:=blk_frozen BK111.out 2;have hfz79_3:=blk_frozen BK111.out 3;have hfz79_4:=blk_frozen BK111.out 4))
                           go_roundg kj22
                           case measure=>have:=HK1.out;have:=HK2.out;have:=HJ12.out;have:=HJ22.out;omega
                           case rel=>exact ⟨(wrap64 (x3_2 + 1)),(x4_22),(x5_2),(x6_12),(wrap64 (x8_2 + 1)),(by first|rfl|(simp;done)|(simp [*];done)),(by first|rfl|(simp;done)|(simp [*];done)),(by first|rfl|(simp;done)|(simp [*];done)),(by first|rfl|(simp;done)|(simp [*];done)),H',⟨by have:=HK1.out;have:=HK2.out;have:=HJ12.out;have:=HJ22.out;omega⟩,⟨by (with_reducible repeat (first|apply Kd.R_alloc|apply Kd.R_drewN|apply Kd.R_drew));exact HO_5.out⟩,⟨by (with_reducible repeat (first|apply kN|apply kD|apply kA));exact BK104.out⟩,⟨by repeat (first|(with_reducible first|exact HB.out|apply below_alloc|apply pw_below_drewN|apply below_drew1|refine below_set ?_ GE104.out|refine below_set ?_ GE111.out)|exact HB.out)⟩⟩
                     · replace c28:=Bool.eq_false_iff.mpr c28
                       subst c28
                       have H1 : (locklessref03_Check.l1 kj22 x3_2 x4_22 x5_2 x6_12 x7_1 (wrap64 (x8_2 + 1)) l0_0) = some r:=by rw [if_neg (show ¬ (false = true) by decide)] at H;exact H
                       clear H
                       have H:=H1
                       clear H1
                       have H':=Aside0.mk H
                       clear H
                       have hnb80:=NB111_104.out
                       have hnc80:=NB104_111.out
                       have hcz81_0 : wc.cell? ⟨gb111,0,none⟩ = some (.int .i64 ((rd_T44 (rd_L2 l0_0 x7_1) x8_2).f0)):=(blk_cell BK111.out 0).trans rfl
                       have hcz81_1 : wc.cell? ⟨gb111,1,none⟩ = some (.int .i64 ((rd_T44 (rd_L2 l0_0 x7_1) x8_2).f1)):=(blk_cell BK111.out 1).trans rfl
                       have hcz81_2 : wc.cell? ⟨gb111,2,none⟩ = some (.int .i64 ((rd_T44 (rd_L2 l0_0 x7_1) x8_2).f2)):=(blk_cell BK111.out 2).trans rfl
                       have hcz81_3 : wc.cell? ⟨gb111,3,none⟩ = some (.int .i64 ((rd_T44 (rd_L2 l0_0 x7_1) x8_2).f3)):=(blk_cell BK111.out 3).trans rfl
                       have hcz81_4 : wc.cell? ⟨gb111,4,none⟩ = some (.int .i64 ((rd_T44 (rd_L2 l0_0 x7_1) x8_2).f4)):=(blk_cell BK111.out 4).trans rfl
                       have hfz81_0:=blk_frozen BK111.out 0
                       have hfz81_1:=blk_frozen BK111.out 1
                       have hfz81_2:=blk_frozen BK111.out 2
                       have hfz81_3:=blk_frozen BK111.out 3
                       have hfz81_4:=blk_frozen BK111.out 4
                       go_wp2_with (first|((with_reducible refine gate_callee (f:=35) rfl ?_);refine goesL_ (some 52) rfl rfl Try.func35 (by kernel_rfl) rfl #[.agg #[.int .i64 ((rd_T44 (rd_L2 l0_0 x7_1) x8_2).f0),.int .i64 ((rd_T44 (rd_L2 l0_0 x7_1) x8_2).f1),.int .i64 ((rd_T44 (rd_L2 l0_0 x7_1) x8_2).f2),.int .i64 ((rd_T44 (rd_L2 l0_0 x7_1) x8_2).f3),.int .i64 ((rd_T44 (rd_L2 l0_0 x7_1) x8_2).f4)]] rfl (by (try simp only [List.map_toArray,List.map_cons,List.map_nil]);first|done|rfl|(simp only [List.length_drop,List.length_take];rfl)) ?_;(with_reducible refine (locklessref03_isAccess.calls ((rd_T44 (rd_L2 l0_0 x7_1) x8_2).f0) ((rd_T44 (rd_L2 l0_0 x7_1) x8_2).f1) ((rd_T44 (rd_L2 l0_0 x7_1) x8_2).f2) ((rd_T44 (rd_L2 l0_0 x7_1) x8_2).f3) ((rd_T44 (rd_L2 l0_0 x7_1) x8_2).f4) false _ A27.out).mono ?_);rintro e w82 ⟨rfl,hb⟩;refine ⟨_,rfl,?_⟩;have n0_:=Aside0.mk (Kd.R_below (by (with_reducible repeat (first|apply Kd.R_alloc|apply Kd.R_drewN|apply Kd.R_drew));exact HO_5.out) hb);have n1_:=Aside0.mk (blk_below (zb BK104.out) hb);have n2_:=Aside0.mk (blk_below (zb BK111.out) hb);have n3_:=Aside0.mk (below_step (by repeat (first|(with_reducible first|exact HB.out|apply below_alloc|apply pw_below_drewN|apply below_drew1|refine below_set ?_ GE104.out|refine below_set ?_ GE111.out)|exact HB.out)) hb);clear HO_5;clear BK104;clear BK111;clear HB;have HO_5:=n0_;have BK104:=n1_;have BK111:=n2_;have HB:=n3_;clear n0_ n1_ n2_ n3_;(try clear hb);(try clear hb2);(try clear hk);(try clear hi)))
                       go_roundg kj22
                       case measure=>have:=HK1.out;have:=HK2.out;have:=HJ12.out;have:=HJ22.out;omega
                       case rel=>exact ⟨(x3_2),(x4_22),(x5_2),(x6_12),(wrap64 (x8_2 + 1)),(by first|rfl|(simp;done)|(simp [*];done)),(by first|rfl|(simp;done)|(simp [*];done)),(by first|rfl|(simp;done)|(simp [*];done)),(by first|rfl|(simp;done)|(simp [*];done)),H',⟨by have:=HK1.out;have:=HK2.out;have:=HJ12.out;have:=HJ22.out;omega⟩,⟨by (with_reducible repeat (first|apply Kd.R_alloc|apply Kd.R_drewN|apply Kd.R_drew));exact HO_5.out⟩,⟨by (with_reducible repeat (first|apply kN|apply kD|apply kA));exact BK104.out⟩,⟨by repeat (first|(with_reducible first|exact HB.out|apply below_alloc|apply pw_below_drewN|apply below_drew1|refine below_set ?_ GE104.out|refine below_set ?_ GE111.out)|exact HB.out)⟩⟩
               · rw [if_neg c12] at H
                 exact absurd H (by simp)
             · rw [if_neg c11] at H
               have c11b0 : decide (x8_2 < ((rd_L2 l0_0 x7_1).length : Int)) = false:=decide_eq_false c11
               clear c11
               have H':=Aside0.mk H
               clear H
               have hcz83_0 : wr.cell? ⟨gb104,0,none⟩ = some (.slice A0_0 l0_0.length c0_0):=(blk_cell BK104.out 0).trans rfl
               have hfz83_0:=blk_frozen BK104.out 0
               have p108 : 0 ≤ (x7_1 : Int):=of_decide_eq_true (by first|(with_reducible assumption)|assumption)
               have q108 : x7_1 < (l0_0.length : Int):=of_decide_eq_true (by first|(with_reducible assumption)|assumption)
               obtain ⟨ad108,A108_0,c108_0,e108,hx108_0,hl108_0,hi108_0⟩:=at_L2 HR0_0.out x7_1 p108 q108
               cases e108
               replace hx108_0:=(HB.out.cell (World.block_lt_of_cell? w _ hx108_0)).trans hx108_0
               have HR108_0:=Aside0.mk hi108_0
               have HC108_0:=Aside0.mk hl108_0
               clear hi108_0 hl108_0
               replace p108:=eq_true p108
               replace q108:=eq_true q108
               go_wp2
               go_roundg k2
               case measure=>have:=HK1.out;have:=HK2.out;omega
               case rel=>exact ⟨(x3_2),(x4_2),(x5_2),(x6_2),(wrap64 (x7_1 + 1)),(by first|rfl|(simp;done)|(simp [*];done)),(by first|rfl|(simp;done)|(simp [*];done)),(by first|rfl|(simp;done)|(simp [*];done)),(by first|rfl|(simp;done)|(simp [*];done)),H',⟨by have:=HK1.out;have:=HK2.out;omega⟩,⟨by (with_reducible repeat (first|apply Kd.R_alloc|apply Kd.R_drewN|apply Kd.R_drew));exact HO_5.out⟩,⟨by (with_reducible repeat (first|apply kN|apply kD|apply kA));exact BK104.out⟩,⟨by repeat (first|(with_reducible first|exact HB.out|apply below_alloc|apply pw_below_drewN|apply below_drew1|refine below_set ?_ GE104.out)|exact HB.out)⟩⟩
           · rw [if_neg c10] at H
             exact absurd H (by simp)
         · rw [if_neg c9] at H
           exact absurd H (by simp)
     · rw [if_neg c7] at H
       have c7b0 : decide (x7_1 < (l0_0.length : Int)) = false:=decide_eq_false c7
       clear c7
       have HC84:=Aside0.mk H
       clear H
       have hcz85_0 : wr.cell? ⟨gb104,0,none⟩ = some (.slice A0_0 l0_0.length c0_0):=(blk_cell BK104.out 0).trans rfl
       have hfz85_0:=blk_frozen BK104.out 0
       go_upto_region 21 with (fail)
       go_cut [95] (fun v95 wc=>∃ (kq : Nat) (x95_83 : Bool),v95 = .bool x95_83 ∧ Aside0 (locklessref03_Check.j4 kq x5_1 x6_1 x95_83 = some r) ∧ Aside0 (kq ≤ k1) ∧ Aside0 (Kd.R (Kd.int .i64) 3 wc w.heap.size (fun _=>True) v106 x5_1) ∧ Aside0 (wc.heap[gb104]? = some (.cells #[(.slice A0_0 l0_0.length c0_0)] 24 (0,0))) ∧ Aside0 (Below w.heap.size w wc))
       case first=>
        have H:=HC84.out
        clear HC84
        by_cases c86 : (l0_0.length : Int) > 3
        · rw [if_pos c86] at H
          have c86b0 : decide (3 < (l0_0.length : Int)) = true:=decide_eq_true c86
          have c86b1 : decide (3 < l0_0.length) = true:=decide_eq_true (by omega)
          clear c86
          (first|rw [c86b0]|(simp only [i64_w,i32_w];rw [c86b0])|skip)
          have H':=Aside0.mk H
          clear H
          have hcz87_0 : wr.cell? ⟨gb104,0,none⟩ = some (.slice A0_0 l0_0.length c0_0):=(blk_cell BK104.out 0).trans rfl
          have hfz87_0:=blk_frozen BK104.out 0
          go_wp2
          go_meet
          case rel=>exact ⟨_,(true),(by first|rfl|(simp;done)|(simp [*];done)),H',⟨by have:=HK1.out;first|omega|exact Nat.le_refl _⟩,⟨by (with_reducible repeat (first|apply Kd.R_alloc|apply Kd.R_drewN|apply Kd.R_drew));exact HO_5.out⟩,⟨by (with_reducible repeat (first|apply kN|apply kD|apply kA));exact BK104.out⟩,⟨by repeat (first|(with_reducible first|exact HB.out|apply below_alloc|apply pw_below_drewN|apply below_drew1|refine below_set ?_ GE104.out)|exact HB.out)⟩⟩
        · rw [if_neg c86] at H
          have c86b0 : decide (3 < (l0_0.length : Int)) = false:=decide_eq_false c86
          have c86b1 : decide (3 < l0_0.length) = false:=decide_eq_false (by omega)
          clear c86
          (first|rw [c86b0]|(simp only [i64_w,i32_w];rw [c86b0])|skip)
          by_cases c88 : x3_1 > 6
          · rw [if_pos c88] at H
            have c88b0 : decide (6 < x3_1) = true:=decide_eq_true c88
            clear c88
            have H':=Aside0.mk H
            clear H
            have hcz89_0 : wr.cell? ⟨gb104,0,none⟩ = some (.slice A0_0 l0_0.length c0_0):=(blk_cell BK104.out 0).trans rfl
            have hfz89_0:=blk_frozen BK104.out 0
            go_wp2
            go_meet
            case rel=>exact ⟨_,(true),(by first|rfl|(simp;done)|(simp [*];done)),H',⟨by have:=HK1.out;first|omega|exact Nat.le_refl _⟩,⟨by (with_reducible repeat (first|apply Kd.R_alloc|apply Kd.R_drewN|apply Kd.R_drew));exact HO_5.out⟩,⟨by (with_reducible repeat (first|apply kN|apply kD|apply kA));exact BK104.out⟩,⟨by repeat (first|(with_reducible first|exact HB.out|apply below_alloc|apply pw_below_drewN|apply below_drew1|refine below_set ?_ GE104.out)|exact HB.out)⟩⟩
          · rw [if_neg c88] at H
            have c88b0 : decide (6 < x3_1) = false:=decide_eq_false c88
            clear c88
            have H':=Aside0.mk H
            clear H
            have hcz90_0 : wr.cell? ⟨gb104,0,none⟩ = some (.slice A0_0 l0_0.length c0_0):=(blk_cell BK104.out 0).trans rfl
            have hfz90_0:=blk_frozen BK104.out 0
            go_wp2
            go_meet
            case rel=>exact ⟨_,(decide (x4_1 > 8)),(by first|rfl|(simp;done)|(simp [*];done)),H',⟨by have:=HK1.out;first|omega|exact Nat.le_refl _⟩,⟨by (with_reducible repeat (first|apply Kd.R_alloc|apply Kd.R_drewN|apply Kd.R_drew));exact HO_5.out⟩,⟨by (with_reducible repeat (first|apply kN|apply kD|apply kA));exact BK104.out⟩,⟨by repeat (first|(with_reducible first|exact HB.out|apply below_alloc|apply pw_below_drewN|apply below_drew1|refine below_set ?_ GE104.out)|exact HB.out)⟩⟩
       case rest=>
        clear HC84
        (try clear c1);(try clear p1);(try clear q1);(try clear hx1);(try clear c2);(try clear p2);(try clear c3);(try clear p3);(try clear q3);(try clear hx3);(try clear hf3);(try clear c4);(try clear c5);(try clear c6);(try clear p6);(try clear q6);(try clear hx6);(try clear hf6);(try clear c7);(try clear c7b0);(try clear c8);(try clear c9);(try clear c10);(try clear p10);(try clear q10);(try clear hx10);(try clear c11);(try clear c11b0);(try clear p11);(try clear q11);(try clear hx11);(try clear c12);(try clear c28);(try clear c29);(try clear c29b0);(try clear c29b1);(try clear c30);(try clear c30b0);(try clear c31);(try clear c31b0);(try clear c32);(try clear c32b0);(try clear c33);(try clear c33b0);(try clear c34);(try clear c34b0);(try clear c35);(try clear p35);(try clear q35);(try clear hx35);(try clear hf35);(try clear c36);(try clear c43);(try clear c47);(try clear c51);(try clear c55);(try clear c55b0);(try clear c56);(try clear c56b0);(try clear c57);(try clear c57b0);(try clear c58);(try clear c58b0);(try clear c59);(try clear c59b0);(try clear p60);(try clear q60);(try clear hx60);(try clear hf60);(try clear c61);(try clear p64);(try clear c68);(try clear c72);(try clear c76);(try clear c80);(try clear c86);(try clear c86b0);(try clear c86b1);(try clear c88);(try clear c88b0);(try clear hcz37_0);(try clear hcz37_1);(try clear hcz37_2);(try clear hcz37_3);(try clear hcz37_4);(try clear hcz39_0);(try clear hcz39_1);(try clear hcz39_2);(try clear hcz39_3);(try clear hcz39_4);(try clear hcz44_0);(try clear hcz44_1);(try clear hcz44_2);(try clear hcz44_3);(try clear hcz44_4);(try clear hcz46_0);(try clear hcz46_1);(try clear hcz46_2);(try clear hcz46_3);(try clear hcz46_4);(try clear hcz48_0);(try clear hcz48_1);(try clear hcz48_2);(try clear hcz48_3);(try clear hcz48_4);(try clear hcz50_0);(try clear hcz50_1);(try clear hcz50_2);(try clear hcz50_3);(try clear hcz50_4);(try clear hcz52_0);(try clear hcz52_1);(try clear hcz52_2);(try clear hcz52_3);(try clear hcz52_4);(try clear hcz54_0);(try clear hcz54_1);(try clear hcz54_2);(try clear hcz54_3);(try clear hcz54_4);(try clear hcz62_0);(try clear hcz62_1);(try clear hcz62_2);(try clear hcz62_3);(try clear hcz62_4);(try clear hcz64_0);(try clear hcz64_1);(try clear hcz64_2);(try clear hcz64_3);(try clear hcz64_4);(try clear hcz69_0);(try clear hcz69_1);(try clear hcz69_2);(try clear hcz69_3);(try clear hcz69_4);(try clear hcz71_0);(try clear hcz71_1);(try clear hcz71_2);(try clear hcz71_3);(try clear hcz71_4);(try clear hcz73_0);(try clear hcz73_1);(try clear hcz73_2);(try clear hcz73_3);(try clear hcz73_4);(try clear hcz75_0);(try clear hcz75_1);(try clear hcz75_2);(try clear hcz75_3);(try clear hcz75_4);(try clear hcz77_0);(try clear hcz77_1);(try clear hcz77_2);(try clear hcz77_3);(try clear hcz77_4);(try clear hcz79_0);(try clear hcz79_1);(try clear hcz79_2);(try clear hcz79_3);(try clear hcz79_4);(try clear hcz81_0);(try clear hcz81_1);(try clear hcz81_2);(try clear hcz81_3);(try clear hcz81_4);(try clear hcz83_0);(try clear hcz85_0);(try clear hcz87_0);(try clear hcz89_0);(try clear hcz90_0);(try clear hfz37_0);(try clear hfz37_1);(try clear hfz37_2);(try clear hfz37_3);(try clear hfz37_4);(try clear hfz39_0);(try clear hfz39_1);(try clear hfz39_2);(try clear hfz39_3);(try clear hfz39_4);(try clear hfz44_0);(try clear hfz44_1);(try clear hfz44_2);(try clear hfz44_3);(try clear hfz44_4);(try clear hfz46_0);(try clear hfz46_1);(try clear hfz46_2);(try clear hfz46_3);(try clear hfz46_4);(try clear hfz48_0);(try clear hfz48_1);(try clear hfz48_2);(try clear hfz48_3);(try clear hfz48_4);(try clear hfz50_0);(try clear hfz50_1);(try clear hfz50_2);(try clear hfz50_3);(try clear hfz50_4);(try clear hfz52_0);(try clear hfz52_1);(try clear hfz52_2);(try clear hfz52_3);(try clear hfz52_4);(try clear hfz54_0);(try clear hfz54_1);(try clear hfz54_2);(try clear hfz54_3);(try clear hfz54_4);(try clear hfz62_0);(try clear hfz62_1);(try clear hfz62_2);(try clear hfz62_3);(try clear hfz62_4);(try clear hfz64_0);(try clear hfz64_1);(try clear hfz64_2);(try clear hfz64_3);(try clear hfz64_4);(try clear hfz69_0);(try clear hfz69_1);(try clear hfz69_2);(try clear hfz69_3);(try clear hfz69_4);(try clear hfz71_0);(try clear hfz71_1);(try clear hfz71_2);(try clear hfz71_3);(try clear hfz71_4);(try clear hfz73_0);(try clear hfz73_1);(try clear hfz73_2);(try clear hfz73_3);(try clear hfz73_4);(try clear hfz75_0);(try clear hfz75_1);(try clear hfz75_2);(try clear hfz75_3);(try clear hfz75_4);(try clear hfz77_0);(try clear hfz77_1);(try clear hfz77_2);(try clear hfz77_3);(try clear hfz77_4);(try clear hfz79_0);(try clear hfz79_1);(try clear hfz79_2);(try clear hfz79_3);(try clear hfz79_4);(try clear hfz81_0);(try clear hfz81_1);(try clear hfz81_2);(try clear hfz81_3);(try clear hfz81_4);(try clear hfz83_0);(try clear hfz85_0);(try clear hfz87_0);(try clear hfz89_0);(try clear hfz90_0);(try clear hx108_0);(try clear hx114_0);(try clear hx116_0);(try clear hx35_0);(try clear hx60_0);(try clear p108);(try clear p114);(try clear p116);(try clear p35);(try clear p60);(try clear q108);(try clear q114);(try clear q116);(try clear q35);(try clear q60)
        obtain ⟨kq,x95_83,rfl,HA,HJ83,HO_5,BK104,HB⟩:=hcut
        cases kq with
        | zero=>exact absurd HA.out (by simp [locklessref03_Check.j4])
        | succ kj83=>
         have H:=HA.out
         clear HA
         simp only [locklessref03_Check.j4] at H
         by_cases c91 : x95_83 = true
         · subst c91
           have H1 : (some 2) = some r:=by rw [if_pos rfl] at H;exact H
           clear H
           have H:=H1
           clear H1
           obtain rfl:=Option.some.inj H
           go_wp2
           go_ret
           exact ⟨by first|rfl|(simp [errW_none,errW_some] <;> rfl)|(simp [*,errW_none,errW_some] <;> rfl),by repeat (first|(with_reducible first|exact HB.out|apply below_alloc|apply pw_below_drewN|apply below_drew1|refine below_set ?_ GE104.out)|exact HB.out)⟩
         · replace c91:=Bool.eq_false_iff.mpr c91
           subst c91
           have H1 : (locklessref03_Check.l2 kj83 x5_1 x6_1 0) = some r:=by rw [if_neg (show ¬ (false = true) by decide)] at H;exact H
           clear H
           have H:=H1
           clear H1
           have H':=Aside0.mk H
           clear H
           go_wp2
           go_loopg [10] kj83 (fun kq v10 w'=>∃ (x10_3 : Int),v10 = .int .i64 x10_3 ∧ Aside0 (locklessref03_Check.l2 kq x5_1 x6_1 x10_3 = some r) ∧ Aside0 (kq ≤ kj83) ∧ Aside0 (Kd.R (Kd.int .i64) 3 w' w.heap.size (fun _=>True) v106 x5_1) ∧ Aside0 (w'.heap[gb104]? = some (.cells #[(.slice A0_0 l0_0.length c0_0)] 24 (0,0))) ∧ Aside0 (Below w.heap.size w w'))
           case atStart=>exact ⟨(0),(by first|rfl|(simp;done)|(simp [*];done)),H',⟨Nat.le_refl _⟩,⟨by (with_reducible repeat (first|apply Kd.R_alloc|apply Kd.R_drewN|apply Kd.R_drew));exact HO_5.out⟩,⟨by (with_reducible repeat (first|apply kN|apply kD|apply kA));exact BK104.out⟩,⟨by repeat (first|(with_reducible first|exact HB.out|apply below_alloc|apply pw_below_drewN|apply below_drew1|refine below_set ?_ GE104.out)|exact HB.out)⟩⟩
           case round=>
            clear H'
            (try clear c1);(try clear p1);(try clear q1);(try clear hx1);(try clear c2);(try clear p2);(try clear c3);(try clear p3);(try clear q3);(try clear hx3);(try clear hf3);(try clear c4);(try clear c5);(try clear c6);(try clear p6);(try clear q6);(try clear hx6);(try clear hf6);(try clear c7);(try clear c7b0);(try clear c8);(try clear c9);(try clear c10);(try clear p10);(try clear q10);(try clear hx10);(try clear c11);(try clear c11b0);(try clear p11);(try clear q11);(try clear hx11);(try clear c12);(try clear c28);(try clear c29);(try clear c29b0);(try clear c29b1);(try clear c30);(try clear c30b0);(try clear c31);(try clear c31b0);(try clear c32);(try clear c32b0);(try clear c33);(try clear c33b0);(try clear c34);(try clear c34b0);(try clear c35);(try clear p35);(try clear q35);(try clear hx35);(try clear hf35);(try clear c36);(try clear c43);(try clear c47);(try clear c51);(try clear c55);(try clear c55b0);(try clear c56);(try clear c56b0);(try clear c57);(try clear c57b0);(try clear c58);(try clear c58b0);(try clear c59);(try clear c59b0);(try clear p60);(try clear q60);(try clear hx60);(try clear hf60);(try clear c61);(try clear p64);(try clear c68);(try clear c72);(try clear c76);(try clear c80);(try clear c86);(try clear c86b0);(try clear c86b1);(try clear c88);(try clear c88b0);(try clear c91);(try clear hcz37_0);(try clear hcz37_1);(try clear hcz37_2);(try clear hcz37_3);(try clear hcz37_4);(try clear hcz39_0);(try clear hcz39_1);(try clear hcz39_2);(try clear hcz39_3);(try clear hcz39_4);(try clear hcz44_0);(try clear hcz44_1);(try clear hcz44_2);(try clear hcz44_3);(try clear hcz44_4);(try clear hcz46_0);(try clear hcz46_1);(try clear hcz46_2);(try clear hcz46_3);(try clear hcz46_4);(try clear hcz48_0);(try clear hcz48_1);(try clear hcz48_2);(try clear hcz48_3);(try clear hcz48_4);(try clear hcz50_0);(try clear hcz50_1);(try clear hcz50_2);(try clear hcz50_3);(try clear hcz50_4);(try clear hcz52_0);(try clear hcz52_1);(try clear hcz52_2);(try clear hcz52_3);(try clear hcz52_4);(try clear hcz54_0);(try clear hcz54_1);(try clear hcz54_2);(try clear hcz54_3);(try clear hcz54_4);(try clear hcz62_0);(try clear hcz62_1);(try clear hcz62_2);(try clear hcz62_3);(try clear hcz62_4);(try clear hcz64_0);(try clear hcz64_1);(try clear hcz64_2);(try clear hcz64_3);(try clear hcz64_4);(try clear hcz69_0);(try clear hcz69_1);(try clear hcz69_2);(try clear hcz69_3);(try clear hcz69_4);(try clear hcz71_0);(try clear hcz71_1);(try clear hcz71_2);(try clear hcz71_3);(try clear hcz71_4);(try clear hcz73_0);(try clear hcz73_1);(try clear hcz73_2);(try clear hcz73_3);(try clear hcz73_4);(try clear hcz75_0);(try clear hcz75_1);(try clear hcz75_2);(try clear hcz75_3);(try clear hcz75_4);(try clear hcz77_0);(try clear hcz77_1);(try clear hcz77_2);(try clear hcz77_3);(try clear hcz77_4);(try clear hcz79_0);(try clear hcz79_1);(try clear hcz79_2);(try clear hcz79_3);(try clear hcz79_4);(try clear hcz81_0);(try clear hcz81_1);(try clear hcz81_2);(try clear hcz81_3);(try clear hcz81_4);(try clear hcz83_0);(try clear hcz85_0);(try clear hcz87_0);(try clear hcz89_0);(try clear hcz90_0);(try clear hfz37_0);(try clear hfz37_1);(try clear hfz37_2);(try clear hfz37_3);(try clear hfz37_4);(try clear hfz39_0);(try clear hfz39_1);(try clear hfz39_2);(try clear hfz39_3);(try clear hfz39_4);(try clear hfz44_0);(try clear hfz44_1);(try clear hfz44_2);(try clear hfz44_3);(try clear hfz44_4);(try clear hfz46_0);(try clear hfz46_1);(try clear hfz46_2);(try clear hfz46_3);(try clear hfz46_4);(try clear hfz48_0);(try clear hfz48_1);(try clear hfz48_2);(try clear hfz48_3);(try clear hfz48_4);(try clear hfz50_0);(try clear hfz50_1);(try clear hfz50_2);(try clear hfz50_3);(try clear hfz50_4);(try clear hfz52_0);(try clear hfz52_1);(try clear hfz52_2);(try clear hfz52_3);(try clear hfz52_4);(try clear hfz54_0);(try clear hfz54_1);(try clear hfz54_2);(try clear hfz54_3);(try clear hfz54_4);(try clear hfz62_0);(try clear hfz62_1);(try clear hfz62_2);(try clear hfz62_3);(try clear hfz62_4);(try clear hfz64_0);(try clear hfz64_1);(try clear hfz64_2);(try clear hfz64_3);(try clear hfz64_4);(try clear hfz69_0);(try clear hfz69_1);(try clear hfz69_2);(try clear hfz69_3);(try clear hfz69_4);(try clear hfz71_0);(try clear hfz71_1);(try clear hfz71_2);(try clear hfz71_3);(try clear hfz71_4);(try clear hfz73_0);(try clear hfz73_1);(try clear hfz73_2);(try clear hfz73_3);(try clear hfz73_4);(try clear hfz75_0);(try clear hfz75_1);(try clear hfz75_2);(try clear hfz75_3);(try clear hfz75_4);(try clear hfz77_0);(try clear hfz77_1);(try clear hfz77_2);(try clear hfz77_3);(try clear hfz77_4);(try clear hfz79_0);(try clear hfz79_1);(try clear hfz79_2);(try clear hfz79_3);(try clear hfz79_4);(try clear hfz81_0);(try clear hfz81_1);(try clear hfz81_2);(try clear hfz81_3);(try clear hfz81_4);(try clear hfz83_0);(try clear hfz85_0);(try clear hfz87_0);(try clear hfz89_0);(try clear hfz90_0);(try clear hx108_0);(try clear hx114_0);(try clear hx116_0);(try clear hx35_0);(try clear hx60_0);(try clear p1);(try clear p10);(try clear p108);(try clear p11);(try clear p114);(try clear p116);(try clear p2);(try clear p3);(try clear p35);(try clear p6);(try clear p60);(try clear p64);(try clear q1);(try clear q10);(try clear q108);(try clear q11);(try clear q114);(try clear q116);(try clear q3);(try clear q35);(try clear q6);(try clear q60)
            obtain ⟨x10_3,rfl,HA,HK3,HO_5,BK104,HB⟩:=hrel
            cases gk with
            | zero=>exact absurd HA.out (by simp [locklessref03_Check.l2])
            | succ k3=>
             have H:=HA.out
             clear HA
             simp only [locklessref03_Check.l2] at H
             by_cases c92 : x10_3 < (x5_1.length : Int)
             · rw [if_pos c92] at H
               have c92b0 : decide (x10_3 < (x5_1.length : Int)) = true:=decide_eq_true c92
               clear c92
               by_cases c93 : 0 ≤ x10_3
               · rw [if_pos c93] at H
                 have c93b0 : decide (0 ≤ x10_3) = true:=decide_eq_true c93
                 clear c93
                 by_cases c94 : (rd x5_1 x10_3) > 4
                 · rw [if_pos c94] at H
                   have c94b0 : decide (4 < (rd x5_1 x10_3)) = true:=decide_eq_true c94
                   clear c94
                   obtain rfl:=Option.some.inj H
                   obtain ⟨Ao95,co95,eo95⟩:=Kd.R_slice HO_5.out
                   subst eo95
                   have p118 : 0 ≤ (x10_3 : Int):=of_decide_eq_true (by first|(with_reducible assumption)|assumption)
                   have q118 : x10_3 < (x5_1.length : Int):=of_decide_eq_true (by first|(with_reducible assumption)|assumption)
                   obtain ⟨ad118,e118,hx118_0⟩:=Kd.at_int (Kd.R_reads' HO_5.out).2.2 x10_3 p118 q118
                   cases e118
                   replace p118:=eq_true p118
                   replace q118:=eq_true q118
                   go_wp2
                   go_ret
                   exact ⟨by first|rfl|(simp [errW_none,errW_some] <;> rfl)|(simp [*,errW_none,errW_some] <;> rfl),by repeat (first|(with_reducible first|exact HB.out|apply below_alloc|apply pw_below_drewN|apply below_drew1|refine below_set ?_ GE104.out)|exact HB.out)⟩
                 · rw [if_neg c94] at H
                   have c94b0 : decide (4 < (rd x5_1 x10_3)) = false:=decide_eq_false c94
                   clear c94
                   have H':=Aside0.mk H
                   clear H
                   obtain ⟨Ao96,co96,eo96⟩:=Kd.R_slice HO_5.out
                   subst eo96
                   have p118 : 0 ≤ (x10_3 : Int):=of_decide_eq_true (by first|(with_reducible assumption)|assumption)
                   have q118 : x10_3 < (x5_1.length : Int):=of_decide_eq_true (by first|(with_reducible assumption)|assumption)
                   obtain ⟨ad118,e118,hx118_0⟩:=Kd.at_int (Kd.R_reads' HO_5.out).2.2 x10_3 p118 q118
                   cases e118
                   replace p118:=eq_true p118
                   replace q118:=eq_true q118
                   go_wp2
                   go_roundg k3
                   case measure=>have:=HK1.out;have:=HJ83.out;have:=HK3.out;omega
                   case rel=>exact ⟨(wrap64 (x10_3 + 1)),(by first|rfl|(simp;done)|(simp [*];done)),H',⟨by have:=HK1.out;have:=HJ83.out;have:=HK3.out;omega⟩,⟨by (with_reducible repeat (first|apply Kd.R_alloc|apply Kd.R_drewN|apply Kd.R_drew));exact HO_5.out⟩,⟨by (with_reducible repeat (first|apply kN|apply kD|apply kA));exact BK104.out⟩,⟨by repeat (first|(with_reducible first|exact HB.out|apply below_alloc|apply pw_below_drewN|apply below_drew1|refine below_set ?_ GE104.out)|exact HB.out)⟩⟩
               · rw [if_neg c93] at H
                 exact absurd H (by simp)
             · rw [if_neg c92] at H
               have c92b0 : decide (x10_3 < (x5_1.length : Int)) = false:=decide_eq_false c92
               clear c92
               by_cases c97 : x6_1 = true
               · subst c97
                 have H1 : (some 0) = some r:=by rw [if_pos rfl] at H;exact H
                 clear H
                 have H:=H1
                 clear H1
                 obtain rfl:=Option.some.inj H
                 obtain ⟨Ao98,co98,eo98⟩:=Kd.R_slice HO_5.out
                 subst eo98
                 go_wp2
                 go_ret
                 exact ⟨by first|rfl|(simp [errW_none,errW_some] <;> rfl)|(simp [*,errW_none,errW_some] <;> rfl),by repeat (first|(with_reducible first|exact HB.out|apply below_alloc|apply pw_below_drewN|apply below_drew1|refine below_set ?_ GE104.out)|exact HB.out)⟩
               · replace c97:=Bool.eq_false_iff.mpr c97
                 subst c97
                 have H1 : (some 1) = some r:=by rw [if_neg (show ¬ (false = true) by decide)] at H;exact H
                 clear H
                 have H:=H1
                 clear H1
                 obtain rfl:=Option.some.inj H
                 obtain ⟨Ao99,co99,eo99⟩:=Kd.R_slice HO_5.out
                 subst eo99
                 go_wp2
                 go_ret
                 exact ⟨by first|rfl|(simp [errW_none,errW_some] <;> rfl)|(simp [*,errW_none,errW_some] <;> rfl),by repeat (first|(with_reducible first|exact HB.out|apply below_alloc|apply pw_below_drewN|apply below_drew1|refine below_set ?_ GE104.out)|exact HB.out)⟩
 · rw [if_neg c2] at H
   exact absurd H (by simp)
end Go.Proofs.Ytgfbgbclpeihdaa.XRc
