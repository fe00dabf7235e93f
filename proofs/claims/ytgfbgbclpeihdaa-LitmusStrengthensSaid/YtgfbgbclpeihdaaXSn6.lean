/- What the Go functions of this text compute, as plain Lean functions, and that the machine does just that: written by a program of this session; no condition. -/
import Derived.Test.YtgfbgbclpeihdaaXSn0
import Derived.Test.YtgfbgbclpeihdaaXSn5
namespace Go.Proofs.Ytgfbgbclpeihdaa.XSn
open Go.RowKit Go.Proofs.YtgfbgbclpeihdaaW.PrintWords Go.Proofs.YtgfbgbclpeihdaaW.PrintLast Go.Proofs.YtgfbgbclpeihdaaW.PrintMore
attribute [local go_sem] max2_int min2_int max_two min_two max_three min_three max_four min_four   -- for this text's walks alone
set_option linter.unusedVariables false
set_option linter.unusedSimpArgs false
mutual
def locklessref03_Fenced.l0 : Nat → Int → List (List (S44)) → List (List (S44)) → Option ((List (List (S44))) × Int)
 | 0,_,_,_=>none
 | k + 1,x7,x254000,x255000=>if x7 < (x254000.length : Int) then (locklessref03_Fenced.l1 k x7 ([] : List (S44)) 0 x254000 x255000) else (some (x255000,0))
def locklessref03_Fenced.l1 : Nat → Int → List (S44) → Int → List (List (S44)) → List (List (S44)) → Option ((List (List (S44))) × Int)
 | 0,_,_,_,_,_=>none
 | k + 1,x7,x8,x9,x254000,x255000=>if 0 ≤ x7 then (if x7 < (x254000.length : Int) then (if x9 < ((rd_L2 x254000 x7).length : Int) then (if x9 > 0 then (if x8.length < 3518437208883 then ((some (x8 ++ [(⟨5,0,0,0,4⟩ : S44)] : List (S44))).bind fun y256=>(if 0 ≤ x9 then (if y256.length < 3518437208883 then (locklessref03_Fenced.l1 k x7 (y256 ++ [(⟨(rd_T44 (rd_L2 x254000 x7) x9).f0,(rd_T44 (rd_L2 x254000 x7) x9).f1,(rd_T44 (rd_L2 x254000 x7) x9).f2,(rd_T44 (rd_L2 x254000 x7) x9).f3,(rd_T44 (rd_L2 x254000 x7) x9).f4⟩ : S44)]) (wrap64 (x9 + 1)) x254000 x255000) else (none)) else (none))) else (none)) else (if 0 ≤ x9 then (if x8.length < 3518437208883 then (locklessref03_Fenced.l1 k x7 (x8 ++ [(⟨(rd_T44 (rd_L2 x254000 x7) x9).f0,(rd_T44 (rd_L2 x254000 x7) x9).f1,(rd_T44 (rd_L2 x254000 x7) x9).f2,(rd_T44 (rd_L2 x254000 x7) x9).f3,(rd_T44 (rd_L2 x254000 x7) x9).f4⟩ : S44)]) (wrap64 (x9 + 1)) x254000 x255000) else (none)) else (none))) else (if x255000.length < 5864062014805 then (locklessref03_Fenced.l0 k (wrap64 (x7 + 1)) x254000 (x255000 ++ [x8])) else (none))) else (none)) else (none)
end
def locklessref03_Fenced.f (k : Nat) (l0_0 : List (List (S44))) : Option ((List (List (S44))) × Int):=(locklessref03_Check.f l0_0).bind fun t249=>(if t249 = 0 then ((locklessref03_accesses.f k l0_0 0).bind fun t250=>(locklessref03_Fenced.l0 k 0 t250 ([] : List (List (S44))))) else (some (([] : List (List (S44))),t249)))
set_option maxHeartbeats 8000000 in
set_option maxRecDepth 100000 in
theorem locklessref03_Fenced.calls (k : Nat) (A0_0 : Option Addr) (c0_0 : Nat) (l0_0 : List (List (S44))) (r1 : List (List (S44))) (r2 : Int) (w : World) (hr0_0 : Kd.C (Kd.slice 44 k44) w A0_0 l0_0.length l0_0) (hc0_0 : l0_0.length ≤ c0_0) (h : locklessref03_Fenced.f k l0_0 = some (r1,r2)) :
 Calls Try.prog 28 #[.agg #[.slice A0_0 l0_0.length c0_0]] w fun e w'=>∃ v0_ : Value,e = .returned (.tuple #[.agg #[v0_],.int .i64 r2]) ∧ Kd.S (Kd.slice 44 k44) 42 w' w.heap.size (fun _=>True) v0_ r1 ∧ Below w.heap.size w w':=by
 have hu24:=Try.underlying24
 have hu44:=Try.underlying44
 have HR0_0:=Aside0.mk hr0_0
 have HC0_0:=Aside0.mk hc0_0
 clear hr0_0 hc0_0
 have HB:=Aside0.mk (Below.refl w.heap.size w)
 have H : ((locklessref03_Check.f l0_0).bind fun t249=>(if t249 = 0 then ((locklessref03_accesses.f k l0_0 0).bind fun t250=>(locklessref03_Fenced.l0 k 0 t250 ([] : List (List (S44))))) else (some (([] : List (List (S44))),t249)))) = some (r1,r2):=h
 clear h
 replace H:=Option.bind_eq_some_iff.mp H
 obtain ⟨t249,A20,H⟩:=H
 replace H : (if t249 = 0 then ((locklessref03_accesses.f k l0_0 0).bind fun t250=>(locklessref03_Fenced.l0 k 0 t250 ([] : List (List (S44))))) else (some (([] : List (List (S44))),t249))) = some (r1,r2):=H
 have A2:=Aside0.mk A20
 clear A20
 by_cases c3 : t249 = 0
 · rw [if_pos c3] at H
   have c3b0 : (t249 == 0) = true:=beq_iff_eq.mpr c3
   have c3b1 : (t249 != 0) = false:=bne_eq_false_iff_eq.mpr c3
   clear c3
   replace H:=Option.bind_eq_some_iff.mp H
   obtain ⟨t250,A40,H⟩:=H
   replace H : (locklessref03_Fenced.l0 k 0 t250 ([] : List (List (S44)))) = some (r1,r2):=H
   have A4:=Aside0.mk A40
   clear A40
   have H':=Aside0.mk H
   clear H
   go_enter Try.func28,Try.ntmps28
   go_wp2_with (first|((with_reducible refine gate_dst (N:=1) rfl ?_);refine box_event ?hg (N:=1) ?hd (cs:=#[.slice A0_0 l0_0.length c0_0]) (t:=24) ?hr ?_;(case hd=>rfl);(case hg=>rfl);(case hr=>first|(go_simp;done)|(go_simp;rfl));intro gb247 hg w5 hbox hb;have zT:=two_ hb (by repeat (first|(with_reducible first|exact HB.out|apply below_alloc|apply pw_below_drewN|apply below_drew1)|exact HB.out));have n0_:=Aside0.mk zT.1;have n1_:=Aside0.mk (hbox);have n2_:=Aside0.mk ((by rw [hg];exact zT.2 : w.heap.size ≤ gb247));have n3_:=n2_;clear zT;clear HB;have HB:=n0_;have BK247:=n1_;have GW247:=n2_;have GE247:=n3_;clear n0_ n1_ n2_ n3_;clear hb hbox hg)|((with_reducible refine gate_dst (N:=2) rfl ?_);refine box_event ?hg (N:=2) ?hd (cs:=#[.slice none 0 0]) (t:=24) ?hr ?_;(case hd=>rfl);(case hg=>rfl);(case hr=>first|(go_simp;done)|(go_simp;rfl));intro gb248 hg w6 hbox hb;have zgb247:=bk_ hb (zb BK247.out);have n0_:=Aside0.mk zgb247.1;have zT:=two_ hb (by repeat (first|(with_reducible first|exact HB.out|apply below_alloc|apply pw_below_drewN|apply below_drew1|refine below_set ?_ GE247.out)|exact HB.out));have n1_:=Aside0.mk zT.1;have n2_:=Aside0.mk (hbox);have n3_:=Aside0.mk ((by rw [hg];exact zT.2 : w.heap.size ≤ gb248));have n4_:=n3_;have n5_:=Aside0.mk ((by rw [hg];exact zgb247.2 : gb247 ≠ gb248));have n6_:=Aside0.mk n5_.out.symm;clear zgb247 zT;clear BK247;clear HB;have BK247:=n0_;have HB:=n1_;have BK248:=n2_;have GW248:=n3_;have GE248:=n4_;have NB247_248:=n5_;have NB248_247:=n6_;clear n0_ n1_ n2_ n3_ n4_ n5_ n6_;clear hb hbox hg;have hnb7:=NB247_248.out;have hnc7:=NB248_247.out;have hcz8_0 : w6.cell? ⟨gb247,0,none⟩ = some (.slice A0_0 l0_0.length c0_0):=(blk_cell BK247.out 0).trans rfl;have hfz8_0:=blk_frozen BK247.out 0)|((with_reducible refine gate_callee (f:=15) rfl ?_);refine goesL_ (some 11) rfl rfl Try.func15 (by kernel_rfl) rfl #[.agg #[.slice A0_0 l0_0.length c0_0]] rfl (by (try simp only [List.map_toArray,List.map_cons,List.map_nil]);first|done|rfl|(simp only [List.length_drop,List.length_take];rfl)) ?_;(with_reducible refine (locklessref03_Check.calls _ _ l0_0 t249 _ ?side1 ?side2 A2.out).mono ?_);(case side1=>repeat (first|exact (Kd.C_below HR0_0.out HB.out)|(with_reducible refine Kd.C_alloc ?_ _)|(with_reducible refine Kd.C_drewN ?_ _)|(with_reducible refine Kd.C_drew ?_)));(case side2=>exact HC0_0.out);rintro e w9 ⟨rfl,hb⟩;refine ⟨_,rfl,?_⟩;have n0_:=Aside0.mk (blk_below (zb BK247.out) hb);have n1_:=Aside0.mk (blk_below (zb BK248.out) hb);have n2_:=Aside0.mk (below_step (by repeat (first|(with_reducible first|exact HB.out|apply below_alloc|apply pw_below_drewN|apply below_drew1|refine below_set ?_ GE247.out|refine below_set ?_ GE248.out)|exact HB.out)) hb);clear BK247;clear BK248;clear HB;have BK247:=n0_;have BK248:=n1_;have HB:=n2_;clear n0_ n1_ n2_;(try clear hb);(try clear hb2);(try clear hk);(try clear hi);have hcz10_0 : w9.cell? ⟨gb247,0,none⟩ = some (.slice A0_0 l0_0.length c0_0):=(blk_cell BK247.out 0).trans rfl;have hfz10_0:=blk_frozen BK247.out 0)|((with_reducible refine gate_callee (f:=44) rfl ?_);refine goesL_ (some 17) rfl rfl Try.func44 (by kernel_rfl) rfl #[.agg #[.slice A0_0 l0_0.length c0_0],.int .i64 0] rfl (by (try simp only [List.map_toArray,List.map_cons,List.map_nil]);first|done|rfl|(simp only [List.length_drop,List.length_take];rfl)) ?_;(with_reducible refine (locklessref03_accesses.calls k _ _ l0_0 0 t250 _ ?side1 ?side2 A4.out).mono ?_);(case side1=>repeat (first|exact (Kd.C_below HR0_0.out HB.out)|(with_reducible refine Kd.C_alloc ?_ _)|(with_reducible refine Kd.C_drewN ?_ _)|(with_reducible refine Kd.C_drew ?_)));(case side2=>exact HC0_0.out);rintro e w11 ⟨v251,rfl,ho0,hb⟩;refine ⟨_,rfl,?_⟩;have n0_:=Aside0.mk (Kd.S_lower ho0 (below_size (by repeat (first|(with_reducible first|exact HB.out|apply below_alloc|apply pw_below_drewN|apply below_drew1|refine below_set ?_ GE247.out|refine below_set ?_ GE248.out)|exact HB.out))));have n1_:=Aside0.mk (blk_below (zb BK247.out) hb);have n2_:=Aside0.mk (blk_below (zb BK248.out) hb);have n3_:=Aside0.mk (below_step (by repeat (first|(with_reducible first|exact HB.out|apply below_alloc|apply pw_below_drewN|apply below_drew1|refine below_set ?_ GE247.out|refine below_set ?_ GE248.out)|exact HB.out)) hb);clear BK247;clear BK248;clear HB;have HO252:=n0_;have BK247:=n1_;have BK248:=n2_;have HB:=n3_;clear n0_ n1_ n2_ n3_;(try clear hb);(try clear hb2);(try clear hk);(try clear hi);(try clear ho0))|((with_reducible refine gate_dst (N:=5) rfl ?_);refine box_event ?hg (N:=5) ?hd (cs:=#[.slice none 0 0]) (t:=24) ?hr ?_;(case hd=>rfl);(case hg=>rfl);(case hr=>first|(go_simp;done)|(go_simp;rfl));intro gb253 hg w12 hbox hb;have n0_:=Aside0.mk (Kd.S_below (by (with_reducible repeat (first|apply Kd.S_alloc|apply Kd.S_drewN|apply Kd.S_drew));exact HO252.out) hb);have zgb247:=bk_ hb (zb BK247.out);have n1_:=Aside0.mk zgb247.1;have zgb248:=bk_ hb (zb BK248.out);have n2_:=Aside0.mk zgb248.1;have zT:=two_ hb (by repeat (first|(with_reducible first|exact HB.out|apply below_alloc|apply pw_below_drewN|apply below_drew1|refine below_set ?_ GE247.out|refine below_set ?_ GE248.out)|exact HB.out));have n3_:=Aside0.mk zT.1;have n4_:=Aside0.mk (hbox);have n5_:=Aside0.mk ((by rw [hg];exact zT.2 : w.heap.size ≤ gb253));have n6_:=n5_;have n7_:=Aside0.mk ((by rw [hg];exact zgb247.2 : gb247 ≠ gb253));have n8_:=Aside0.mk n7_.out.symm;have n9_:=Aside0.mk ((by rw [hg];exact zgb248.2 : gb248 ≠ gb253));have n10_:=Aside0.mk n9_.out.symm;clear zgb247 zgb248 zT;clear HO252;clear BK247;clear BK248;clear HB;have HO252:=n0_;have BK247:=n1_;have BK248:=n2_;have HB:=n3_;have BK253:=n4_;have GW253:=n5_;have GE253:=n6_;have NB247_253:=n7_;have NB253_247:=n8_;have NB248_253:=n9_;have NB253_248:=n10_;clear n0_ n1_ n2_ n3_ n4_ n5_ n6_ n7_ n8_ n9_ n10_;clear hb hbox hg;obtain ⟨Ao13,co13,eo13⟩:=Kd.S_slice HO252.out;subst eo13;have hnb14:=NB253_247.out;have hnc14:=NB247_253.out;have hnb15:=NB253_248.out;have hnc15:=NB248_253.out;have hcz16_0 : w12.cell? ⟨gb253,0,none⟩ = some (.slice none 0 0):=(blk_cell BK253.out 0).trans rfl;have hfz16_0:=blk_frozen BK253.out 0)|((with_reducible refine gate_dst (N:=6) rfl ?_);refine box_event ?hg (N:=6) ?hd (cs:=#[.slice none 0 0]) (t:=24) ?hr ?_;(case hd=>rfl);(case hg=>rfl);(case hr=>first|(go_simp;done)|(go_simp;rfl));intro gb254 hg w17 hbox hb;have n0_:=Aside0.mk (Kd.S_below (by (with_reducible repeat (first|apply Kd.S_alloc|apply Kd.S_drewN|apply Kd.S_drew));exact (Kd.S_mono (Kd.S_far (p:=⟨gb253,0,none⟩) (Kd.S_types HO252.out BK253.out (by decide)) (fun _ hk=>hk.2) (.slice Ao13 t250.length co13)) (fun _ h_=>h_.1))) hb);have n1_:=Aside0.mk (blk_below (g:=gb247) (o:=.cells #[.slice A0_0 l0_0.length c0_0] 24 (0,0)) (by (with_reducible repeat (first|apply kN|apply kD|apply kA));refine blk_far ?_ NB247_253.out _;(with_reducible repeat (first|apply kN|apply kD|apply kA));exact BK247.out) hb);have n2_:=Aside0.mk (blk_below (g:=gb248) (o:=.cells #[.slice none 0 0] 24 (0,0)) (by (with_reducible repeat (first|apply kN|apply kD|apply kA));refine blk_far ?_ NB248_253.out _;(with_reducible repeat (first|apply kN|apply kD|apply kA));exact BK248.out) hb);have n3_:=Aside0.mk (blk_below (g:=gb253) (o:=.cells #[.slice Ao13 t250.length co13] 24 (0,0)) (by (with_reducible repeat (first|apply kN|apply kD|apply kA));refine blk_put (cs:=#[.slice none 0 0]) ?_ 0 _ rfl;(with_reducible repeat (first|apply kN|apply kD|apply kA));exact BK253.out) hb);have zT:=two_ hb (by repeat (first|(with_reducible first|exact HB.out|apply below_alloc|apply pw_below_drewN|apply below_drew1|refine below_set ?_ GE247.out|refine below_set ?_ GE248.out|refine below_set ?_ GE253.out)|exact HB.out));have n4_:=Aside0.mk zT.1;have n5_:=Aside0.mk (hbox);have n6_:=Aside0.mk ((by rw [hg];exact zT.2 : w.heap.size ≤ gb254));have n7_:=n6_;have n8_:=Aside0.mk ((by rw [hg];exact Nat.ne_of_lt (blk_lt (g:=gb247) (o:=.cells #[.slice A0_0 l0_0.length c0_0] 24 (0,0)) (by (with_reducible repeat (first|apply kN|apply kD|apply kA));refine blk_far ?_ NB247_253.out _;(with_reducible repeat (first|apply kN|apply kD|apply kA));exact BK247.out)) : gb247 ≠ gb254));have n9_:=Aside0.mk ((by rw [hg];exact Nat.ne_of_gt (blk_lt (g:=gb247) (o:=.cells #[.slice A0_0 l0_0.length c0_0] 24 (0,0)) (by (with_reducible repeat (first|apply kN|apply kD|apply kA));refine blk_far ?_ NB247_253.out _;(with_reducible repeat (first|apply kN|apply kD|apply kA));exact BK247.out)) : gb254 ≠ gb247));have n10_:=Aside0.mk ((by rw [hg];exact Nat.ne_of_lt (blk_lt (g:=gb248) (o:=.cells #[.slice none 0 0] 24 (0,0)) (by (with_reducible repeat (first|apply kN|apply kD|apply kA));refine blk_far ?_ NB248_253.out _;(with_reducible repeat (first|apply kN|apply kD|apply kA));exact BK248.out)) : gb248 ≠ gb254));have n11_:=Aside0.mk ((by rw [hg];exact Nat.ne_of_gt (blk_lt (g:=gb248) (o:=.cells #[.slice none 0 0] 24 (0,0)) (by (with_reducible repeat (first|apply kN|apply kD|apply kA));refine blk_far ?_ NB248_253.out _;(with_reducible repeat (first|apply kN|apply kD|apply kA));exact BK248.out)) : gb254 ≠ gb248));have n12_:=Aside0.mk ((by rw [hg];exact Nat.ne_of_lt (blk_lt (g:=gb253) (o:=.cells #[.slice Ao13 t250.length co13] 24 (0,0)) (by (with_reducible repeat (first|apply kN|apply kD|apply kA));refine blk_put (cs:=#[.slice none 0 0]) ?_ 0 _ rfl;(with_reducible repeat (first|apply kN|apply kD|apply kA));exact BK253.out)) : gb253 ≠ gb254));have n13_:=Aside0.mk ((by rw [hg];exact Nat.ne_of_gt (blk_lt (g:=gb253) (o:=.cells #[.slice Ao13 t250.length co13] 24 (0,0)) (by (with_reducible repeat (first|apply kN|apply kD|apply kA));refine blk_put (cs:=#[.slice none 0 0]) ?_ 0 _ rfl;(with_reducible repeat (first|apply kN|apply kD|apply kA));exact BK253.out)) : gb254 ≠ gb253));clear zT;clear HO252;clear BK247;clear BK248;clear BK253;clear HB;have HO252:=n0_;have BK247:=n1_;have BK248:=n2_;have BK253:=n3_;have HB:=n4_;have BK254:=n5_;have GW254:=n6_;have GE254:=n7_;have NB247_254:=n8_;have NB254_247:=n9_;have NB248_254:=n10_;have NB254_248:=n11_;have NB253_254:=n12_;have NB254_253:=n13_;clear n0_ n1_ n2_ n3_ n4_ n5_ n6_ n7_ n8_ n9_ n10_ n11_ n12_ n13_;clear hb hbox hg))
   go_loopg [7] k (fun kq v7 w'=>∃ (x7_1 : Int) (x255000_1 : List (List (S44))) (u255000 : Value),v7 = .int .i64 x7_1 ∧ Aside0 (locklessref03_Fenced.l0 kq x7_1 t250 x255000_1 = some (r1,r2)) ∧ Aside0 (kq ≤ k) ∧ Aside0 (Kd.S (Kd.slice 44 k44) 42 w' w.heap.size (fun k_=>some k_ ≠ (u255000 : Value).ownBlock) (.slice Ao13 t250.length co13) t250) ∧ Aside0 (Kd.S (Kd.slice 44 k44) 42 w' w.heap.size (fun k_=>some k_ ≠ ((.slice Ao13 t250.length co13) : Value).ownBlock) u255000 x255000_1) ∧ Aside0 (w'.heap[gb247]? = some (.cells #[(.slice A0_0 l0_0.length c0_0)] 24 (0,0))) ∧ Aside0 (w'.heap[gb248]? = some (.cells #[(.slice none 0 0)] 24 (0,0))) ∧ Aside0 (w'.heap[gb253]? = some (.cells #[(.slice Ao13 t250.length co13)] 24 (0,0))) ∧ Aside0 (w'.heap[gb254]? = some (.cells #[u255000] 24 (0,0))) ∧ Aside0 (Below w.heap.size w w'))
   case atStart=>exact ⟨(0),(([] : List (List (S44)))),(.slice none 0 0),(by first|rfl|(simp;done)|(simp [*];done)),H',⟨Nat.le_refl _⟩,⟨by (with_reducible repeat (first|apply Kd.S_alloc|apply Kd.S_drewN|apply Kd.S_drew));exact Kd.S_mono HO252.out (fun _ hk=>(by simp [Value.ownBlock]))⟩,⟨by first|exact Kd.S_nil _ _ _ _ _|exact Kd.N_nil _ _ _ _ _|exact Kd.V_nil _ _ _ _ _|exact Kd.Q_nil _ _ _ _ _|exact Kd.R_nil _ _ _ _ _⟩,⟨by (with_reducible repeat (first|apply kN|apply kD|apply kA));exact BK247.out⟩,⟨by (with_reducible repeat (first|apply kN|apply kD|apply kA));exact BK248.out⟩,⟨by (with_reducible repeat (first|apply kN|apply kD|apply kA));exact BK253.out⟩,⟨by (with_reducible repeat (first|apply kN|apply kD|apply kA));exact BK254.out⟩,⟨by repeat (first|(with_reducible first|exact HB.out|apply below_alloc|apply pw_below_drewN|apply below_drew1|refine below_set ?_ GE247.out|refine below_set ?_ GE248.out|refine below_set ?_ GE253.out|refine below_set ?_ GE254.out)|exact HB.out)⟩⟩
   case round=>
    clear H'
    (try clear c1);(try clear c2);(try clear p2);(try clear c3);(try clear c3b0);(try clear c3b1);(try clear c4);(try clear c7);(try clear c14);(try clear c15);(try clear hcz10_0);(try clear hcz16_0);(try clear hcz8_0);(try clear hfz10_0);(try clear hfz16_0);(try clear hfz8_0)
    obtain ⟨x7_1,x255000_1,u255000,rfl,HA,HK1,HO_254000,HO_255000,BK247,BK248,BK253,BK254,HB⟩:=hrel
    cases gk with
    | zero=>exact absurd HA.out (by simp [locklessref03_Fenced.l0])
    | succ k1=>
     have H:=HA.out
     clear HA
     simp only [locklessref03_Fenced.l0] at H
     by_cases c18 : x7_1 < (t250.length : Int)
     · rw [if_pos c18] at H
       have c18b0 : decide (x7_1 < (t250.length : Int)) = true:=decide_eq_true c18
       clear c18
       have H':=Aside0.mk H
       clear H
       have hnb19:=NB253_247.out
       have hnc19:=NB247_253.out
       have hnb20:=NB253_248.out
       have hnc20:=NB248_253.out
       have hnb21:=NB253_254.out
       have hnc21:=NB254_253.out
       have hcz22_0 : wr.cell? ⟨gb253,0,none⟩ = some (.slice Ao13 t250.length co13):=(blk_cell BK253.out 0).trans rfl
       have hfz22_0:=blk_frozen BK253.out 0
       go_wp2
       go_loopg [8,9] k1 (fun kq v8 v9 w'=>∃ (x8_2 : List (S44)) (x9_2 : Int),v9 = .int .i64 x9_2 ∧ Aside0 (locklessref03_Fenced.l1 kq x7_1 x8_2 x9_2 t250 x255000_1 = some (r1,r2)) ∧ Aside0 (kq ≤ k1) ∧ Aside0 (Kd.R k44 44 w' w.heap.size (fun _=>True) v8 x8_2) ∧ Aside0 (Kd.S (Kd.slice 44 k44) 42 w' w.heap.size (fun k_=>some k_ ≠ (v8 : Value).ownBlock ∧ some k_ ≠ (u255000 : Value).ownBlock) (.slice Ao13 t250.length co13) t250) ∧ Aside0 (Kd.S (Kd.slice 44 k44) 42 w' w.heap.size (fun k_=>some k_ ≠ (v8 : Value).ownBlock ∧ some k_ ≠ ((.slice Ao13 t250.length co13) : Value).ownBlock) u255000 x255000_1) ∧ Aside0 (w'.heap[gb247]? = some (.cells #[(.slice A0_0 l0_0.length c0_0)] 24 (0,0))) ∧ Aside0 (w'.heap[gb248]? = some (.cells #[(.slice none 0 0)] 24 (0,0))) ∧ Aside0 (w'.heap[gb253]? = some (.cells #[(.slice Ao13 t250.length co13)] 24 (0,0))) ∧ Aside0 (w'.heap[gb254]? = some (.cells #[u255000] 24 (0,0))) ∧ Aside0 (Below w.heap.size w w'))
       case atStart=>exact ⟨(([] : List (S44))),(0),(by first|rfl|(simp;done)|(simp [*];done)),H',⟨Nat.le_refl _⟩,⟨by first|exact Kd.R_nil _ _ _ _ _|exact Kd.N_nil _ _ _ _ _|exact Kd.V_nil _ _ _ _ _|exact Kd.Q_nil _ _ _ _ _|exact Kd.S_nil _ _ _ _ _⟩,⟨by (with_reducible repeat (first|apply Kd.S_alloc|apply Kd.S_drewN|apply Kd.S_drew));exact Kd.S_mono HO_254000.out (fun _ hk=>⟨(by simp [Value.ownBlock]),hk⟩)⟩,⟨by (with_reducible repeat (first|apply Kd.S_alloc|apply Kd.S_drewN|apply Kd.S_drew));exact Kd.S_mono HO_255000.out (fun _ hk=>⟨(by simp [Value.ownBlock]),hk⟩)⟩,⟨by (with_reducible repeat (first|apply kN|apply kD|apply kA));exact BK247.out⟩,⟨by (with_reducible repeat (first|apply kN|apply kD|apply kA));exact BK248.out⟩,⟨by (with_reducible repeat (first|apply kN|apply kD|apply kA));exact BK253.out⟩,⟨by (with_reducible repeat (first|apply kN|apply kD|apply kA));exact BK254.out⟩,⟨by repeat (first|(with_reducible first|exact HB.out|apply below_alloc|apply pw_below_drewN|apply below_drew1|refine below_set ?_ GE247.out|refine below_set ?_ GE248.out|refine below_set ?_ GE253.out|refine below_set ?_ GE254.out)|exact HB.out)⟩⟩
       case round=>
        clear H'
        (try clear c1);(try clear c2);(try clear p2);(try clear c3);(try clear c3b0);(try clear c3b1);(try clear c4);(try clear c7);(try clear c14);(try clear c15);(try clear c18);(try clear c18b0);(try clear c19);(try clear c20);(try clear c21);(try clear hcz10_0);(try clear hcz16_0);(try clear hcz22_0);(try clear hcz8_0);(try clear hfz10_0);(try clear hfz16_0);(try clear hfz22_0);(try clear hfz8_0);(try clear p2)
        obtain ⟨x8_2,x9_2,rfl,HA,HK2,HO_8,HO_254000,HO_255000,BK247,BK248,BK253,BK254,HB⟩:=hrel
        cases gk with
        | zero=>exact absurd HA.out (by simp [locklessref03_Fenced.l1])
        | succ k2=>
         have H:=HA.out
         clear HA
         simp only [locklessref03_Fenced.l1] at H
         by_cases c23 : 0 ≤ x7_1
         · rw [if_pos c23] at H
           have c23b0 : decide (0 ≤ x7_1) = true:=decide_eq_true c23
           clear c23
           by_cases c24 : x7_1 < (t250.length : Int)
           · rw [if_pos c24] at H
             have c24b0 : decide (x7_1 < (t250.length : Int)) = true:=decide_eq_true c24
             clear c24
             by_cases c25 : x9_2 < ((rd_L2 t250 x7_1).length : Int)
             · rw [if_pos c25] at H
               have c25b0 : decide (x9_2 < ((rd_L2 t250 x7_1).length : Int)) = true:=decide_eq_true c25
               clear c25
               by_cases c26 : x9_2 > 0
               · rw [if_pos c26] at H
                 have c26b0 : decide (0 < x9_2) = true:=decide_eq_true c26
                 clear c26
                 by_cases c27 : x8_2.length < 3518437208883
                 · rw [if_pos c27] at H
                   have LMc27:=Aside0.mk c27
                   clear c27
                   obtain ⟨y256,hy256⟩ : ∃ y_ : List (S44),y_ = (x8_2 ++ [(⟨5,0,0,0,4⟩ : S44)]):=⟨_,rfl⟩
                   replace H : (if 0 ≤ x9_2 then (if y256.length < 3518437208883 then (locklessref03_Fenced.l1 k2 x7_1 (y256 ++ [(⟨(rd_T44 (rd_L2 t250 x7_1) x9_2).f0,(rd_T44 (rd_L2 t250 x7_1) x9_2).f1,(rd_T44 (rd_L2 t250 x7_1) x9_2).f2,(rd_T44 (rd_L2 t250 x7_1) x9_2).f3,(rd_T44 (rd_L2 t250 x7_1) x9_2).f4⟩ : S44)]) (wrap64 (x9_2 + 1)) t250 x255000_1) else (none)) else (none)) = some (r1,r2):=by first|(rw [hy256];with_reducible exact H)|(have H2_:=(Option.bind_some _ _).symm.trans H;rw [hy256];with_reducible exact H2_)|(have H2_:=(Option.bind_some _ _).symm.trans H;with_reducible exact H2_)|with_reducible exact H|(rw [hy256];exact H)|exact H
                   have Ny256:=Aside0.mk hy256
                   clear hy256
                   by_cases c28 : 0 ≤ x9_2
                   · rw [if_pos c28] at H
                     have c28b0 : decide (0 ≤ x9_2) = true:=decide_eq_true c28
                     clear c28
                     by_cases c29 : y256.length < 3518437208883
                     · rw [if_pos c29] at H
                       have LMc29:=Aside0.mk c29
                       clear c29
                       obtain ⟨y261,hy261⟩ : ∃ y_ : List (S44),y_ = (y256 ++ [(⟨(rd_T44 (rd_L2 t250 x7_1) x9_2).f0,(rd_T44 (rd_L2 t250 x7_1) x9_2).f1,(rd_T44 (rd_L2 t250 x7_1) x9_2).f2,(rd_T44 (rd_L2 t250 x7_1) x9_2).f3,(rd_T44 (rd_L2 t250 x7_1) x9_2).f4⟩ : S44)]):=⟨_,rfl⟩
                       replace H : (locklessref03_Fenced.l1 k2 x7_1 y261 (wrap64 (x9_2 + 1)) t250 x255000_1) = some (r1,r2):=by first|(rw [hy261];with_reducible exact H)|(have H2_:=(Option.bind_some _ _).symm.trans H;rw [hy261];with_reducible exact H2_)|(have H2_:=(Option.bind_some _ _).symm.trans H;with_reducible exact H2_)|with_reducible exact H|(rw [hy261];exact H)|exact H
                       have Ny261:=Aside0.mk hy261
                       clear hy261
                       have H':=Aside0.mk H
                       clear H
                       have hnb30:=NB253_247.out
                       have hnc30:=NB247_253.out
                       have hnb31:=NB253_248.out
                       have hnc31:=NB248_253.out
                       have hnb32:=NB253_254.out
                       have hnc32:=NB254_253.out
                       have hcz33_0 : wr.cell? ⟨gb253,0,none⟩ = some (.slice Ao13 t250.length co13):=(blk_cell BK253.out 0).trans rfl
                       have hfz33_0:=blk_frozen BK253.out 0
                       have p255 : 0 ≤ (x7_1 : Int):=of_decide_eq_true (by first|(with_reducible assumption)|assumption)
                       have q255 : x7_1 < (t250.length : Int):=of_decide_eq_true (by first|(with_reducible assumption)|assumption)
                       obtain ⟨ad255,A255_0,c255_0,e255,hx255_0,hl255_0,hi255_0⟩:=at_L2 (Kd.S_reads' HO_254000.out).2.2 x7_1 p255 q255
                       cases e255
                       obtain ⟨ce255,hce255,hMe255,hcc255⟩:=Kd.S_get HO_254000.out [] x7_1 p255 (by first|exact q255|exact of_decide_eq_true (by first|(with_reducible assumption)|assumption)|(have e_:=(Kd.S_reads' HO_254000.out).1;omega))
                       obtain ⟨ve255_0,rfl,ge255_0⟩:=hMe255
                       have hv255_0:=hcc255 0 _ rfl
                       rw [Nat.add_zero,show ((Kd.slice 44 k44)).sz = 1 from rfl,Nat.mul_one] at hv255_0
                       replace hv255_0:=Option.some.inj (hv255_0.symm.trans hx255_0)
                       rw [hv255_0] at ge255_0
                       have HL255_0:=Aside0.mk (show Kd.R k44 44 _ _ _ _ (rd_L2 t250 x7_1) from ge255_0)
                       clear hv255_0 ge255_0
                       clear hcc255 hce255
                       have HR255_0:=Aside0.mk hi255_0
                       have HC255_0:=Aside0.mk hl255_0
                       clear hi255_0 hl255_0
                       replace p255:=eq_true p255
                       replace q255:=eq_true q255
                       go_wp2_with (first|((with_reducible refine gate_builtin (b:=.append) (xs:=#[.tmp 37,.tmp 39]) rfl ?_);at_builtin;refine Kd.R_append k44 (w0:=w) w.heap.size rfl (.tmp 37) (.tmp 39) 42 44 (.agg #[(.int .i64 0),(.int .i64 0),(.int .i64 0),(.int .i64 0),(.int .i64 0)]) 40 rfl Try.underlying42 info44 rfl (by decide) (by omega) u8 x8_2 (⟨5,0,0,0,4⟩ : S44) [.int .i64 5,.int .i64 0,.int .i64 0,.int .i64 0,.int .i64 4] (fun _=>True) (fun _=>False) rfl rfl ?aP (fun _ hk=>hk.elim) ?aF ?aO ?aB ?aS ?aL ?_;(case aP=>exact k44_mkM _ _ _ (⟨5,0,0,0,4⟩ : S44));(case aB=>exact (by repeat (first|(with_reducible first|exact HB.out|apply below_alloc|apply pw_below_drewN|apply below_drew1|refine below_set ?_ GE247.out|refine below_set ?_ GE248.out|refine below_set ?_ GE253.out|refine below_set ?_ GE254.out)|exact HB.out)));(case aF=>exact (fun _ _=>trivial));(case aO=>exact (by (with_reducible repeat (first|apply Kd.R_alloc|apply Kd.R_drewN|apply Kd.R_drew));exact HO_8.out));(case aS=>exact (below_size (by repeat (first|(with_reducible first|exact HB.out|apply below_alloc|apply pw_below_drewN|apply below_drew1|refine below_set ?_ GE247.out|refine below_set ?_ GE248.out|refine below_set ?_ GE253.out|refine below_set ?_ GE254.out)|exact HB.out))));(case aL=>have:=LMc27.out;omega);intro v257 w34 ho hb hg hat;rw [← Ny256.out] at ho;have n0_:=Aside0.mk (Kd.S_after (ok:=(fun k_=>some k_ ≠ (u255000 : Value).ownBlock)) (by (with_reducible repeat (first|apply Kd.S_alloc|apply Kd.S_drewN|apply Kd.S_drew));exact Kd.S_mono HO_254000.out (fun _ hk=>⟨hk.2,hk.1⟩)) hg hat);have n1_:=Aside0.mk (Kd.S_after (ok:=(fun k_=>some k_ ≠ (.slice (some ad255) t250.length co13 : Value).ownBlock)) (by (with_reducible repeat (first|apply Kd.S_alloc|apply Kd.S_drewN|apply Kd.S_drew));exact Kd.S_mono HO_255000.out (fun _ hk=>⟨hk.2,hk.1⟩)) hg hat);have n2_:=Aside0.mk (blk_grown (g:=gb247) (o:=.cells #[.slice A0_0 l0_0.length c0_0] 24 (0,0)) (zb BK247.out) hg (Kd.R_ne HO_8.out BK247.out (by decide)));have n3_:=Aside0.mk (blk_grown (g:=gb248) (o:=.cells #[.slice none 0 0] 24 (0,0)) (zb BK248.out) hg (Kd.R_ne HO_8.out BK248.out (by decide)));have n4_:=Aside0.mk (blk_grown (g:=gb253) (o:=.cells #[.slice (some ad255) t250.length co13] 24 (0,0)) (zb BK253.out) hg (Kd.R_ne HO_8.out BK253.out (by decide)));have n5_:=Aside0.mk (blk_grown (g:=gb254) (o:=.cells #[u255000] 24 (0,0)) (zb BK254.out) hg (Kd.R_ne HO_8.out BK254.out (by decide)));have n6_:=Aside0.mk (Kd.R_after (ok:=(fun k_=>some k_ ≠ (.slice (some ad255) t250.length co13 : Value).ownBlock ∧ some k_ ≠ (u255000 : Value).ownBlock)) (by (with_reducible repeat (first|apply Kd.R_alloc|apply Kd.R_drewN|apply Kd.R_drew));exact Kd.R_mono HL255_0.out (fun _ hk=>⟨⟨hk.2,hk.1.2⟩,hk.1.1⟩)) hg hat);have n7_:=Aside0.mk (hb);have n8_:=Aside0.mk (ho);clear HO_254000;clear HO_255000;clear BK247;clear BK248;clear BK253;clear BK254;clear HL255_0;clear HB;clear HO_8;have HO_254000:=n0_;have HO_255000:=n1_;have BK247:=n2_;have BK248:=n3_;have BK253:=n4_;have BK254:=n5_;have HL255_0:=n6_;have HB:=n7_;have HO258:=n8_;clear n0_ n1_ n2_ n3_ n4_ n5_ n6_ n7_ n8_;clear ho hb hg hat;have hcz35_0 : w34.cell? ⟨gb253,0,none⟩ = some (.slice (some ad255) t250.length co13):=(blk_cell BK253.out 0).trans rfl;have hfz35_0:=blk_frozen BK253.out 0;have p259 : 0 ≤ (x7_1 : Int):=of_decide_eq_true (by first|(with_reducible assumption)|assumption);have q259 : x7_1 < (t250.length : Int):=of_decide_eq_true (by first|(with_reducible assumption)|assumption);obtain ⟨ad259,A259_0,c259_0,e259,hx259_0,hl259_0,hi259_0⟩:=at_L2 (Kd.S_reads' HO_254000.out).2.2 x7_1 p259 q259;obtain rfl : ad255 = ad259:=(by injection e259);obtain ⟨ce259,hce259,hMe259,hcc259⟩:=Kd.S_get HO_254000.out [] x7_1 p259 (by first|exact q259|exact of_decide_eq_true (by first|(with_reducible assumption)|assumption)|(have e_:=(Kd.S_reads' HO_254000.out).1;omega));obtain ⟨ve259_0,rfl,ge259_0⟩:=hMe259;have hv259_0:=hcc259 0 _ rfl;rw [Nat.add_zero,show ((Kd.slice 44 k44)).sz = 1 from rfl,Nat.mul_one] at hv259_0;replace hv259_0:=Option.some.inj (hv259_0.symm.trans hx259_0);rw [hv259_0] at ge259_0;have HL259_0:=Aside0.mk (show Kd.R k44 44 _ _ _ _ (rd_L2 t250 x7_1) from ge259_0);clear hv259_0 ge259_0;clear hcc259 hce259;have HR259_0:=Aside0.mk hi259_0;have HC259_0:=Aside0.mk hl259_0;clear hi259_0 hl259_0;replace p259:=eq_true p259;replace q259:=eq_true q259;have p260 : 0 ≤ (x9_2 : Int):=of_decide_eq_true (by first|(with_reducible assumption)|assumption);have q260 : x9_2 < ((rd_L2 t250 x7_1).length : Int):=of_decide_eq_true (by first|(with_reducible assumption)|assumption);obtain ⟨ad260,e260,hx260_0,hx260_1,hx260_2,hx260_3,hx260_4⟩:=at_T44 (by repeat (first|(with_reducible exact HR259_0.out)|(with_reducible refine Kd.C_alloc ?_ _)|(with_reducible refine Kd.C_drewN ?_ _)|(with_reducible refine Kd.C_drew ?_)|exact HR259_0.out)) x9_2 p260 q260;cases e260;replace p260:=eq_true p260;replace q260:=eq_true q260)|((with_reducible refine gate_builtin (b:=.append) (xs:=#[.tmp 41,.tmp 50]) rfl ?_);at_builtin;refine Kd.R_append k44 (w0:=w) w.heap.size rfl (.tmp 41) (.tmp 50) 42 44 (.agg #[(.int .i64 0),(.int .i64 0),(.int .i64 0),(.int .i64 0),(.int .i64 0)]) 40 rfl Try.underlying42 info44 rfl (by decide) (by omega) v257 y256 (⟨(rd_T44 (rd_L2 t250 x7_1) x9_2).f0,(rd_T44 (rd_L2 t250 x7_1) x9_2).f1,(rd_T44 (rd_L2 t250 x7_1) x9_2).f2,(rd_T44 (rd_L2 t250 x7_1) x9_2).f3,(rd_T44 (rd_L2 t250 x7_1) x9_2).f4⟩ : S44) [.int .i64 ((rd_T44 (rd_L2 t250 x7_1) x9_2).f0),.int .i64 ((rd_T44 (rd_L2 t250 x7_1) x9_2).f1),.int .i64 ((rd_T44 (rd_L2 t250 x7_1) x9_2).f2),.int .i64 ((rd_T44 (rd_L2 t250 x7_1) x9_2).f3),.int .i64 ((rd_T44 (rd_L2 t250 x7_1) x9_2).f4)] (fun _=>True) (fun _=>False) rfl rfl ?aP (fun _ hk=>hk.elim) ?aF ?aO ?aB ?aS ?aL ?_;(case aP=>exact k44_mkM _ _ _ (⟨(rd_T44 (rd_L2 t250 x7_1) x9_2).f0,(rd_T44 (rd_L2 t250 x7_1) x9_2).f1,(rd_T44 (rd_L2 t250 x7_1) x9_2).f2,(rd_T44 (rd_L2 t250 x7_1) x9_2).f3,(rd_T44 (rd_L2 t250 x7_1) x9_2).f4⟩ : S44));(case aB=>exact (by repeat (first|(with_reducible first|exact HB.out|apply below_alloc|apply pw_below_drewN|apply below_drew1|refine below_set ?_ GE247.out|refine below_set ?_ GE248.out|refine below_set ?_ GE253.out|refine below_set ?_ GE254.out)|exact HB.out)));(case aF=>exact (fun _ _=>trivial));(case aO=>exact (by (with_reducible repeat (first|apply Kd.R_alloc|apply Kd.R_drewN|apply Kd.R_drew));exact HO258.out));(case aS=>exact (below_size (by repeat (first|(with_reducible first|exact HB.out|apply below_alloc|apply pw_below_drewN|apply below_drew1|refine below_set ?_ GE247.out|refine below_set ?_ GE248.out|refine below_set ?_ GE253.out|refine below_set ?_ GE254.out)|exact HB.out))));(case aL=>have:=LMc29.out;omega);intro v262 w36 ho hb hg hat;rw [← Ny261.out] at ho;have n0_:=Aside0.mk (Kd.S_after (ok:=(fun k_=>some k_ ≠ (u255000 : Value).ownBlock)) (by (with_reducible repeat (first|apply Kd.S_alloc|apply Kd.S_drewN|apply Kd.S_drew));exact HO_254000.out) hg hat);have n1_:=Aside0.mk (Kd.S_after (ok:=(fun k_=>some k_ ≠ (.slice (some ad255) t250.length co13 : Value).ownBlock)) (by (with_reducible repeat (first|apply Kd.S_alloc|apply Kd.S_drewN|apply Kd.S_drew));exact HO_255000.out) hg hat);have n2_:=Aside0.mk (blk_grown (g:=gb247) (o:=.cells #[.slice A0_0 l0_0.length c0_0] 24 (0,0)) (zb BK247.out) hg (Kd.R_ne HO258.out BK247.out (by decide)));have n3_:=Aside0.mk (blk_grown (g:=gb248) (o:=.cells #[.slice none 0 0] 24 (0,0)) (zb BK248.out) hg (Kd.R_ne HO258.out BK248.out (by decide)));have n4_:=Aside0.mk (blk_grown (g:=gb253) (o:=.cells #[.slice (some ad255) t250.length co13] 24 (0,0)) (zb BK253.out) hg (Kd.R_ne HO258.out BK253.out (by decide)));have n5_:=Aside0.mk (blk_grown (g:=gb254) (o:=.cells #[u255000] 24 (0,0)) (zb BK254.out) hg (Kd.R_ne HO258.out BK254.out (by decide)));have n6_:=Aside0.mk (Kd.R_after (ok:=(fun k_=>some k_ ≠ (.slice (some ad255) t250.length co13 : Value).ownBlock ∧ some k_ ≠ (u255000 : Value).ownBlock)) (by (with_reducible repeat (first|apply Kd.R_alloc|apply Kd.R_drewN|apply Kd.R_drew));exact HL255_0.out) hg hat);have n7_:=Aside0.mk (Kd.R_after (ok:=(fun k_=>some k_ ≠ (.slice (some ad255) t250.length co13 : Value).ownBlock ∧ some k_ ≠ (u255000 : Value).ownBlock)) (by (with_reducible repeat (first|apply Kd.R_alloc|apply Kd.R_drewN|apply Kd.R_drew));exact Kd.R_mono HL259_0.out (fun _ hk=>⟨⟨hk.2,hk.1.1⟩,hk.1.2⟩)) hg hat);have n8_:=Aside0.mk (hb);have n9_:=Aside0.mk (ho);clear HO_254000;clear HO_255000;clear BK247;clear BK248;clear BK253;clear BK254;clear HL255_0;clear HL259_0;clear HB;clear HO258;have HO_254000:=n0_;have HO_255000:=n1_;have BK247:=n2_;have BK248:=n3_;have BK253:=n4_;have BK254:=n5_;have HL255_0:=n6_;have HL259_0:=n7_;have HB:=n8_;have HO263:=n9_;clear n0_ n1_ n2_ n3_ n4_ n5_ n6_ n7_ n8_ n9_;clear ho hb hg hat))
                       go_roundg k2
                       case measure=>have:=HK1.out;have:=HK2.out;omega
                       case rel=>exact ⟨(y261),(wrap64 (x9_2 + 1)),(by first|rfl|(simp;done)|(simp [*];done)),H',⟨by have:=HK1.out;have:=HK2.out;omega⟩,⟨by (with_reducible repeat (first|apply Kd.R_alloc|apply Kd.R_drewN|apply Kd.R_drew));exact HO263.out⟩,⟨by (with_reducible repeat (first|apply Kd.S_alloc|apply Kd.S_drewN|apply Kd.S_drew));exact Kd.S_mono HO_254000.out (fun _ hk=>⟨hk.2,hk.1⟩)⟩,⟨by (with_reducible repeat (first|apply Kd.S_alloc|apply Kd.S_drewN|apply Kd.S_drew));exact Kd.S_mono HO_255000.out (fun _ hk=>⟨hk.2,hk.1⟩)⟩,⟨by (with_reducible repeat (first|apply kN|apply kD|apply kA));exact BK247.out⟩,⟨by (with_reducible repeat (first|apply kN|apply kD|apply kA));exact BK248.out⟩,⟨by (with_reducible repeat (first|apply kN|apply kD|apply kA));exact BK253.out⟩,⟨by (with_reducible repeat (first|apply kN|apply kD|apply kA));exact BK254.out⟩,⟨by repeat (first|(with_reducible first|exact HB.out|apply below_alloc|apply pw_below_drewN|apply below_drew1|refine below_set ?_ GE247.out|refine below_set ?_ GE248.out|refine below_set ?_ GE253.out|refine below_set ?_ GE254.out)|exact HB.out)⟩⟩
                     · rw [if_neg c29] at H
                       exact absurd H (by simp)
                   · rw [if_neg c28] at H
                     exact absurd H (by simp)
                 · rw [if_neg c27] at H
                   exact absurd H (by simp)
               · rw [if_neg c26] at H
                 have c26b0 : decide (0 < x9_2) = false:=decide_eq_false c26
                 clear c26
                 by_cases c37 : 0 ≤ x9_2
                 · rw [if_pos c37] at H
                   have c37b0 : decide (0 ≤ x9_2) = true:=decide_eq_true c37
                   clear c37
                   by_cases c38 : x8_2.length < 3518437208883
                   · rw [if_pos c38] at H
                     have LMc38:=Aside0.mk c38
                     clear c38
                     obtain ⟨y266,hy266⟩ : ∃ y_ : List (S44),y_ = (x8_2 ++ [(⟨(rd_T44 (rd_L2 t250 x7_1) x9_2).f0,(rd_T44 (rd_L2 t250 x7_1) x9_2).f1,(rd_T44 (rd_L2 t250 x7_1) x9_2).f2,(rd_T44 (rd_L2 t250 x7_1) x9_2).f3,(rd_T44 (rd_L2 t250 x7_1) x9_2).f4⟩ : S44)]):=⟨_,rfl⟩
                     replace H : (locklessref03_Fenced.l1 k2 x7_1 y266 (wrap64 (x9_2 + 1)) t250 x255000_1) = some (r1,r2):=by first|(rw [hy266];with_reducible exact H)|(have H2_:=(Option.bind_some _ _).symm.trans H;rw [hy266];with_reducible exact H2_)|(have H2_:=(Option.bind_some _ _).symm.trans H;with_reducible exact H2_)|with_reducible exact H|(rw [hy266];exact H)|exact H
                     have Ny266:=Aside0.mk hy266
                     clear hy266
                     have H':=Aside0.mk H
                     clear H
                     have hnb39:=NB253_247.out
                     have hnc39:=NB247_253.out
                     have hnb40:=NB253_248.out
                     have hnc40:=NB248_253.out
                     have hnb41:=NB253_254.out
                     have hnc41:=NB254_253.out
                     have hcz42_0 : wr.cell? ⟨gb253,0,none⟩ = some (.slice Ao13 t250.length co13):=(blk_cell BK253.out 0).trans rfl
                     have hfz42_0:=blk_frozen BK253.out 0
                     have p255 : 0 ≤ (x7_1 : Int):=of_decide_eq_true (by first|(with_reducible assumption)|assumption)
                     have q255 : x7_1 < (t250.length : Int):=of_decide_eq_true (by first|(with_reducible assumption)|assumption)
                     obtain ⟨ad255,A255_0,c255_0,e255,hx255_0,hl255_0,hi255_0⟩:=at_L2 (Kd.S_reads' HO_254000.out).2.2 x7_1 p255 q255
                     cases e255
                     obtain ⟨ce255,hce255,hMe255,hcc255⟩:=Kd.S_get HO_254000.out [] x7_1 p255 (by first|exact q255|exact of_decide_eq_true (by first|(with_reducible assumption)|assumption)|(have e_:=(Kd.S_reads' HO_254000.out).1;omega))
                     obtain ⟨ve255_0,rfl,ge255_0⟩:=hMe255
                     have hv255_0:=hcc255 0 _ rfl
                     rw [Nat.add_zero,show ((Kd.slice 44 k44)).sz = 1 from rfl,Nat.mul_one] at hv255_0
                     replace hv255_0:=Option.some.inj (hv255_0.symm.trans hx255_0)
                     rw [hv255_0] at ge255_0
                     have HL255_0:=Aside0.mk (show Kd.R k44 44 _ _ _ _ (rd_L2 t250 x7_1) from ge255_0)
                     clear hv255_0 ge255_0
                     clear hcc255 hce255
                     have HR255_0:=Aside0.mk hi255_0
                     have HC255_0:=Aside0.mk hl255_0
                     clear hi255_0 hl255_0
                     replace p255:=eq_true p255
                     replace q255:=eq_true q255
                     have p264 : 0 ≤ (x7_1 : Int):=of_decide_eq_true (by first|(with_reducible assumption)|assumption)
                     have q264 : x7_1 < (t250.length : Int):=of_decide_eq_true (by first|(with_reducible assumption)|assumption)
                     obtain ⟨ad264,A264_0,c264_0,e264,hx264_0,hl264_0,hi264_0⟩:=at_L2 (Kd.S_reads' HO_254000.out).2.2 x7_1 p264 q264
                     obtain rfl : ad255 = ad264:=(by injection e264)
                     obtain ⟨ce264,hce264,hMe264,hcc264⟩:=Kd.S_get HO_254000.out [] x7_1 p264 (by first|exact q264|exact of_decide_eq_true (by first|(with_reducible assumption)|assumption)|(have e_:=(Kd.S_reads' HO_254000.out).1;omega))
                     obtain ⟨ve264_0,rfl,ge264_0⟩:=hMe264
                     have hv264_0:=hcc264 0 _ rfl
                     rw [Nat.add_zero,show ((Kd.slice 44 k44)).sz = 1 from rfl,Nat.mul_one] at hv264_0
                     replace hv264_0:=Option.some.inj (hv264_0.symm.trans hx264_0)
                     rw [hv264_0] at ge264_0
                     have HL264_0:=Aside0.mk (show Kd.R k44 44 _ _ _ _ (rd_L2 t250 x7_1) from ge264_0)
                     clear hv264_0 ge264_0
                     clear hcc264 hce264
                     have HR264_0:=Aside0.mk hi264_0
                     have HC264_0:=Aside0.mk hl264_0
                     clear hi264_0 hl264_0
                     replace p264:=eq_true p264
                     replace q264:=eq_true q264
                     have ea_:=Option.some.inj (hx255_0.symm.trans hx264_0)
                     injection ea_ with ea_ en_ ec_
                     subst ea_
                     subst ec_
                     clear en_
                     have p265 : 0 ≤ (x9_2 : Int):=of_decide_eq_true (by first|(with_reducible assumption)|assumption)
                     have q265 : x9_2 < ((rd_L2 t250 x7_1).length : Int):=of_decide_eq_true (by first|(with_reducible assumption)|assumption)
                     obtain ⟨ad265,e265,hx265_0,hx265_1,hx265_2,hx265_3,hx265_4⟩:=at_T44 (by repeat (first|(with_reducible exact HR264_0.out)|(with_reducible refine Kd.C_alloc ?_ _)|(with_reducible refine Kd.C_drewN ?_ _)|(with_reducible refine Kd.C_drew ?_)|exact HR264_0.out)) x9_2 p265 q265
                     cases e265
                     replace p265:=eq_true p265
                     replace q265:=eq_true q265
                     go_wp2_with (first|((with_reducible refine gate_builtin (b:=.append) (xs:=#[.tmp 41,.tmp 50]) rfl ?_);at_builtin;refine Kd.R_append k44 (w0:=w) w.heap.size rfl (.tmp 41) (.tmp 50) 42 44 (.agg #[(.int .i64 0),(.int .i64 0),(.int .i64 0),(.int .i64 0),(.int .i64 0)]) 40 rfl Try.underlying42 info44 rfl (by decide) (by omega) u8 x8_2 (⟨(rd_T44 (rd_L2 t250 x7_1) x9_2).f0,(rd_T44 (rd_L2 t250 x7_1) x9_2).f1,(rd_T44 (rd_L2 t250 x7_1) x9_2).f2,(rd_T44 (rd_L2 t250 x7_1) x9_2).f3,(rd_T44 (rd_L2 t250 x7_1) x9_2).f4⟩ : S44) [.int .i64 ((rd_T44 (rd_L2 t250 x7_1) x9_2).f0),.int .i64 ((rd_T44 (rd_L2 t250 x7_1) x9_2).f1),.int .i64 ((rd_T44 (rd_L2 t250 x7_1) x9_2).f2),.int .i64 ((rd_T44 (rd_L2 t250 x7_1) x9_2).f3),.int .i64 ((rd_T44 (rd_L2 t250 x7_1) x9_2).f4)] (fun _=>True) (fun _=>False) rfl rfl ?aP (fun _ hk=>hk.elim) ?aF ?aO ?aB ?aS ?aL ?_;(case aP=>exact k44_mkM _ _ _ (⟨(rd_T44 (rd_L2 t250 x7_1) x9_2).f0,(rd_T44 (rd_L2 t250 x7_1) x9_2).f1,(rd_T44 (rd_L2 t250 x7_1) x9_2).f2,(rd_T44 (rd_L2 t250 x7_1) x9_2).f3,(rd_T44 (rd_L2 t250 x7_1) x9_2).f4⟩ : S44));(case aB=>exact (by repeat (first|(with_reducible first|exact HB.out|apply below_alloc|apply pw_below_drewN|apply below_drew1|refine below_set ?_ GE247.out|refine below_set ?_ GE248.out|refine below_set ?_ GE253.out|refine below_set ?_ GE254.out)|exact HB.out)));(case aF=>exact (fun _ _=>trivial));(case aO=>exact (by (with_reducible repeat (first|apply Kd.R_alloc|apply Kd.R_drewN|apply Kd.R_drew));exact HO_8.out));(case aS=>exact (below_size (by repeat (first|(with_reducible first|exact HB.out|apply below_alloc|apply pw_below_drewN|apply below_drew1|refine below_set ?_ GE247.out|refine below_set ?_ GE248.out|refine below_set ?_ GE253.out|refine below_set ?_ GE254.out)|exact HB.out))));(case aL=>have:=LMc38.out;omega);intro v267 w43 ho hb hg hat;rw [← Ny266.out] at ho;have n0_:=Aside0.mk (Kd.S_after (ok:=(fun k_=>some k_ ≠ (u255000 : Value).ownBlock)) (by (with_reducible repeat (first|apply Kd.S_alloc|apply Kd.S_drewN|apply Kd.S_drew));exact Kd.S_mono HO_254000.out (fun _ hk=>⟨hk.2,hk.1⟩)) hg hat);have n1_:=Aside0.mk (Kd.S_after (ok:=(fun k_=>some k_ ≠ (.slice (some ad255) t250.length co13 : Value).ownBlock)) (by (with_reducible repeat (first|apply Kd.S_alloc|apply Kd.S_drewN|apply Kd.S_drew));exact Kd.S_mono HO_255000.out (fun _ hk=>⟨hk.2,hk.1⟩)) hg hat);have n2_:=Aside0.mk (blk_grown (g:=gb247) (o:=.cells #[.slice A0_0 l0_0.length c0_0] 24 (0,0)) (zb BK247.out) hg (Kd.R_ne HO_8.out BK247.out (by decide)));have n3_:=Aside0.mk (blk_grown (g:=gb248) (o:=.cells #[.slice none 0 0] 24 (0,0)) (zb BK248.out) hg (Kd.R_ne HO_8.out BK248.out (by decide)));have n4_:=Aside0.mk (blk_grown (g:=gb253) (o:=.cells #[.slice (some ad255) t250.length co13] 24 (0,0)) (zb BK253.out) hg (Kd.R_ne HO_8.out BK253.out (by decide)));have n5_:=Aside0.mk (blk_grown (g:=gb254) (o:=.cells #[u255000] 24 (0,0)) (zb BK254.out) hg (Kd.R_ne HO_8.out BK254.out (by decide)));have n6_:=Aside0.mk (Kd.R_after (ok:=(fun k_=>some k_ ≠ (.slice (some ad255) t250.length co13 : Value).ownBlock ∧ some k_ ≠ (u255000 : Value).ownBlock)) (by (with_reducible repeat (first|apply Kd.R_alloc|apply Kd.R_drewN|apply Kd.R_drew));exact Kd.R_mono HL255_0.out (fun _ hk=>⟨⟨hk.2,hk.1.2⟩,hk.1.1⟩)) hg hat);have n7_:=Aside0.mk (Kd.R_after (ok:=(fun k_=>some k_ ≠ (.slice (some ad255) t250.length co13 : Value).ownBlock ∧ some k_ ≠ (u255000 : Value).ownBlock)) (by (with_reducible repeat (first|apply Kd.R_alloc|apply Kd.R_drewN|apply Kd.R_drew));exact Kd.R_mono HL264_0.out (fun _ hk=>⟨⟨hk.2,hk.1.2⟩,hk.1.1⟩)) hg hat);have n8_:=Aside0.mk (hb);have n9_:=Aside0.mk (ho);clear HO_254000;clear HO_255000;clear BK247;clear BK248;clear BK253;clear BK254;clear HL255_0;clear HL264_0;clear HB;clear HO_8;have HO_254000:=n0_;have HO_255000:=n1_;have BK247:=n2_;have BK248:=n3_;have BK253:=n4_;have BK254:=n5_;have HL255_0:=n6_;have HL264_0:=n7_;have HB:=n8_;have HO268:=n9_;clear n0_ n1_ n2_ n3_ n4_ n5_ n6_ n7_ n8_ n9_;clear ho hb hg hat))
                     go_roundg k2
                     case measure=>have:=HK1.out;have:=HK2.out;omega
                     case rel=>exact ⟨(y266),(wrap64 (x9_2 + 1)),(by first|rfl|(simp;done)|(simp [*];done)),H',⟨by have:=HK1.out;have:=HK2.out;omega⟩,⟨by (with_reducible repeat (first|apply Kd.R_alloc|apply Kd.R_drewN|apply Kd.R_drew));exact HO268.out⟩,⟨by (with_reducible repeat (first|apply Kd.S_alloc|apply Kd.S_drewN|apply Kd.S_drew));exact Kd.S_mono HO_254000.out (fun _ hk=>⟨hk.2,hk.1⟩)⟩,⟨by (with_reducible repeat (first|apply Kd.S_alloc|apply Kd.S_drewN|apply Kd.S_drew));exact Kd.S_mono HO_255000.out (fun _ hk=>⟨hk.2,hk.1⟩)⟩,⟨by (with_reducible repeat (first|apply kN|apply kD|apply kA));exact BK247.out⟩,⟨by (with_reducible repeat (first|apply kN|apply kD|apply kA));exact BK248.out⟩,⟨by (with_reducible repeat (first|apply kN|apply kD|apply kA));exact BK253.out⟩,⟨by (with_reducible repeat (first|apply kN|apply kD|apply kA));exact BK254.out⟩,⟨by repeat (first|(with_reducible first|exact HB.out|apply below_alloc|apply pw_below_drewN|apply below_drew1|refine below_set ?_ GE247.out|refine below_set ?_ GE248.out|refine below_set ?_ GE253.out|refine below_set ?_ GE254.out)|exact HB.out)⟩⟩
                   · rw [if_neg c38] at H
                     exact absurd H (by simp)
                 · rw [if_neg c37] at H
                   exact absurd H (by simp)
             · rw [if_neg c25] at H
               have c25b0 : decide (x9_2 < ((rd_L2 t250 x7_1).length : Int)) = false:=decide_eq_false c25
               clear c25
               by_cases c44 : x255000_1.length < 5864062014805
               · rw [if_pos c44] at H
                 have LMc44:=Aside0.mk c44
                 clear c44
                 obtain ⟨y269,hy269⟩ : ∃ y_ : List (List (S44)),y_ = (x255000_1 ++ [x8_2]):=⟨_,rfl⟩
                 replace H : (locklessref03_Fenced.l0 k2 (wrap64 (x7_1 + 1)) t250 y269) = some (r1,r2):=by first|(rw [hy269];with_reducible exact H)|(have H2_:=(Option.bind_some _ _).symm.trans H;rw [hy269];with_reducible exact H2_)|(have H2_:=(Option.bind_some _ _).symm.trans H;with_reducible exact H2_)|with_reducible exact H|(rw [hy269];exact H)|exact H
                 have Ny269:=Aside0.mk hy269
                 clear hy269
                 have H':=Aside0.mk H
                 clear H
                 have hnb45:=NB253_247.out
                 have hnc45:=NB247_253.out
                 have hnb46:=NB253_248.out
                 have hnc46:=NB248_253.out
                 have hnb47:=NB253_254.out
                 have hnc47:=NB254_253.out
                 have hcz48_0 : wr.cell? ⟨gb253,0,none⟩ = some (.slice Ao13 t250.length co13):=(blk_cell BK253.out 0).trans rfl
                 have hfz48_0:=blk_frozen BK253.out 0
                 have p255 : 0 ≤ (x7_1 : Int):=of_decide_eq_true (by first|(with_reducible assumption)|assumption)
                 have q255 : x7_1 < (t250.length : Int):=of_decide_eq_true (by first|(with_reducible assumption)|assumption)
                 obtain ⟨ad255,A255_0,c255_0,e255,hx255_0,hl255_0,hi255_0⟩:=at_L2 (Kd.S_reads' HO_254000.out).2.2 x7_1 p255 q255
                 cases e255
                 obtain ⟨ce255,hce255,hMe255,hcc255⟩:=Kd.S_get HO_254000.out [] x7_1 p255 (by first|exact q255|exact of_decide_eq_true (by first|(with_reducible assumption)|assumption)|(have e_:=(Kd.S_reads' HO_254000.out).1;omega))
                 obtain ⟨ve255_0,rfl,ge255_0⟩:=hMe255
                 have hv255_0:=hcc255 0 _ rfl
                 rw [Nat.add_zero,show ((Kd.slice 44 k44)).sz = 1 from rfl,Nat.mul_one] at hv255_0
                 replace hv255_0:=Option.some.inj (hv255_0.symm.trans hx255_0)
                 rw [hv255_0] at ge255_0
                 have HL255_0:=Aside0.mk (show Kd.R k44 44 _ _ _ _ (rd_L2 t250 x7_1) from ge255_0)
                 clear hv255_0 ge255_0
                 clear hcc255 hce255
                 have HR255_0:=Aside0.mk hi255_0
                 have HC255_0:=Aside0.mk hl255_0
                 clear hi255_0 hl255_0
                 replace p255:=eq_true p255
                 replace q255:=eq_true q255
                 have hnb49:=NB254_247.out
                 have hnc49:=NB247_254.out
                 have hnb50:=NB254_248.out
                 have hnc50:=NB248_254.out
                 have hcz51_0 : wr.cell? ⟨gb254,0,none⟩ = some (u255000):=(blk_cell BK254.out 0).trans rfl
                 have hfz51_0:=blk_frozen BK254.out 0
                 obtain ⟨Ao53,co53,eo53⟩:=Kd.R_slice HO_8.out
                 subst eo53
                 go_wp2_with (first|((with_reducible refine gate_builtin (b:=.append) (xs:=#[.tmp 53,.tmp 55]) rfl ?_);at_builtin;refine Kd.S_append (Kd.slice 44 k44) (w0:=w) w.heap.size rfl (.tmp 53) (.tmp 55) 22 42 (.slice none 0 0) 24 rfl Try.underlying22 info42 rfl (by decide) (by omega) u255000 x255000_1 x8_2 [.slice Ao53 x8_2.length co53] (fun k_=>some k_ ≠ (.slice (some ad255) t250.length co13 : Value).ownBlock) (fun k_=>some k_ = (.slice Ao53 x8_2.length co53 : Value).ownBlock) rfl rfl ?aP (fun k_ hk_=>((Kd.R_mono (ok':=fun k_=>((fun k_=>some k_ ≠ (.slice (some ad255) t250.length co13 : Value).ownBlock)) k_ ∧ some k_ ≠ (u255000 : Value).ownBlock) (Kd.R_apart' (Kd.R_apart' (HO_8.out) (Kd.S_typed HO_254000.out) (by decide)) (Kd.S_typed HO_255000.out) (by decide)) (fun k_ hk=>⟨hk.1.2,hk.2⟩))).1 k_ hk_.symm) ?aF ?aO ?aB ?aS ?aL ?_;(case aP=>exact Kd.M_row (Kd.R_mono (Kd.R_tight rfl (Kd.R_mono (ok':=fun k_=>((fun k_=>some k_ ≠ (.slice (some ad255) t250.length co13 : Value).ownBlock)) k_ ∧ some k_ ≠ (u255000 : Value).ownBlock) (Kd.R_apart' (Kd.R_apart' (HO_8.out) (Kd.S_typed HO_254000.out) (by decide)) (Kd.S_typed HO_255000.out) (by decide)) (fun k_ hk=>⟨hk.1.2,hk.2⟩))) (fun _ h_=>h_)));(case aB=>exact (by repeat (first|(with_reducible first|exact HB.out|apply below_alloc|apply pw_below_drewN|apply below_drew1|refine below_set ?_ GE247.out|refine below_set ?_ GE248.out|refine below_set ?_ GE253.out|refine below_set ?_ GE254.out)|exact HB.out)));(case aF=>exact (fun k_ hk=>Kd.fresh' (Kd.S_lt (by (with_reducible repeat (first|apply Kd.S_alloc|apply Kd.S_drewN|apply Kd.S_drew));exact HO_254000.out)) k_ hk));(case aO=>exact (by (with_reducible repeat (first|apply Kd.S_alloc|apply Kd.S_drewN|apply Kd.S_drew));exact Kd.S_mono HO_255000.out (fun k_ hk=>⟨hk.2,fun e_=>hk.1 e_⟩)));(case aS=>exact (below_size (by repeat (first|(with_reducible first|exact HB.out|apply below_alloc|apply pw_below_drewN|apply below_drew1|refine below_set ?_ GE247.out|refine below_set ?_ GE248.out|refine below_set ?_ GE253.out|refine below_set ?_ GE254.out)|exact HB.out))));(case aL=>have:=LMc44.out;omega);intro v270 w52 ho hb hg hat;rw [← Ny269.out] at ho;have n0_:=Aside0.mk (Kd.S_after (ok:=(fun k_=>some k_ ≠ (.slice Ao53 x8_2.length co53 : Value).ownBlock)) (by (with_reducible repeat (first|apply Kd.S_alloc|apply Kd.S_drewN|apply Kd.S_drew));exact HO_254000.out) hg hat);have n1_:=Aside0.mk (blk_grown (g:=gb247) (o:=.cells #[.slice A0_0 l0_0.length c0_0] 24 (0,0)) (zb BK247.out) hg (Kd.S_ne HO_255000.out BK247.out (by decide)));have n2_:=Aside0.mk (blk_grown (g:=gb248) (o:=.cells #[.slice none 0 0] 24 (0,0)) (zb BK248.out) hg (Kd.S_ne HO_255000.out BK248.out (by decide)));have n3_:=Aside0.mk (blk_grown (g:=gb253) (o:=.cells #[.slice (some ad255) t250.length co13] 24 (0,0)) (zb BK253.out) hg (Kd.S_ne HO_255000.out BK253.out (by decide)));have n4_:=Aside0.mk (blk_grown (g:=gb254) (o:=.cells #[u255000] 24 (0,0)) (zb BK254.out) hg (Kd.S_ne HO_255000.out BK254.out (by decide)));have n5_:=Aside0.mk (Kd.R_after (ok:=(fun k_=>some k_ ≠ (.slice Ao53 x8_2.length co53 : Value).ownBlock ∧ some k_ ≠ (.slice (some ad255) t250.length co13 : Value).ownBlock)) (by (with_reducible repeat (first|apply Kd.R_alloc|apply Kd.R_drewN|apply Kd.R_drew));exact Kd.R_mono HL255_0.out (fun _ hk=>⟨⟨hk.1.1,hk.2⟩,hk.1.2⟩)) hg hat);have n6_:=Aside0.mk (hb);have n7_:=Aside0.mk (ho);clear HO_254000;clear BK247;clear BK248;clear BK253;clear BK254;clear HL255_0;clear HB;clear HO_255000;clear HO_8;have HO_254000:=n0_;have BK247:=n1_;have BK248:=n2_;have BK253:=n3_;have BK254:=n4_;have HL255_0:=n5_;have HB:=n6_;have HO271:=n7_;clear n0_ n1_ n2_ n3_ n4_ n5_ n6_ n7_;clear ho hb hg hat;obtain ⟨Ao54,co54,eo54⟩:=Kd.S_slice HO271.out;subst eo54;have hcz55_0 : w52.cell? ⟨gb254,0,none⟩ = some (u255000):=(blk_cell BK254.out 0).trans rfl;have hfz55_0:=blk_frozen BK254.out 0))
                 go_roundg k2
                 case measure=>have:=HK1.out;have:=HK2.out;omega
                 case rel=>exact ⟨(wrap64 (x7_1 + 1)),(y269),(.slice Ao54 y269.length co54),(by first|rfl|(simp;done)|(simp [*];done)),H',⟨by have:=HK1.out;have:=HK2.out;omega⟩,⟨by (with_reducible repeat (first|apply Kd.S_alloc|apply Kd.S_drewN|apply Kd.S_drew));exact Kd.S_mono (Kd.S_far (p:=⟨gb254,0,none⟩) (Kd.S_types HO_254000.out BK254.out (by decide)) (fun _ hk=>hk.2) (.slice Ao54 y269.length co54)) (fun _ hk=>hk.1.2)⟩,⟨by (with_reducible repeat (first|apply Kd.S_alloc|apply Kd.S_drewN|apply Kd.S_drew));exact Kd.S_mono (Kd.S_far (p:=⟨gb254,0,none⟩) (Kd.S_types HO271.out BK254.out (by decide)) (fun _ hk=>hk.2) (.slice Ao54 y269.length co54)) (fun _ hk=>hk.1)⟩,⟨by (with_reducible repeat (first|apply kN|apply kD|apply kA));refine blk_far ?_ NB247_254.out _;(with_reducible repeat (first|apply kN|apply kD|apply kA));exact BK247.out⟩,⟨by (with_reducible repeat (first|apply kN|apply kD|apply kA));refine blk_far ?_ NB248_254.out _;(with_reducible repeat (first|apply kN|apply kD|apply kA));exact BK248.out⟩,⟨by (with_reducible repeat (first|apply kN|apply kD|apply kA));refine blk_far ?_ NB253_254.out _;(with_reducible repeat (first|apply kN|apply kD|apply kA));exact BK253.out⟩,⟨by (with_reducible repeat (first|apply kN|apply kD|apply kA));refine blk_put (cs:=#[u255000]) ?_ 0 _ rfl;(with_reducible repeat (first|apply kN|apply kD|apply kA));exact BK254.out⟩,⟨by repeat (first|(with_reducible first|exact HB.out|apply below_alloc|apply pw_below_drewN|apply below_drew1|refine below_set ?_ GE247.out|refine below_set ?_ GE248.out|refine below_set ?_ GE253.out|refine below_set ?_ GE254.out)|exact HB.out)⟩⟩
               · rw [if_neg c44] at H
                 exact absurd H (by simp)
           · rw [if_neg c24] at H
             exact absurd H (by simp)
         · rw [if_neg c23] at H
           exact absurd H (by simp)
     · rw [if_neg c18] at H
       have c18b0 : decide (x7_1 < (t250.length : Int)) = false:=decide_eq_false c18
       clear c18
       simp only [Option.some.injEq,Prod.mk.injEq] at H
       obtain ⟨rfl,rfl⟩:=H
       have hnb56:=NB253_247.out
       have hnc56:=NB247_253.out
       have hnb57:=NB253_248.out
       have hnc57:=NB248_253.out
       have hnb58:=NB253_254.out
       have hnc58:=NB254_253.out
       have hcz59_0 : wr.cell? ⟨gb253,0,none⟩ = some (.slice Ao13 t250.length co13):=(blk_cell BK253.out 0).trans rfl
       have hfz59_0:=blk_frozen BK253.out 0
       have hnb60:=NB254_247.out
       have hnc60:=NB247_254.out
       have hnb61:=NB254_248.out
       have hnc61:=NB248_254.out
       have hcz62_0 : wr.cell? ⟨gb254,0,none⟩ = some (u255000):=(blk_cell BK254.out 0).trans rfl
       have hfz62_0:=blk_frozen BK254.out 0
       obtain ⟨Ao63,co63,eo63⟩:=Kd.S_slice HO_255000.out
       subst eo63
       have hnb64:=NB248_247.out
       have hnc64:=NB247_248.out
       have hcz65_0 : wr.cell? ⟨gb248,0,none⟩ = some (.slice none 0 0):=(blk_cell BK248.out 0).trans rfl
       have hfz65_0:=blk_frozen BK248.out 0
       go_wp2
       refine bodyPost_ret (results_ct rfl _ _ gb248 24 #[.slice Ao63 x255000_1.length co63] (0,0) _ rfl (by (with_reducible repeat (first|apply kN|apply kD|apply kA));refine blk_put (cs:=#[.slice none 0 0]) ?_ 0 _ rfl;(with_reducible repeat (first|apply kN|apply kD|apply kA));exact BK248.out) Try.underlying24 rfl (by kernel_rfl)) rfl ?_
       exact ⟨_,by first|rfl|(simp [errW_none,errW_some] <;> rfl)|(simp [*,errW_none,errW_some] <;> rfl),by (with_reducible repeat (first|apply Kd.S_alloc|apply Kd.S_drewN|apply Kd.S_drew));exact Kd.S_mono (Kd.S_far (p:=⟨gb248,0,none⟩) (Kd.S_types HO_255000.out BK248.out (by decide)) (fun _ hk=>hk.2) (.slice Ao63 x255000_1.length co63)) (fun _ hk=>trivial),by repeat (first|(with_reducible first|exact HB.out|apply below_alloc|apply pw_below_drewN|apply below_drew1|refine below_set ?_ GE247.out|refine below_set ?_ GE248.out|refine below_set ?_ GE253.out|refine below_set ?_ GE254.out)|exact HB.out)⟩
 · rw [if_neg c3] at H
   have c3b0 : (t249 == 0) = false:=beq_eq_false_iff_ne.mpr c3
   have c3b1 : (t249 != 0) = true:=bne_iff_ne.mpr c3
   simp only [Option.some.injEq,Prod.mk.injEq] at H
   obtain ⟨rfl,rfl⟩:=H
   go_enter Try.func28,Try.ntmps28
   go_wp2_with (first|((with_reducible refine gate_dst (N:=1) rfl ?_);refine box_event ?hg (N:=1) ?hd (cs:=#[.slice A0_0 l0_0.length c0_0]) (t:=24) ?hr ?_;(case hd=>rfl);(case hg=>rfl);(case hr=>first|(go_simp;done)|(go_simp;rfl));intro gb247 hg w66 hbox hb;have zT:=two_ hb (by repeat (first|(with_reducible first|exact HB.out|apply below_alloc|apply pw_below_drewN|apply below_drew1)|exact HB.out));have n0_:=Aside0.mk zT.1;have n1_:=Aside0.mk (hbox);have n2_:=Aside0.mk ((by rw [hg];exact zT.2 : w.heap.size ≤ gb247));have n3_:=n2_;clear zT;clear HB;have HB:=n0_;have BK247:=n1_;have GW247:=n2_;have GE247:=n3_;clear n0_ n1_ n2_ n3_;clear hb hbox hg)|((with_reducible refine gate_dst (N:=2) rfl ?_);refine box_event ?hg (N:=2) ?hd (cs:=#[.slice none 0 0]) (t:=24) ?hr ?_;(case hd=>rfl);(case hg=>rfl);(case hr=>first|(go_simp;done)|(go_simp;rfl));intro gb248 hg w67 hbox hb;have zgb247:=bk_ hb (zb BK247.out);have n0_:=Aside0.mk zgb247.1;have zT:=two_ hb (by repeat (first|(with_reducible first|exact HB.out|apply below_alloc|apply pw_below_drewN|apply below_drew1|refine below_set ?_ GE247.out)|exact HB.out));have n1_:=Aside0.mk zT.1;have n2_:=Aside0.mk (hbox);have n3_:=Aside0.mk ((by rw [hg];exact zT.2 : w.heap.size ≤ gb248));have n4_:=n3_;have n5_:=Aside0.mk ((by rw [hg];exact zgb247.2 : gb247 ≠ gb248));have n6_:=Aside0.mk n5_.out.symm;clear zgb247 zT;clear BK247;clear HB;have BK247:=n0_;have HB:=n1_;have BK248:=n2_;have GW248:=n3_;have GE248:=n4_;have NB247_248:=n5_;have NB248_247:=n6_;clear n0_ n1_ n2_ n3_ n4_ n5_ n6_;clear hb hbox hg;have hnb68:=NB247_248.out;have hnc68:=NB248_247.out;have hcz69_0 : w67.cell? ⟨gb247,0,none⟩ = some (.slice A0_0 l0_0.length c0_0):=(blk_cell BK247.out 0).trans rfl;have hfz69_0:=blk_frozen BK247.out 0)|((with_reducible refine gate_callee (f:=15) rfl ?_);refine goesL_ (some 11) rfl rfl Try.func15 (by kernel_rfl) rfl #[.agg #[.slice A0_0 l0_0.length c0_0]] rfl (by (try simp only [List.map_toArray,List.map_cons,List.map_nil]);first|done|rfl|(simp only [List.length_drop,List.length_take];rfl)) ?_;(with_reducible refine (locklessref03_Check.calls _ _ l0_0 t249 _ ?side1 ?side2 A2.out).mono ?_);(case side1=>repeat (first|exact (Kd.C_below HR0_0.out HB.out)|(with_reducible refine Kd.C_alloc ?_ _)|(with_reducible refine Kd.C_drewN ?_ _)|(with_reducible refine Kd.C_drew ?_)));(case side2=>exact HC0_0.out);rintro e w70 ⟨rfl,hb⟩;refine ⟨_,rfl,?_⟩;have n0_:=Aside0.mk (blk_below (zb BK247.out) hb);have n1_:=Aside0.mk (blk_below (zb BK248.out) hb);have n2_:=Aside0.mk (below_step (by repeat (first|(with_reducible first|exact HB.out|apply below_alloc|apply pw_below_drewN|apply below_drew1|refine below_set ?_ GE247.out|refine below_set ?_ GE248.out)|exact HB.out)) hb);clear BK247;clear BK248;clear HB;have BK247:=n0_;have BK248:=n1_;have HB:=n2_;clear n0_ n1_ n2_;(try clear hb);(try clear hb2);(try clear hk);(try clear hi);have hcz71_0 : w70.cell? ⟨gb248,0,none⟩ = some (.slice none 0 0):=(blk_cell BK248.out 0).trans rfl;have hfz71_0:=blk_frozen BK248.out 0))
   refine bodyPost_ret (results_ct rfl _ _ gb248 24 #[.slice none 0 0] (0,0) _ rfl (by (with_reducible repeat (first|apply kN|apply kD|apply kA));refine blk_put (cs:=#[.slice none 0 0]) ?_ 0 _ rfl;(with_reducible repeat (first|apply kN|apply kD|apply kA));exact BK248.out) Try.underlying24 rfl (by kernel_rfl)) rfl ?_
   exact ⟨_,by first|rfl|(simp [errW_none,errW_some] <;> rfl)|(simp [*,errW_none,errW_some] <;> rfl),by first|exact Kd.S_nil _ _ _ _ _|exact Kd.N_nil _ _ _ _ _|exact Kd.V_nil _ _ _ _ _|exact Kd.Q_nil _ _ _ _ _|exact Kd.R_nil _ _ _ _ _,by repeat (first|(with_reducible first|exact HB.out|apply below_alloc|apply pw_below_drewN|apply below_drew1|refine below_set ?_ GE247.out|refine below_set ?_ GE248.out)|exact HB.out)⟩
end Go.Proofs.Ytgfbgbclpeihdaa.XSn
