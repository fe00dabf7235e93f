/- What the Go functions of this text compute, as plain Lean functions, and that the machine does just that: written by a program of this session; no condition. -/
import Derived.Test.YtgfbgbclpeihdaaXSn0
import Derived.Test.YtgfbgbclpeihdaaXSn1
namespace Go.Proofs.Ytgfbgbclpeihdaa.XSn
open Go.RowKit Go.Proofs.YtgfbgbclpeihdaaW.PrintWords Go.Proofs.YtgfbgbclpeihdaaW.PrintLast Go.Proofs.YtgfbgbclpeihdaaW.PrintMore
attribute [local go_sem] max2_int min2_int max_two min_two max_three min_three max_four min_four   -- for this text's walks alone
set_option linter.unusedVariables false
set_option linter.unusedSimpArgs false
attribute [local go_sem high] eqA44
def locklessref03_Own.l0 : Nat → Int → List (List (S44)) → List (List (S44)) → Option ((List (List (S44))))
 | 0,_,_,_=>none
 | k + 1,x4,x139000,x141000=>if x4 < (x139000.length : Int) then ((some (([] : List (S44)) : List (S44))).bind fun y141=>(if 0 ≤ x4 then (if y141.length + (rd_L2 x139000 x4).length < 3518437208883 then (if x141000.length < 5864062014805 then (locklessref03_Own.l0 k (wrap64 (x4 + 1)) x139000 (x141000 ++ [(y141 ++ (rd_L2 x139000 x4))])) else (none)) else (none)) else (none))) else (some x141000)
def locklessref03_Own.f (k : Nat) (l0_0 : List (List (S44))) : Option ((List (List (S44)))):=locklessref03_Own.l0 k 0 l0_0 ([] : List (List (S44)))
def locklessref03_Own.T5 : Bool × List (List Nat × List Nat):=(true,[([],[]),([0],[0]),([],[]),([],[]),([3],[3]),([],[]),([4,5],[4,5]),([6],[6]),([2,7],[2,7]),([8],[8]),([1,9,8],[1,9]),([0,1,2,3,4,5,6,7,8,9,10],[]),([11,10,10,0,1,2,3,4,5,6,7,8,9,10],[10,11])])
def locklessref03_Own.B5 : List Nat:=[0,1,0,0,8,0,56,120,252,508,1023,2047,4095]
theorem locklessref03_Own.tab5 : rtab .any (opsOf Try.f11 5) = locklessref03_Own.T5:=by kernel_rfl
theorem locklessref03_Own.bits5 : waitsOk locklessref03_Own.T5.2 locklessref03_Own.B5 = true:=by kernel_rfl
set_option maxHeartbeats 8000000 in
set_option maxRecDepth 100000 in
theorem locklessref03_Own.calls (k : Nat) (A0_0 : Option Addr) (c0_0 : Nat) (l0_0 : List (List (S44))) (r : List (List (S44))) (w : World) (hr0_0 : Kd.C (Kd.slice 44 k44) w A0_0 l0_0.length l0_0) (hc0_0 : l0_0.length ≤ c0_0) (h : locklessref03_Own.f k l0_0 = some r) :
 Calls Try.prog 11 #[.agg #[.slice A0_0 l0_0.length c0_0]] w fun e w'=>∃ v0_ : Value,e = .returned (.agg #[v0_]) ∧ Kd.S (Kd.slice 44 k44) 42 w' w.heap.size (fun _=>True) v0_ r ∧ Below w.heap.size w w':=by
 have hu24:=Try.underlying24
 have HR0_0:=Aside0.mk hr0_0
 have HC0_0:=Aside0.mk hc0_0
 clear hr0_0 hc0_0
 have HB:=Aside0.mk (Below.refl w.heap.size w)
 have H : (locklessref03_Own.l0 k 0 l0_0 ([] : List (List (S44)))) = some r:=h
 clear h
 have H':=Aside0.mk H
 clear H
 go_enter Try.func11,Try.ntmps11
 go_wp2_with (first|((with_reducible refine gate_dst (N:=1) rfl ?_);refine box_event ?hg (N:=1) ?hd (cs:=#[.slice A0_0 l0_0.length c0_0]) (t:=24) ?hr ?_;(case hd=>rfl);(case hg=>rfl);(case hr=>first|(go_simp;done)|(go_simp;rfl));intro gb138 hg w2 hbox hb;have zT:=two_ hb (by repeat (first|(with_reducible first|exact HB.out|apply below_alloc|apply pw_below_drewN|apply below_drew1)|exact HB.out));have n0_:=Aside0.mk zT.1;have n1_:=Aside0.mk (hbox);have n2_:=Aside0.mk ((by rw [hg];exact zT.2 : w.heap.size ≤ gb138));have n3_:=n2_;clear zT;clear HB;have HB:=n0_;have BK138:=n1_;have GW138:=n2_;have GE138:=n3_;clear n0_ n1_ n2_ n3_;clear hb hbox hg)|((with_reducible refine gate_dst (N:=2) rfl ?_);refine box_event ?hg (N:=2) ?hd (cs:=#[.slice none 0 0]) (t:=24) ?hr ?_;(case hd=>rfl);(case hg=>rfl);(case hr=>first|(go_simp;done)|(go_simp;rfl));intro gb139 hg w3 hbox hb;have zgb138:=bk_ hb (zb BK138.out);have n0_:=Aside0.mk zgb138.1;have zT:=two_ hb (by repeat (first|(with_reducible first|exact HB.out|apply below_alloc|apply pw_below_drewN|apply below_drew1|refine below_set ?_ GE138.out)|exact HB.out));have n1_:=Aside0.mk zT.1;have n2_:=Aside0.mk (hbox);have n3_:=Aside0.mk ((by rw [hg];exact zT.2 : w.heap.size ≤ gb139));have n4_:=n3_;have n5_:=Aside0.mk ((by rw [hg];exact zgb138.2 : gb138 ≠ gb139));have n6_:=Aside0.mk n5_.out.symm;clear zgb138 zT;clear BK138;clear HB;have BK138:=n0_;have HB:=n1_;have BK139:=n2_;have GW139:=n3_;have GE139:=n4_;have NB138_139:=n5_;have NB139_138:=n6_;clear n0_ n1_ n2_ n3_ n4_ n5_ n6_;clear hb hbox hg)|((with_reducible refine gate_dst (N:=3) rfl ?_);refine box_event ?hg (N:=3) ?hd (cs:=#[.slice none 0 0]) (t:=24) ?hr ?_;(case hd=>rfl);(case hg=>rfl);(case hr=>first|(go_simp;done)|(go_simp;rfl));intro gb140 hg w4 hbox hb;have zgb138:=bk_ hb (zb BK138.out);have n0_:=Aside0.mk zgb138.1;have zgb139:=bk_ hb (zb BK139.out);have n1_:=Aside0.mk zgb139.1;have zT:=two_ hb (by repeat (first|(with_reducible first|exact HB.out|apply below_alloc|apply pw_below_drewN|apply below_drew1|refine below_set ?_ GE138.out|refine below_set ?_ GE139.out)|exact HB.out));have n2_:=Aside0.mk zT.1;have n3_:=Aside0.mk (hbox);have n4_:=Aside0.mk ((by rw [hg];exact zT.2 : w.heap.size ≤ gb140));have n5_:=n4_;have n6_:=Aside0.mk ((by rw [hg];exact zgb138.2 : gb138 ≠ gb140));have n7_:=Aside0.mk n6_.out.symm;have n8_:=Aside0.mk ((by rw [hg];exact zgb139.2 : gb139 ≠ gb140));have n9_:=Aside0.mk n8_.out.symm;clear zgb138 zgb139 zT;clear BK138;clear BK139;clear HB;have BK138:=n0_;have BK139:=n1_;have HB:=n2_;have BK140:=n3_;have GW140:=n4_;have GE140:=n5_;have NB138_140:=n6_;have NB140_138:=n7_;have NB139_140:=n8_;have NB140_139:=n9_;clear n0_ n1_ n2_ n3_ n4_ n5_ n6_ n7_ n8_ n9_;clear hb hbox hg))
 go_loopg [4] k (fun kq v4 w'=>∃ (x4_1 : Int) (x141000_1 : List (List (S44))) (u141000 : Value),v4 = .int .i64 x4_1 ∧ Aside0 (locklessref03_Own.l0 kq x4_1 l0_0 x141000_1 = some r) ∧ Aside0 (kq ≤ k) ∧ Aside0 (Kd.S (Kd.slice 44 k44) 42 w' w.heap.size (fun _=>True) u141000 x141000_1) ∧ Aside0 (w'.heap[gb138]? = some (.cells #[(.slice A0_0 l0_0.length c0_0)] 24 (0,0))) ∧ Aside0 (w'.heap[gb139]? = some (.cells #[(.slice none 0 0)] 24 (0,0))) ∧ Aside0 (w'.heap[gb140]? = some (.cells #[u141000] 24 (0,0))) ∧ Aside0 (Below w.heap.size w w'))
 case atStart=>exact ⟨(0),(([] : List (List (S44)))),(.slice none 0 0),(by first|rfl|(simp;done)|(simp [*];done)),H',⟨Nat.le_refl _⟩,⟨by first|exact Kd.S_nil _ _ _ _ _|exact Kd.N_nil _ _ _ _ _|exact Kd.V_nil _ _ _ _ _|exact Kd.Q_nil _ _ _ _ _|exact Kd.R_nil _ _ _ _ _⟩,⟨by (with_reducible repeat (first|apply kN|apply kD|apply kA));exact BK138.out⟩,⟨by (with_reducible repeat (first|apply kN|apply kD|apply kA));exact BK139.out⟩,⟨by (with_reducible repeat (first|apply kN|apply kD|apply kA));exact BK140.out⟩,⟨by repeat (first|(with_reducible first|exact HB.out|apply below_alloc|apply pw_below_drewN|apply below_drew1|refine below_set ?_ GE138.out|refine below_set ?_ GE139.out|refine below_set ?_ GE140.out)|exact HB.out)⟩⟩
 case round=>
  clear H'
  (try clear c1);(try clear p2)
  obtain ⟨x4_1,x141000_1,u141000,rfl,HA,HK1,HO_141000,BK138,BK139,BK140,HB⟩:=hrel
  cases gk with
  | zero=>exact absurd HA.out (by simp [locklessref03_Own.l0])
  | succ k1=>
   have H:=HA.out
   clear HA
   simp only [locklessref03_Own.l0] at H
   by_cases c5 : x4_1 < (l0_0.length : Int)
   · rw [if_pos c5] at H
     have c5b0 : decide (x4_1 < (l0_0.length : Int)) = true:=decide_eq_true c5
     clear c5
     obtain ⟨y141,hy141⟩ : ∃ y_ : List (S44),y_ = (([] : List (S44))):=⟨_,rfl⟩
     replace H : (if 0 ≤ x4_1 then (if y141.length + (rd_L2 l0_0 x4_1).length < 3518437208883 then (if x141000_1.length < 5864062014805 then (locklessref03_Own.l0 k1 (wrap64 (x4_1 + 1)) l0_0 (x141000_1 ++ [(y141 ++ (rd_L2 l0_0 x4_1))])) else (none)) else (none)) else (none)) = some r:=by first|(rw [hy141];with_reducible exact H)|(have H2_:=(Option.bind_some _ _).symm.trans H;rw [hy141];with_reducible exact H2_)|(have H2_:=(Option.bind_some _ _).symm.trans H;with_reducible exact H2_)|with_reducible exact H|(rw [hy141];exact H)|exact H
     have Ny141:=Aside0.mk hy141
     clear hy141
     by_cases c6 : 0 ≤ x4_1
     · rw [if_pos c6] at H
       have c6b0 : decide (0 ≤ x4_1) = true:=decide_eq_true c6
       clear c6
       by_cases c7 : y141.length + (rd_L2 l0_0 x4_1).length < 3518437208883
       · rw [if_pos c7] at H
         have LMc7:=Aside0.mk c7
         clear c7
         obtain ⟨y145,hy145⟩ : ∃ y_ : List (S44),y_ = (y141 ++ (rd_L2 l0_0 x4_1)):=⟨_,rfl⟩
         replace H : (if x141000_1.length < 5864062014805 then (locklessref03_Own.l0 k1 (wrap64 (x4_1 + 1)) l0_0 (x141000_1 ++ [y145])) else (none)) = some r:=by first|(rw [hy145];with_reducible exact H)|(have H2_:=(Option.bind_some _ _).symm.trans H;rw [hy145];with_reducible exact H2_)|(have H2_:=(Option.bind_some _ _).symm.trans H;with_reducible exact H2_)|with_reducible exact H|(rw [hy145];exact H)|exact H
         have Ny145:=Aside0.mk hy145
         clear hy145
         by_cases c8 : x141000_1.length < 5864062014805
         · rw [if_pos c8] at H
           have LMc8:=Aside0.mk c8
           clear c8
           obtain ⟨y148,hy148⟩ : ∃ y_ : List (List (S44)),y_ = (x141000_1 ++ [y145]):=⟨_,rfl⟩
           replace H : (locklessref03_Own.l0 k1 (wrap64 (x4_1 + 1)) l0_0 y148) = some r:=by first|(rw [hy148];with_reducible exact H)|(have H2_:=(Option.bind_some _ _).symm.trans H;rw [hy148];with_reducible exact H2_)|(have H2_:=(Option.bind_some _ _).symm.trans H;with_reducible exact H2_)|with_reducible exact H|(rw [hy148];exact H)|exact H
           have Ny148:=Aside0.mk hy148
           clear hy148
           have H':=Aside0.mk H
           clear H
           have hnb9:=NB138_139.out
           have hnc9:=NB139_138.out
           have hnb10:=NB138_140.out
           have hnc10:=NB140_138.out
           have hcz11_0 : wr.cell? ⟨gb138,0,none⟩ = some (.slice A0_0 l0_0.length c0_0):=(blk_cell BK138.out 0).trans rfl
           have hfz11_0:=blk_frozen BK138.out 0
           try go_wp2
           have n0_:=Aside0.mk (Kd.S_drew HO_141000.out)
           have n1_:=Aside0.mk (blk_drew BK138.out)
           have n2_:=Aside0.mk (blk_drew BK139.out)
           have n3_:=Aside0.mk (blk_drew BK140.out)
           have n4_:=Aside0.mk (below_drew1 HB.out)
           clear HO_141000
           clear BK138
           clear BK139
           clear BK140
           clear HB
           have HO_141000:=n0_
           have BK138:=n1_
           have BK139:=n2_
           have BK140:=n3_
           have HB:=n4_
           clear n0_ n1_ n2_ n3_ n4_
           have p144 : 0 ≤ (x4_1 : Int):=of_decide_eq_true (by first|(with_reducible assumption)|assumption)
           have q144 : x4_1 < (l0_0.length : Int):=of_decide_eq_true (by first|(with_reducible assumption)|assumption)
           obtain ⟨ad144,A144_0,c144_0,e144,hx144_0,hl144_0,hi144_0⟩:=at_L2 HR0_0.out x4_1 p144 q144
           have hw144_0:=hx144_0
           cases e144
           replace hx144_0:=(HB.out.cell (World.block_lt_of_cell? w _ hx144_0)).trans hx144_0
           have HR144_0:=Aside0.mk hi144_0
           have HC144_0:=Aside0.mk hl144_0
           clear hi144_0 hl144_0
           replace p144:=eq_true p144
           replace q144:=eq_true q144
           refine start_ (n:=13) (S:=fun w'=>w'.cell? ⟨gb140,0,none⟩ = some (u141000) ∧ w'.cell? ⟨gb138,0,none⟩ = some (.slice (some ad144) l0_0.length c0_0) ∧ w'.cell? (ad144.add (x4_1).toNat) = some (.slice A144_0 (rd_L2 l0_0 x4_1).length c144_0)) (ds:=[12]) #[false,false,false,false,false,false,false,false,false,false,false,false,false] (by kernel_rfl) rfl rfl ⟨(blk_cell BK140.out 0).trans rfl,(blk_cell BK138.out 0).trans rfl,((HB.out.cell (World.block_lt_of_cell? w _ hw144_0)).trans hw144_0)⟩ (fun hHeld=>?_);refine with_tabW locklessref03_Own.tab5 locklessref03_Own.bits5 (fun HT_ HW_=>?_)
           generalize wr.drew = w12 at HO_141000 BK138 BK139 BK140 HB HR144_0 hx144_0 hHeld ⊢
           refine pure_ (i:=0) (N:=some 12) (v:=?_) (a':=?_) #[true,false,false,false,false,false,false,false,false,false,false,false,false] rfl rfl (any_of HT_.out (by kernel_rfl)) (fun _ _ _ h=>h) (Or.inl ⟨by rfl,?_⟩) ?_ ?_
           rotate_left
           · intro w'
             go_simp
             with_reducible rfl
           rotate_left
           · simp only [Act.put,List.setIfInBounds_toArray,List.set_cons_zero,List.set_cons_succ,i64_w,i32_w]
             rfl
           refine pure_ (i:=3) (N:=some 15) (v:=?_) (a':=?_) #[true,false,false,true,false,false,false,false,false,false,false,false,false] rfl rfl (any_of HT_.out (by kernel_rfl)) (fun _ _ _ h=>h) (Or.inl ⟨by rfl,?_⟩) ?_ ?_
           rotate_left
           · intro w'
             go_simp
             with_reducible rfl
           rotate_left
           · simp only [Act.put,List.setIfInBounds_toArray,List.set_cons_zero,List.set_cons_succ,i64_w,i32_w]
             rfl
           refine pure_ (i:=5) (N:=some 17) (v:=?_) (a':=?_) #[true,false,false,true,false,true,false,false,false,false,false,false,false] rfl rfl (any_of HT_.out (by kernel_rfl)) (fun _ _ _ h=>h) (Or.inl ⟨by rfl,?_⟩) ?_ ?_
           rotate_left
           · intro w'
             go_simp
             with_reducible rfl
           rotate_left
           · simp only [Act.put,List.setIfInBounds_toArray,List.set_cons_zero,List.set_cons_succ,i64_w,i32_w]
             rfl
           refine take_ (i:=1) (N:=some 13) (v:=?_) (a':=?_) #[true,true,false,true,false,true,false,false,false,false,false,false,false] rfl rfl (take_ofW HT_.out HW_.out (by kernel_rfl)) (fun _ _ _ h=>h) (Or.inl ⟨by rfl,?_⟩) hHeld ?_ ?_
           rotate_left
           · rintro w' ⟨s0,s1,s2⟩
             go_simp
             with_reducible rfl
           rotate_left
           · simp only [Act.put,List.setIfInBounds_toArray,List.set_cons_zero,List.set_cons_succ,i64_w,i32_w]
             rfl
           refine take_ (i:=4) (N:=some 16) (v:=?_) (a':=?_) #[true,true,false,true,true,true,false,false,false,false,false,false,false] rfl rfl (take_ofW HT_.out HW_.out (by kernel_rfl)) (fun _ _ _ h=>h) (Or.inl ⟨by rfl,?_⟩) hHeld ?_ ?_
           rotate_left
           · rintro w' ⟨s0,s1,s2⟩
             go_simp
             with_reducible rfl
           rotate_left
           · simp only [Act.put,List.setIfInBounds_toArray,List.set_cons_zero,List.set_cons_succ,i64_w,i32_w]
             rfl
           refine pure_ (i:=6) (N:=some 18) (v:=?_) (a':=?_) #[true,true,false,true,true,true,true,false,false,false,false,false,false] rfl rfl (any_of HT_.out (by kernel_rfl)) (fun _ _ _ h=>h) (Or.inl ⟨by rfl,?_⟩) ?_ ?_
           rotate_left
           · intro w'
             go_simp
             with_reducible rfl
           rotate_left
           · simp only [Act.put,List.setIfInBounds_toArray,List.set_cons_zero,List.set_cons_succ,i64_w,i32_w]
             rfl
           refine take_ (i:=7) (N:=some 19) (v:=?_) (a':=?_) #[true,true,false,true,true,true,true,true,false,false,false,false,false] rfl rfl (take_ofW HT_.out HW_.out (by kernel_rfl)) (fun _ _ _ h=>h) (Or.inl ⟨by rfl,?_⟩) hHeld ?_ ?_
           rotate_left
           · rintro w' ⟨s0,s1,s2⟩
             go_simp
             with_reducible rfl
           rotate_left
           · simp only [Act.put,List.setIfInBounds_toArray,List.set_cons_zero,List.set_cons_succ,i64_w,i32_w]
             rfl
           refine one_ (i:=2) (N:=some 14) #[true,true,true,true,true,true,true,true,false,false,false,false,false] rfl rfl (one_of HT_.out (by kernel_rfl)) (by decide) (fun K hK=>?_)
           refine Kd.R_lit_step k44 _ 44 ?hg (N:=14) ?hd (xs:=([] : List (S44))) (inner:=[]) (ok:=fun _=>True) (okp:=fun _=>True) ?hr ?hp (fun _ hk=>hk) trivial (Below.refl _ _) (Nat.le_refl _) (by simp) ?_;(case hd=>rfl);(case hg=>rfl);(case hr=>first|(go_simp;done)|(go_simp;rfl));(case hp=>exact (Reps.none _ _))
           intro v142 w13 ho14 hb hg_ hnew_
           clear hg_ hnew_
           (first|rw [← Ny141.out] at ho14|(simp only [Int.reduceToNat] at ho14;rw [← Ny141.out] at ho14))
           have n0_:=Aside0.mk (Kd.S_elder' (by (with_reducible repeat (first|apply Kd.S_alloc|apply Kd.S_drewN|apply Kd.S_drew));exact HO_141000.out) (Kd.R_base ho14) hb)
           have n1_:=Aside0.mk (Kd.R_lower ho14 (below_size (by repeat (first|(with_reducible first|exact HB.out|apply below_alloc|apply pw_below_drewN|apply below_drew1|refine below_set ?_ GE138.out|refine below_set ?_ GE139.out|refine below_set ?_ GE140.out)|exact HB.out))))
           have n2_:=Aside0.mk (blk_below (zb BK138.out) hb)
           have n3_:=Aside0.mk (blk_below (zb BK139.out) hb)
           have n4_:=Aside0.mk (blk_below (zb BK140.out) hb)
           have n5_:=Aside0.mk (below_step (by repeat (first|(with_reducible first|exact HB.out|apply below_alloc|apply pw_below_drewN|apply below_drew1|refine below_set ?_ GE138.out|refine below_set ?_ GE139.out|refine below_set ?_ GE140.out)|exact HB.out)) hb)
           clear HO_141000
           clear BK138
           clear BK139
           clear BK140
           clear HB
           have HO_141000:=n0_
           have HO143:=n1_
           have BK138:=n2_
           have BK139:=n3_
           have BK140:=n4_
           have HB:=n5_
           clear n0_ n1_ n2_ n3_ n4_ n5_
           clear hb ho14
           refine hK.out _ _ ⟨(blk_cell BK140.out 0).trans rfl,(blk_cell BK138.out 0).trans rfl,((HB.out.cell (World.block_lt_of_cell? w _ hw144_0)).trans hw144_0)⟩ (fun hHeld=>?_)
           clear hK K
           refine norm_ (a':=?_) ?_ ?_
           rotate_left
           · show Act.put _ (some 14) _ = _
             simp only [Act.put,List.setIfInBounds_toArray,List.set_cons_zero,List.set_cons_succ,i64_w,i32_w]
             rfl
           refine one_ (i:=8) (N:=some 20) #[true,true,true,true,true,true,true,true,true,false,false,false,false] rfl rfl (one_of HT_.out (by kernel_rfl)) (by decide) (fun K hK=>?_)
           refine Kd.R_append_rows_step k44 (w0:=w) w.heap.size (by rfl) (.tmp 14) (.tmp 19) 42 44 (.agg #[(.int .i64 0),(.int .i64 0),(.int .i64 0),(.int .i64 0),(.int .i64 0)]) 40 rfl Try.underlying42 info44 rfl (by decide) (by omega) v142 y141 (rd_L2 l0_0 x4_1) _ _ _ (fun _=>True) (fun _=>False) rfl rfl ?aO ?aR (fun _ _ h=>h) (fun _ h=>h.elim) ?aF ?aB ?aS ?aL ?_
           (case aR=>repeat (first|exact (Kd.C_below HR144_0.out HB.out)|(with_reducible refine Kd.C_alloc ?_ _)|(with_reducible refine Kd.C_drewN ?_ _)|(with_reducible refine Kd.C_drew ?_)))
           (case aB=>exact (by repeat (first|(with_reducible first|exact HB.out|apply below_alloc|apply pw_below_drewN|apply below_drew1|refine below_set ?_ GE138.out|refine below_set ?_ GE139.out|refine below_set ?_ GE140.out)|exact HB.out)))
           (case aF=>exact (fun _ _=>trivial))
           (case aO=>exact (by (with_reducible repeat (first|apply Kd.R_alloc|apply Kd.R_drewN|apply Kd.R_drew));exact HO143.out))
           (case aS=>exact (below_size (by repeat (first|(with_reducible first|exact HB.out|apply below_alloc|apply pw_below_drewN|apply below_drew1|refine below_set ?_ GE138.out|refine below_set ?_ GE139.out|refine below_set ?_ GE140.out)|exact HB.out))))
           (case aL=>have:=LMc7.out;omega)
           intro v146 w15 ho hb hg hat
           rw [← Ny145.out] at ho
           have n0_:=Aside0.mk (Kd.S_after (ok:=(fun _=>True)) (by (with_reducible repeat (first|apply Kd.S_alloc|apply Kd.S_drewN|apply Kd.S_drew));exact HO_141000.out) hg hat)
           have n1_:=Aside0.mk (blk_grown (g:=gb138) (o:=.cells #[.slice (some ad144) l0_0.length c0_0] 24 (0,0)) (zb BK138.out) hg (Kd.R_ne HO143.out BK138.out (by decide)))
           have n2_:=Aside0.mk (blk_grown (g:=gb139) (o:=.cells #[.slice none 0 0] 24 (0,0)) (zb BK139.out) hg (Kd.R_ne HO143.out BK139.out (by decide)))
           have n3_:=Aside0.mk (blk_grown (g:=gb140) (o:=.cells #[u141000] 24 (0,0)) (zb BK140.out) hg (Kd.R_ne HO143.out BK140.out (by decide)))
           have n4_:=Aside0.mk (hb)
           have n5_:=Aside0.mk (ho)
           clear HO_141000
           clear BK138
           clear BK139
           clear BK140
           clear HB
           clear HO143
           have HO_141000:=n0_
           have BK138:=n1_
           have BK139:=n2_
           have BK140:=n3_
           have HB:=n4_
           have HO147:=n5_
           clear n0_ n1_ n2_ n3_ n4_ n5_
           clear ho hb hg hat
           obtain ⟨Ao17,co17,eo17⟩:=Kd.R_slice HO147.out
           (first|subst eo17|(injection eo17 with f1_ f2_ f3_;have f4_:=f1_.symm;have f5_:=f3_.symm;clear f1_ f2_ f3_;subst f4_;subst f5_))
           refine hK.out _ _ ⟨(blk_cell BK140.out 0).trans rfl,(blk_cell BK138.out 0).trans rfl,((HB.out.cell (World.block_lt_of_cell? w _ hw144_0)).trans hw144_0)⟩ (fun hHeld=>?_)
           clear hK K
           refine norm_ (a':=?_) ?_ ?_
           rotate_left
           · show Act.put _ (some 20) _ = _
             simp only [Act.put,List.setIfInBounds_toArray,List.set_cons_zero,List.set_cons_succ,i64_w,i32_w]
             rfl
           refine one_ (i:=9) (N:=some 21) #[true,true,true,true,true,true,true,true,true,true,false,false,false] rfl rfl (one_of HT_.out (by kernel_rfl)) (by decide) (fun K hK=>?_)
           refine value_ (w1:=?_) (v:=?_) (by rfl) rfl ?_ ?_
           rotate_left 2
           · go_simp
             constructor
             · rfl
             · rfl
           refine hK.out _ _ ⟨(blk_cell (blk_alloc BK140.out _) 0).trans rfl,(blk_cell (blk_alloc BK138.out _) 0).trans rfl,(World.cell?_alloc_lt _ _ _ (World.block_lt_of_cell? _ _ (((HB.out.cell (World.block_lt_of_cell? w _ hw144_0)).trans hw144_0)))).trans (((HB.out.cell (World.block_lt_of_cell? w _ hw144_0)).trans hw144_0))⟩ (fun hHeld=>?_)
           clear hK K
           refine norm_ (a':=?_) ?_ ?_
           rotate_left
           · show Act.put _ (some 21) _ = _
             simp only [Act.put,List.setIfInBounds_toArray,List.set_cons_zero,List.set_cons_succ,i64_w,i32_w]
             rfl
           refine one_ (i:=10) (N:=some 22) #[true,true,true,true,true,true,true,true,true,true,true,false,false] rfl rfl (one_of HT_.out (by kernel_rfl)) (by decide) (fun K hK=>?_)
           refine Kd.S_append_step (Kd.slice 44 k44) (w0:=w) w.heap.size (by rfl) (.tmp 13) (.tmp 21) 22 42 (.slice none 0 0) 24 rfl Try.underlying22 info42 rfl (by decide) (by omega) u141000 x141000_1 y145 [.slice Ao17 y145.length co17] (fun _=>True) (fun k_=>some k_ = (.slice Ao17 y145.length co17 : Value).ownBlock) rfl rfl ?aP (fun k_ hk_=>((Kd.R_mono (ok':=fun k_=>((fun _=>True)) k_ ∧ some k_ ≠ (u141000 : Value).ownBlock) (Kd.R_apart' (HO147.out) (Kd.S_typed HO_141000.out) (by decide)) (fun k_ hk=>⟨trivial,hk.2⟩))).1 k_ hk_.symm) ?aF ?aO ?aB ?aS ?aL ?_
           (case aP=>exact Kd.M_row (Kd.R_mono (Kd.R_tight rfl (Kd.R_mono (ok':=fun k_=>((fun _=>True)) k_ ∧ some k_ ≠ (u141000 : Value).ownBlock) (Kd.R_apart' (HO147.out) (Kd.S_typed HO_141000.out) (by decide)) (fun k_ hk=>⟨trivial,hk.2⟩))) (fun _ h_=>h_)))
           (case aB=>exact (by repeat (first|(with_reducible first|exact HB.out|apply below_alloc|apply pw_below_drewN|apply below_drew1|refine below_set ?_ GE138.out|refine below_set ?_ GE139.out|refine below_set ?_ GE140.out)|exact HB.out)))
           (case aF=>exact (fun _ _=>trivial))
           (case aO=>exact (by (with_reducible repeat (first|apply Kd.S_alloc|apply Kd.S_drewN|apply Kd.S_drew));exact Kd.S_mono HO_141000.out (fun k_ hk=>⟨trivial,fun e_=>hk.2 e_⟩)))
           (case aS=>exact (below_size (by repeat (first|(with_reducible first|exact HB.out|apply below_alloc|apply pw_below_drewN|apply below_drew1|refine below_set ?_ GE138.out|refine below_set ?_ GE139.out|refine below_set ?_ GE140.out)|exact HB.out))))
           (case aL=>have:=LMc8.out;omega)
           intro v149 w16 ho hb hg hat
           rw [← Ny148.out] at ho
           have n0_:=Aside0.mk (blk_grown (g:=gb138) (o:=.cells #[.slice (some ad144) l0_0.length c0_0] 24 (0,0)) (zb BK138.out) hg (Kd.S_ne HO_141000.out BK138.out (by decide)))
           have n1_:=Aside0.mk (blk_grown (g:=gb139) (o:=.cells #[.slice none 0 0] 24 (0,0)) (zb BK139.out) hg (Kd.S_ne HO_141000.out BK139.out (by decide)))
           have n2_:=Aside0.mk (blk_grown (g:=gb140) (o:=.cells #[u141000] 24 (0,0)) (zb BK140.out) hg (Kd.S_ne HO_141000.out BK140.out (by decide)))
           have n3_:=Aside0.mk (hb)
           have n4_:=Aside0.mk (ho)
           clear BK138
           clear BK139
           clear BK140
           clear HB
           clear HO_141000
           clear HO147
           have BK138:=n0_
           have BK139:=n1_
           have BK140:=n2_
           have HB:=n3_
           have HO150:=n4_
           clear n0_ n1_ n2_ n3_ n4_
           clear ho hb hg hat
           obtain ⟨Ao18,co18,eo18⟩:=Kd.S_slice HO150.out
           (first|subst eo18|(injection eo18 with f1_ f2_ f3_;have f4_:=f1_.symm;have f5_:=f3_.symm;clear f1_ f2_ f3_;subst f4_;subst f5_))
           refine hK.out _ _ ⟨(blk_cell BK140.out 0).trans rfl,(blk_cell BK138.out 0).trans rfl,((HB.out.cell (World.block_lt_of_cell? w _ hw144_0)).trans hw144_0)⟩ (fun hHeld=>?_)
           clear hK K
           refine norm_ (a':=?_) ?_ ?_
           rotate_left
           · show Act.put _ (some 22) _ = _
             simp only [Act.put,List.setIfInBounds_toArray,List.set_cons_zero,List.set_cons_succ,i64_w,i32_w]
             rfl
           refine pure_ (i:=11) (N:=some 23) (v:=?_) (a':=?_) #[true,true,true,true,true,true,true,true,true,true,true,true,false] rfl rfl (any_of HT_.out (by kernel_rfl)) (fun _ _ _ h=>h) (Or.inl ⟨by rfl,?_⟩) ?_ ?_
           rotate_left
           · intro w'
             go_simp
             with_reducible rfl
           rotate_left
           · simp only [Act.put,List.setIfInBounds_toArray,List.set_cons_zero,List.set_cons_succ,i64_w,i32_w]
             rfl
           refine last_ (i:=12) (N:=none) #[true,true,true,true,true,true,true,true,true,true,true,true,true] rfl rfl (one_of HT_.out (by kernel_rfl)) (by decide) (fun K hK=>?_)
           have hs19 : w16.cell? ⟨gb140,0,none⟩ = some (u141000):=(blk_cell BK140.out 0).trans rfl
           have hfs19:=blk_frozen BK140.out 0
           have hns19_0:=NB138_140.out
           have hns19_1:=NB139_140.out
           have hms19_0:=NB140_138.out
           have hms19_1:=NB140_139.out
           refine skip_ (w1:=?_) (by rfl) rfl ?_ ?_
           rotate_left
           · go_simp
             rfl
           refine hK.out _ _ ?_
           clear hK K
           refine done_ (done_of HT_.out (by kernel_rfl)) ?_
           try go_wp2
           go_roundg k1
           case measure=>have:=HK1.out;omega
           case rel=>exact ⟨(wrap64 (x4_1 + 1)),(y148),(.slice Ao18 y148.length co18),(by first|rfl|(simp;done)|(simp [*];done)),H',⟨by have:=HK1.out;omega⟩,⟨by (with_reducible repeat (first|apply Kd.S_alloc|apply Kd.S_drewN|apply Kd.S_drew));exact Kd.S_mono (Kd.S_far (p:=⟨gb140,0,none⟩) (Kd.S_types HO150.out BK140.out (by decide)) (fun _ hk=>hk.2) (.slice Ao18 y148.length co18)) (fun _ hk=>trivial)⟩,⟨by (with_reducible repeat (first|apply kN|apply kD|apply kA));refine blk_far ?_ NB138_140.out _;(with_reducible repeat (first|apply kN|apply kD|apply kA));exact BK138.out⟩,⟨by (with_reducible repeat (first|apply kN|apply kD|apply kA));refine blk_far ?_ NB139_140.out _;(with_reducible repeat (first|apply kN|apply kD|apply kA));exact BK139.out⟩,⟨by (with_reducible repeat (first|apply kN|apply kD|apply kA));refine blk_put (cs:=#[u141000]) ?_ 0 _ rfl;(with_reducible repeat (first|apply kN|apply kD|apply kA));exact BK140.out⟩,⟨by repeat (first|(with_reducible first|exact HB.out|apply below_alloc|apply pw_below_drewN|apply below_drew1|refine below_set ?_ GE138.out|refine below_set ?_ GE139.out|refine below_set ?_ GE140.out)|exact HB.out)⟩⟩
         · rw [if_neg c8] at H
           exact absurd H (by simp)
       · rw [if_neg c7] at H
         exact absurd H (by simp)
     · rw [if_neg c6] at H
       exact absurd H (by simp)
   · rw [if_neg c5] at H
     have c5b0 : decide (x4_1 < (l0_0.length : Int)) = false:=decide_eq_false c5
     clear c5
     obtain rfl:=Option.some.inj H
     have hnb20:=NB138_139.out
     have hnc20:=NB139_138.out
     have hnb21:=NB138_140.out
     have hnc21:=NB140_138.out
     have hcz22_0 : wr.cell? ⟨gb138,0,none⟩ = some (.slice A0_0 l0_0.length c0_0):=(blk_cell BK138.out 0).trans rfl
     have hfz22_0:=blk_frozen BK138.out 0
     have hnb23:=NB140_139.out
     have hnc23:=NB139_140.out
     have hcz24_0 : wr.cell? ⟨gb140,0,none⟩ = some (u141000):=(blk_cell BK140.out 0).trans rfl
     have hfz24_0:=blk_frozen BK140.out 0
     obtain ⟨Ao25,co25,eo25⟩:=Kd.S_slice HO_141000.out
     subst eo25
     have hcz26_0 : wr.cell? ⟨gb139,0,none⟩ = some (.slice none 0 0):=(blk_cell BK139.out 0).trans rfl
     have hfz26_0:=blk_frozen BK139.out 0
     go_wp2
     refine bodyPost_ret (results_cell_row rfl _ _ gb139 24 #[.slice Ao25 x141000_1.length co25] (0,0) _ rfl (by (with_reducible repeat (first|apply kN|apply kD|apply kA));refine blk_put (cs:=#[.slice none 0 0]) ?_ 0 _ rfl;(with_reducible repeat (first|apply kN|apply kD|apply kA));exact BK139.out) Try.underlying24 rfl (by kernel_rfl)) rfl ?_
     exact ⟨_,by first|rfl|(simp [errW_none,errW_some] <;> rfl)|(simp [*,errW_none,errW_some] <;> rfl),by (with_reducible repeat (first|apply Kd.S_alloc|apply Kd.S_drewN|apply Kd.S_drew));exact Kd.S_mono (Kd.S_far (p:=⟨gb139,0,none⟩) (Kd.S_types HO_141000.out BK139.out (by decide)) (fun _ hk=>hk.2) (.slice Ao25 x141000_1.length co25)) (fun _ hk=>trivial),by repeat (first|(with_reducible first|exact HB.out|apply below_alloc|apply pw_below_drewN|apply below_drew1|refine below_set ?_ GE138.out|refine below_set ?_ GE139.out|refine below_set ?_ GE140.out)|exact HB.out)⟩
mutual
def locklessref03_Same.l0 : Nat → Int → List (List (S44)) → List (List (S44)) → Option (Bool)
 | 0,_,_,_=>none
 | k + 1,x5,x152000,x153000=>if x5 < (x152000.length : Int) then (if 0 ≤ x5 then (if x5 < (x153000.length : Int) then (if ((rd_L2 x152000 x5).length : Int) = ((rd_L2 x153000 x5).length : Int) then (locklessref03_Same.l1 k x5 0 x152000 x153000) else (some false)) else (none)) else (none)) else (some true)
def locklessref03_Same.l1 : Nat → Int → Int → List (List (S44)) → List (List (S44)) → Option (Bool)
 | 0,_,_,_,_=>none
 | k + 1,x5,x6,x152000,x153000=>if 0 ≤ x5 then (if x5 < (x152000.length : Int) then (if x6 < ((rd_L2 x152000 x5).length : Int) then (if 0 ≤ x6 then (if x5 < (x153000.length : Int) then (if x6 < ((rd_L2 x153000 x5).length : Int) then (if (!(((rd_T44 (rd_L2 x152000 x5) x6).f0) == ((rd_T44 (rd_L2 x153000 x5) x6).f0)) || (!(((rd_T44 (rd_L2 x152000 x5) x6).f1) == ((rd_T44 (rd_L2 x153000 x5) x6).f1)) || (!(((rd_T44 (rd_L2 x152000 x5) x6).f2) == ((rd_T44 (rd_L2 x153000 x5) x6).f2)) || (!(((rd_T44 (rd_L2 x152000 x5) x6).f3) == ((rd_T44 (rd_L2 x153000 x5) x6).f3)) || (!(((rd_T44 (rd_L2 x152000 x5) x6).f4) == ((rd_T44 (rd_L2 x153000 x5) x6).f4))))))) = true then (some false) else (locklessref03_Same.l1 k x5 (wrap64 (x6 + 1)) x152000 x153000)) else (none)) else (none)) else (none)) else (locklessref03_Same.l0 k (wrap64 (x5 + 1)) x152000 x153000)) else (none)) else (none)
end
def locklessref03_Same.f (k : Nat) (l0_0 : List (List (S44))) (l1_0 : List (List (S44))) : Option (Bool):=if (l0_0.length : Int) = (l1_0.length : Int) then (locklessref03_Same.l0 k 0 l0_0 l1_0) else (some false)
set_option maxHeartbeats 8000000 in
set_option maxRecDepth 100000 in
theorem locklessref03_Same.calls (k : Nat) (A0_0 : Option Addr) (c0_0 : Nat) (l0_0 : List (List (S44))) (A1_0 : Option Addr) (c1_0 : Nat) (l1_0 : List (List (S44))) (r : Bool) (w : World) (hr0_0 : Kd.C (Kd.slice 44 k44) w A0_0 l0_0.length l0_0) (hc0_0 : l0_0.length ≤ c0_0) (hr1_0 : Kd.C (Kd.slice 44 k44) w A1_0 l1_0.length l1_0) (hc1_0 : l1_0.length ≤ c1_0) (h : locklessref03_Same.f k l0_0 l1_0 = some r) :
 Calls Try.prog 16 #[.agg #[.slice A0_0 l0_0.length c0_0],.agg #[.slice A1_0 l1_0.length c1_0]] w fun e w'=>e = .returned (.bool r) ∧ Below w.heap.size w w':=by
 have hu24:=Try.underlying24
 have hu44:=Try.underlying44
 have HR0_0:=Aside0.mk hr0_0
 have HC0_0:=Aside0.mk hc0_0
 clear hr0_0 hc0_0
 have HR1_0:=Aside0.mk hr1_0
 have HC1_0:=Aside0.mk hc1_0
 clear hr1_0 hc1_0
 have HB:=Aside0.mk (Below.refl w.heap.size w)
 have H : (if (l0_0.length : Int) = (l1_0.length : Int) then (locklessref03_Same.l0 k 0 l0_0 l1_0) else (some false)) = some r:=h
 clear h
 by_cases c3 : (l0_0.length : Int) = (l1_0.length : Int)
 · rw [if_pos c3] at H
   have c3b0 : ((l0_0.length : Int) == (l1_0.length : Int)) = true:=beq_iff_eq.mpr c3
   have c3b1 : ((l0_0.length : Int) != (l1_0.length : Int)) = false:=bne_eq_false_iff_eq.mpr c3
   have c3b2 : (l0_0.length == l1_0.length) = true:=by first|simpa using c3|(simp at c3 ⊢;omega)
   clear c3
   have H':=Aside0.mk H
   clear H
   go_enter Try.func16,Try.ntmps16
   go_wp2_with (first|((with_reducible refine gate_dst (N:=2) rfl ?_);refine box_event ?hg (N:=2) ?hd (cs:=#[.slice A0_0 l0_0.length c0_0]) (t:=24) ?hr ?_;(case hd=>rfl);(case hg=>rfl);(case hr=>first|(go_simp;done)|(go_simp;rfl));intro gb151 hg w4 hbox hb;have zT:=two_ hb (by repeat (first|(with_reducible first|exact HB.out|apply below_alloc|apply pw_below_drewN|apply below_drew1)|exact HB.out));have n0_:=Aside0.mk zT.1;have n1_:=Aside0.mk (hbox);have n2_:=Aside0.mk ((by rw [hg];exact zT.2 : w.heap.size ≤ gb151));have n3_:=n2_;clear zT;clear HB;have HB:=n0_;have BK151:=n1_;have GW151:=n2_;have GE151:=n3_;clear n0_ n1_ n2_ n3_;clear hb hbox hg)|((with_reducible refine gate_dst (N:=3) rfl ?_);refine box_event ?hg (N:=3) ?hd (cs:=#[.slice A1_0 l1_0.length c1_0]) (t:=24) ?hr ?_;(case hd=>rfl);(case hg=>rfl);(case hr=>first|(go_simp;done)|(go_simp;rfl));intro gb152 hg w5 hbox hb;have zgb151:=bk_ hb (zb BK151.out);have n0_:=Aside0.mk zgb151.1;have zT:=two_ hb (by repeat (first|(with_reducible first|exact HB.out|apply below_alloc|apply pw_below_drewN|apply below_drew1|refine below_set ?_ GE151.out)|exact HB.out));have n1_:=Aside0.mk zT.1;have n2_:=Aside0.mk (hbox);have n3_:=Aside0.mk ((by rw [hg];exact zT.2 : w.heap.size ≤ gb152));have n4_:=n3_;have n5_:=Aside0.mk ((by rw [hg];exact zgb151.2 : gb151 ≠ gb152));have n6_:=Aside0.mk n5_.out.symm;clear zgb151 zT;clear BK151;clear HB;have BK151:=n0_;have HB:=n1_;have BK152:=n2_;have GW152:=n3_;have GE152:=n4_;have NB151_152:=n5_;have NB152_151:=n6_;clear n0_ n1_ n2_ n3_ n4_ n5_ n6_;clear hb hbox hg;have hnb6:=NB151_152.out;have hnc6:=NB152_151.out;have hcz7_0 : w5.cell? ⟨gb151,0,none⟩ = some (.slice A0_0 l0_0.length c0_0):=(blk_cell BK151.out 0).trans rfl;have hfz7_0:=blk_frozen BK151.out 0;have hcz8_0 : w5.cell? ⟨gb152,0,none⟩ = some (.slice A1_0 l1_0.length c1_0):=(blk_cell BK152.out 0).trans rfl;have hfz8_0:=blk_frozen BK152.out 0))
   repeat (go_quiet (first|((with_reducible refine gate_dst (N:=2) rfl ?_);refine box_event ?hg (N:=2) ?hd (cs:=#[.slice A0_0 l0_0.length c0_0]) (t:=24) ?hr ?_;(case hd=>rfl);(case hg=>rfl);(case hr=>first|(go_simp;done)|(go_simp;rfl));intro gb151 hg w4 hbox hb;have zT:=two_ hb (by repeat (first|(with_reducible first|exact HB.out|apply below_alloc|apply pw_below_drewN|apply below_drew1)|exact HB.out));have n0_:=Aside0.mk zT.1;have n1_:=Aside0.mk (hbox);have n2_:=Aside0.mk ((by rw [hg];exact zT.2 : w.heap.size ≤ gb151));have n3_:=n2_;clear zT;clear HB;have HB:=n0_;have BK151:=n1_;have GW151:=n2_;have GE151:=n3_;clear n0_ n1_ n2_ n3_;clear hb hbox hg)|((with_reducible refine gate_dst (N:=3) rfl ?_);refine box_event ?hg (N:=3) ?hd (cs:=#[.slice A1_0 l1_0.length c1_0]) (t:=24) ?hr ?_;(case hd=>rfl);(case hg=>rfl);(case hr=>first|(go_simp;done)|(go_simp;rfl));intro gb152 hg w5 hbox hb;have zgb151:=bk_ hb (zb BK151.out);have n0_:=Aside0.mk zgb151.1;have zT:=two_ hb (by repeat (first|(with_reducible first|exact HB.out|apply below_alloc|apply pw_below_drewN|apply below_drew1|refine below_set ?_ GE151.out)|exact HB.out));have n1_:=Aside0.mk zT.1;have n2_:=Aside0.mk (hbox);have n3_:=Aside0.mk ((by rw [hg];exact zT.2 : w.heap.size ≤ gb152));have n4_:=n3_;have n5_:=Aside0.mk ((by rw [hg];exact zgb151.2 : gb151 ≠ gb152));have n6_:=Aside0.mk n5_.out.symm;clear zgb151 zT;clear BK151;clear HB;have BK151:=n0_;have HB:=n1_;have BK152:=n2_;have GW152:=n3_;have GE152:=n4_;have NB151_152:=n5_;have NB152_151:=n6_;clear n0_ n1_ n2_ n3_ n4_ n5_ n6_;clear hb hbox hg;have hnb6:=NB151_152.out;have hnc6:=NB152_151.out;have hcz7_0 : w5.cell? ⟨gb151,0,none⟩ = some (.slice A0_0 l0_0.length c0_0):=(blk_cell BK151.out 0).trans rfl;have hfz7_0:=blk_frozen BK151.out 0;have hcz8_0 : w5.cell? ⟨gb152,0,none⟩ = some (.slice A1_0 l1_0.length c1_0):=(blk_cell BK152.out 0).trans rfl;have hfz8_0:=blk_frozen BK152.out 0));try go_wp2_with (first|((with_reducible refine gate_dst (N:=2) rfl ?_);refine box_event ?hg (N:=2) ?hd (cs:=#[.slice A0_0 l0_0.length c0_0]) (t:=24) ?hr ?_;(case hd=>rfl);(case hg=>rfl);(case hr=>first|(go_simp;done)|(go_simp;rfl));intro gb151 hg w4 hbox hb;have zT:=two_ hb (by repeat (first|(with_reducible first|exact HB.out|apply below_alloc|apply pw_below_drewN|apply below_drew1)|exact HB.out));have n0_:=Aside0.mk zT.1;have n1_:=Aside0.mk (hbox);have n2_:=Aside0.mk ((by rw [hg];exact zT.2 : w.heap.size ≤ gb151));have n3_:=n2_;clear zT;clear HB;have HB:=n0_;have BK151:=n1_;have GW151:=n2_;have GE151:=n3_;clear n0_ n1_ n2_ n3_;clear hb hbox hg)|((with_reducible refine gate_dst (N:=3) rfl ?_);refine box_event ?hg (N:=3) ?hd (cs:=#[.slice A1_0 l1_0.length c1_0]) (t:=24) ?hr ?_;(case hd=>rfl);(case hg=>rfl);(case hr=>first|(go_simp;done)|(go_simp;rfl));intro gb152 hg w5 hbox hb;have zgb151:=bk_ hb (zb BK151.out);have n0_:=Aside0.mk zgb151.1;have zT:=two_ hb (by repeat (first|(with_reducible first|exact HB.out|apply below_alloc|apply pw_below_drewN|apply below_drew1|refine below_set ?_ GE151.out)|exact HB.out));have n1_:=Aside0.mk zT.1;have n2_:=Aside0.mk (hbox);have n3_:=Aside0.mk ((by rw [hg];exact zT.2 : w.heap.size ≤ gb152));have n4_:=n3_;have n5_:=Aside0.mk ((by rw [hg];exact zgb151.2 : gb151 ≠ gb152));have n6_:=Aside0.mk n5_.out.symm;clear zgb151 zT;clear BK151;clear HB;have BK151:=n0_;have HB:=n1_;have BK152:=n2_;have GW152:=n3_;have GE152:=n4_;have NB151_152:=n5_;have NB152_151:=n6_;clear n0_ n1_ n2_ n3_ n4_ n5_ n6_;clear hb hbox hg;have hnb6:=NB151_152.out;have hnc6:=NB152_151.out;have hcz7_0 : w5.cell? ⟨gb151,0,none⟩ = some (.slice A0_0 l0_0.length c0_0):=(blk_cell BK151.out 0).trans rfl;have hfz7_0:=blk_frozen BK151.out 0;have hcz8_0 : w5.cell? ⟨gb152,0,none⟩ = some (.slice A1_0 l1_0.length c1_0):=(blk_cell BK152.out 0).trans rfl;have hfz8_0:=blk_frozen BK152.out 0)))
   go_loopg [5] k (fun kq v5 w'=>∃ (x5_1 : Int),v5 = .int .i64 x5_1 ∧ Aside0 (locklessref03_Same.l0 kq x5_1 l0_0 l1_0 = some r) ∧ Aside0 (kq ≤ k) ∧ Aside0 (w'.heap[gb151]? = some (.cells #[(.slice A0_0 l0_0.length c0_0)] 24 (0,0))) ∧ Aside0 (w'.heap[gb152]? = some (.cells #[(.slice A1_0 l1_0.length c1_0)] 24 (0,0))) ∧ Aside0 (Below w.heap.size w w'))
   case atStart=>exact ⟨(0),(by first|rfl|(simp;done)|(simp [*];done)),H',⟨Nat.le_refl _⟩,⟨by (with_reducible repeat (first|apply kN|apply kD|apply kA));exact BK151.out⟩,⟨by (with_reducible repeat (first|apply kN|apply kD|apply kA));exact BK152.out⟩,⟨by repeat (first|(with_reducible first|exact HB.out|apply below_alloc|apply pw_below_drewN|apply below_drew1|refine below_set ?_ GE151.out|refine below_set ?_ GE152.out)|exact HB.out)⟩⟩
   case round=>
    clear H'
    (try clear c1);(try clear p2);(try clear c3);(try clear c3b0);(try clear c3b1);(try clear c3b2);(try clear c6);(try clear hcz7_0);(try clear hcz8_0);(try clear hfz7_0);(try clear hfz8_0)
    obtain ⟨x5_1,rfl,HA,HK1,BK151,BK152,HB⟩:=hrel
    cases gk with
    | zero=>exact absurd HA.out (by simp [locklessref03_Same.l0])
    | succ k1=>
     have H:=HA.out
     clear HA
     simp only [locklessref03_Same.l0] at H
     by_cases c9 : x5_1 < (l0_0.length : Int)
     · rw [if_pos c9] at H
       have c9b0 : decide (x5_1 < (l0_0.length : Int)) = true:=decide_eq_true c9
       clear c9
       by_cases c10 : 0 ≤ x5_1
       · rw [if_pos c10] at H
         have c10b0 : decide (0 ≤ x5_1) = true:=decide_eq_true c10
         clear c10
         by_cases c11 : x5_1 < (l1_0.length : Int)
         · rw [if_pos c11] at H
           have c11b0 : decide (x5_1 < (l1_0.length : Int)) = true:=decide_eq_true c11
           clear c11
           by_cases c12 : ((rd_L2 l0_0 x5_1).length : Int) = ((rd_L2 l1_0 x5_1).length : Int)
           · rw [if_pos c12] at H
             have c12b0 : (((rd_L2 l0_0 x5_1).length : Int) == ((rd_L2 l1_0 x5_1).length : Int)) = true:=beq_iff_eq.mpr c12
             have c12b1 : (((rd_L2 l0_0 x5_1).length : Int) != ((rd_L2 l1_0 x5_1).length : Int)) = false:=bne_eq_false_iff_eq.mpr c12
             have c12b2 : ((rd_L2 l0_0 x5_1).length == (rd_L2 l1_0 x5_1).length) = true:=by first|simpa using c12|(simp at c12 ⊢;omega)
             clear c12
             have H':=Aside0.mk H
             clear H
             have hnb13:=NB151_152.out
             have hnc13:=NB152_151.out
             have hcz14_0 : wr.cell? ⟨gb151,0,none⟩ = some (.slice A0_0 l0_0.length c0_0):=(blk_cell BK151.out 0).trans rfl
             have hfz14_0:=blk_frozen BK151.out 0
             have p153 : 0 ≤ (x5_1 : Int):=of_decide_eq_true (by first|(with_reducible assumption)|assumption)
             have q153 : x5_1 < (l0_0.length : Int):=of_decide_eq_true (by first|(with_reducible assumption)|assumption)
             obtain ⟨ad153,A153_0,c153_0,e153,hx153_0,hl153_0,hi153_0⟩:=at_L2 HR0_0.out x5_1 p153 q153
             cases e153
             replace hx153_0:=(HB.out.cell (World.block_lt_of_cell? w _ hx153_0)).trans hx153_0
             have HR153_0:=Aside0.mk hi153_0
             have HC153_0:=Aside0.mk hl153_0
             clear hi153_0 hl153_0
             replace p153:=eq_true p153
             replace q153:=eq_true q153
             have hcz15_0 : wr.cell? ⟨gb152,0,none⟩ = some (.slice A1_0 l1_0.length c1_0):=(blk_cell BK152.out 0).trans rfl
             have hfz15_0:=blk_frozen BK152.out 0
             have p154 : 0 ≤ (x5_1 : Int):=of_decide_eq_true (by first|(with_reducible assumption)|assumption)
             have q154 : x5_1 < (l1_0.length : Int):=of_decide_eq_true (by first|(with_reducible assumption)|assumption)
             obtain ⟨ad154,A154_0,c154_0,e154,hx154_0,hl154_0,hi154_0⟩:=at_L2 HR1_0.out x5_1 p154 q154
             cases e154
             replace hx154_0:=(HB.out.cell (World.block_lt_of_cell? w _ hx154_0)).trans hx154_0
             have HR154_0:=Aside0.mk hi154_0
             have HC154_0:=Aside0.mk hl154_0
             clear hi154_0 hl154_0
             replace p154:=eq_true p154
             replace q154:=eq_true q154
             go_wp2
             repeat (go_quiet (fail);try go_wp2)
             go_loopg [6] k1 (fun kq v6 w'=>∃ (x6_2 : Int),v6 = .int .i64 x6_2 ∧ Aside0 (locklessref03_Same.l1 kq x5_1 x6_2 l0_0 l1_0 = some r) ∧ Aside0 (kq ≤ k1) ∧ Aside0 (w'.heap[gb151]? = some (.cells #[(.slice (some ad153) l0_0.length c0_0)] 24 (0,0))) ∧ Aside0 (w'.heap[gb152]? = some (.cells #[(.slice (some ad154) l1_0.length c1_0)] 24 (0,0))) ∧ Aside0 (Below w.heap.size w w'))
             case atStart=>exact ⟨(0),(by first|rfl|(simp;done)|(simp [*];done)),H',⟨Nat.le_refl _⟩,⟨by (with_reducible repeat (first|apply kN|apply kD|apply kA));exact BK151.out⟩,⟨by (with_reducible repeat (first|apply kN|apply kD|apply kA));exact BK152.out⟩,⟨by repeat (first|(with_reducible first|exact HB.out|apply below_alloc|apply pw_below_drewN|apply below_drew1|refine below_set ?_ GE151.out|refine below_set ?_ GE152.out)|exact HB.out)⟩⟩
             case round=>
              clear H'
              (try clear c1);(try clear p1);(try clear q1);(try clear hx1);(try clear p2);(try clear c3);(try clear c3b0);(try clear c3b1);(try clear c3b2);(try clear c6);(try clear c9);(try clear c9b0);(try clear c10);(try clear c10b0);(try clear c11);(try clear c11b0);(try clear c12);(try clear c12b0);(try clear c12b1);(try clear c12b2);(try clear c13);(try clear c15);(try clear p15);(try clear q15);(try clear hx15);(try clear hcz14_0);(try clear hcz15_0);(try clear hcz7_0);(try clear hcz8_0);(try clear hfz14_0);(try clear hfz15_0);(try clear hfz7_0);(try clear hfz8_0);(try clear hx153_0);(try clear hx154_0);(try clear p153);(try clear p154);(try clear p2);(try clear q153);(try clear q154)
              obtain ⟨x6_2,rfl,HA,HK2,BK151,BK152,HB⟩:=hrel
              cases gk with
              | zero=>exact absurd HA.out (by simp [locklessref03_Same.l1])
              | succ k2=>
               have H:=HA.out
               clear HA
               simp only [locklessref03_Same.l1] at H
               by_cases c16 : 0 ≤ x5_1
               · rw [if_pos c16] at H
                 have c16b0 : decide (0 ≤ x5_1) = true:=decide_eq_true c16
                 clear c16
                 by_cases c17 : x5_1 < (l0_0.length : Int)
                 · rw [if_pos c17] at H
                   have c17b0 : decide (x5_1 < (l0_0.length : Int)) = true:=decide_eq_true c17
                   clear c17
                   by_cases c18 : x6_2 < ((rd_L2 l0_0 x5_1).length : Int)
                   · rw [if_pos c18] at H
                     have c18b0 : decide (x6_2 < ((rd_L2 l0_0 x5_1).length : Int)) = true:=decide_eq_true c18
                     clear c18
                     by_cases c19 : 0 ≤ x6_2
                     · rw [if_pos c19] at H
                       have c19b0 : decide (0 ≤ x6_2) = true:=decide_eq_true c19
                       clear c19
                       by_cases c20 : x5_1 < (l1_0.length : Int)
                       · rw [if_pos c20] at H
                         have c20b0 : decide (x5_1 < (l1_0.length : Int)) = true:=decide_eq_true c20
                         clear c20
                         by_cases c21 : x6_2 < ((rd_L2 l1_0 x5_1).length : Int)
                         · rw [if_pos c21] at H
                           have c21b0 : decide (x6_2 < ((rd_L2 l1_0 x5_1).length : Int)) = true:=decide_eq_true c21
                           clear c21
                           by_cases c22 : (!(((rd_T44 (rd_L2 l0_0 x5_1) x6_2).f0) == ((rd_T44 (rd_L2 l1_0 x5_1) x6_2).f0)) || (!(((rd_T44 (rd_L2 l0_0 x5_1) x6_2).f1) == ((rd_T44 (rd_L2 l1_0 x5_1) x6_2).f1)) || (!(((rd_T44 (rd_L2 l0_0 x5_1) x6_2).f2) == ((rd_T44 (rd_L2 l1_0 x5_1) x6_2).f2)) || (!(((rd_T44 (rd_L2 l0_0 x5_1) x6_2).f3) == ((rd_T44 (rd_L2 l1_0 x5_1) x6_2).f3)) || (!(((rd_T44 (rd_L2 l0_0 x5_1) x6_2).f4) == ((rd_T44 (rd_L2 l1_0 x5_1) x6_2).f4))))))) = true
                           · rw [if_pos c22] at H
                             have c22b0 : (!(((rd_T44 (rd_L2 l0_0 x5_1) x6_2).f0) == ((rd_T44 (rd_L2 l1_0 x5_1) x6_2).f0)) || (!(((rd_T44 (rd_L2 l0_0 x5_1) x6_2).f1) == ((rd_T44 (rd_L2 l1_0 x5_1) x6_2).f1)) || (!(((rd_T44 (rd_L2 l0_0 x5_1) x6_2).f2) == ((rd_T44 (rd_L2 l1_0 x5_1) x6_2).f2)) || (!(((rd_T44 (rd_L2 l0_0 x5_1) x6_2).f3) == ((rd_T44 (rd_L2 l1_0 x5_1) x6_2).f3)) || (!(((rd_T44 (rd_L2 l0_0 x5_1) x6_2).f4) == ((rd_T44 (rd_L2 l1_0 x5_1) x6_2).f4))))))) = true:=c22
                             clear c22
                             obtain rfl:=Option.some.inj H
                             have hnb23:=NB151_152.out
                             have hnc23:=NB152_151.out
                             have hcz24_0 : wr.cell? ⟨gb151,0,none⟩ = some (.slice (some ad153) l0_0.length c0_0):=(blk_cell BK151.out 0).trans rfl
                             have hfz24_0:=blk_frozen BK151.out 0
                             have p155 : 0 ≤ (x5_1 : Int):=of_decide_eq_true (by first|(with_reducible assumption)|assumption)
                             have q155 : x5_1 < (l0_0.length : Int):=of_decide_eq_true (by first|(with_reducible assumption)|assumption)
                             obtain ⟨ad155,A155_0,c155_0,e155,hx155_0,hl155_0,hi155_0⟩:=at_L2 HR0_0.out x5_1 p155 q155
                             obtain rfl : ad153 = ad155:=(by injection e155)
                             replace hx155_0:=(HB.out.cell (World.block_lt_of_cell? w _ hx155_0)).trans hx155_0
                             have HR155_0:=Aside0.mk hi155_0
                             have HC155_0:=Aside0.mk hl155_0
                             clear hi155_0 hl155_0
                             replace p155:=eq_true p155
                             replace q155:=eq_true q155
                             have p156 : 0 ≤ (x5_1 : Int):=of_decide_eq_true (by first|(with_reducible assumption)|assumption)
                             have q156 : x5_1 < (l0_0.length : Int):=of_decide_eq_true (by first|(with_reducible assumption)|assumption)
                             obtain ⟨ad156,A156_0,c156_0,e156,hx156_0,hl156_0,hi156_0⟩:=at_L2 HR0_0.out x5_1 p156 q156
                             obtain rfl : ad153 = ad156:=(by injection e156)
                             replace hx156_0:=(HB.out.cell (World.block_lt_of_cell? w _ hx156_0)).trans hx156_0
                             have HR156_0:=Aside0.mk hi156_0
                             have HC156_0:=Aside0.mk hl156_0
                             clear hi156_0 hl156_0
                             replace p156:=eq_true p156
                             replace q156:=eq_true q156
                             have ea_:=Option.some.inj (hx155_0.symm.trans hx156_0)
                             injection ea_ with ea_ en_ ec_
                             subst ea_
                             subst ec_
                             clear en_
                             have p157 : 0 ≤ (x6_2 : Int):=of_decide_eq_true (by first|(with_reducible assumption)|assumption)
                             have q157 : x6_2 < ((rd_L2 l0_0 x5_1).length : Int):=of_decide_eq_true (by first|(with_reducible assumption)|assumption)
                             obtain ⟨ad157,e157,hx157_0,hx157_1,hx157_2,hx157_3,hx157_4⟩:=at_T44 HR156_0.out x6_2 p157 q157
                             cases e157
                             replace hx157_0:=(HB.out.cell (World.block_lt_of_cell? w _ hx157_0)).trans hx157_0
                             replace hx157_1:=(HB.out.cell (World.block_lt_of_cell? w _ hx157_1)).trans hx157_1
                             replace hx157_2:=(HB.out.cell (World.block_lt_of_cell? w _ hx157_2)).trans hx157_2
                             replace hx157_3:=(HB.out.cell (World.block_lt_of_cell? w _ hx157_3)).trans hx157_3
                             replace hx157_4:=(HB.out.cell (World.block_lt_of_cell? w _ hx157_4)).trans hx157_4
                             replace p157:=eq_true p157
                             replace q157:=eq_true q157
                             have hcz25_0 : wr.cell? ⟨gb152,0,none⟩ = some (.slice (some ad154) l1_0.length c1_0):=(blk_cell BK152.out 0).trans rfl
                             have hfz25_0:=blk_frozen BK152.out 0
                             have p158 : 0 ≤ (x5_1 : Int):=of_decide_eq_true (by first|(with_reducible assumption)|assumption)
                             have q158 : x5_1 < (l1_0.length : Int):=of_decide_eq_true (by first|(with_reducible assumption)|assumption)
                             obtain ⟨ad158,A158_0,c158_0,e158,hx158_0,hl158_0,hi158_0⟩:=at_L2 HR1_0.out x5_1 p158 q158
                             obtain rfl : ad154 = ad158:=(by injection e158)
                             replace hx158_0:=(HB.out.cell (World.block_lt_of_cell? w _ hx158_0)).trans hx158_0
                             have HR158_0:=Aside0.mk hi158_0
                             have HC158_0:=Aside0.mk hl158_0
                             clear hi158_0 hl158_0
                             replace p158:=eq_true p158
                             replace q158:=eq_true q158
                             have p159 : 0 ≤ (x6_2 : Int):=of_decide_eq_true (by first|(with_reducible assumption)|assumption)
                             have q159 : x6_2 < ((rd_L2 l1_0 x5_1).length : Int):=of_decide_eq_true (by first|(with_reducible assumption)|assumption)
                             obtain ⟨ad159,e159,hx159_0,hx159_1,hx159_2,hx159_3,hx159_4⟩:=at_T44 HR158_0.out x6_2 p159 q159
                             cases e159
                             replace hx159_0:=(HB.out.cell (World.block_lt_of_cell? w _ hx159_0)).trans hx159_0
                             replace hx159_1:=(HB.out.cell (World.block_lt_of_cell? w _ hx159_1)).trans hx159_1
                             replace hx159_2:=(HB.out.cell (World.block_lt_of_cell? w _ hx159_2)).trans hx159_2
                             replace hx159_3:=(HB.out.cell (World.block_lt_of_cell? w _ hx159_3)).trans hx159_3
                             replace hx159_4:=(HB.out.cell (World.block_lt_of_cell? w _ hx159_4)).trans hx159_4
                             replace p159:=eq_true p159
                             replace q159:=eq_true q159
                             go_wp2
                             repeat (go_quiet (fail);try go_wp2)
                             go_ret
                             exact ⟨by first|rfl|(simp [errW_none,errW_some] <;> rfl)|(simp [*,errW_none,errW_some] <;> rfl),by repeat (first|(with_reducible first|exact HB.out|apply below_alloc|apply pw_below_drewN|apply below_drew1|refine below_set ?_ GE151.out|refine below_set ?_ GE152.out)|exact HB.out)⟩
                           · rw [if_neg c22] at H
                             have c22b0 : (!(((rd_T44 (rd_L2 l0_0 x5_1) x6_2).f0) == ((rd_T44 (rd_L2 l1_0 x5_1) x6_2).f0)) || (!(((rd_T44 (rd_L2 l0_0 x5_1) x6_2).f1) == ((rd_T44 (rd_L2 l1_0 x5_1) x6_2).f1)) || (!(((rd_T44 (rd_L2 l0_0 x5_1) x6_2).f2) == ((rd_T44 (rd_L2 l1_0 x5_1) x6_2).f2)) || (!(((rd_T44 (rd_L2 l0_0 x5_1) x6_2).f3) == ((rd_T44 (rd_L2 l1_0 x5_1) x6_2).f3)) || (!(((rd_T44 (rd_L2 l0_0 x5_1) x6_2).f4) == ((rd_T44 (rd_L2 l1_0 x5_1) x6_2).f4))))))) = false:=by simpa using c22
                             clear c22
                             have H':=Aside0.mk H
                             clear H
                             have hnb26:=NB151_152.out
                             have hnc26:=NB152_151.out
                             have hcz27_0 : wr.cell? ⟨gb151,0,none⟩ = some (.slice (some ad153) l0_0.length c0_0):=(blk_cell BK151.out 0).trans rfl
                             have hfz27_0:=blk_frozen BK151.out 0
                             have p155 : 0 ≤ (x5_1 : Int):=of_decide_eq_true (by first|(with_reducible assumption)|assumption)
                             have q155 : x5_1 < (l0_0.length : Int):=of_decide_eq_true (by first|(with_reducible assumption)|assumption)
                             obtain ⟨ad155,A155_0,c155_0,e155,hx155_0,hl155_0,hi155_0⟩:=at_L2 HR0_0.out x5_1 p155 q155
                             obtain rfl : ad153 = ad155:=(by injection e155)
                             replace hx155_0:=(HB.out.cell (World.block_lt_of_cell? w _ hx155_0)).trans hx155_0
                             have HR155_0:=Aside0.mk hi155_0
                             have HC155_0:=Aside0.mk hl155_0
                             clear hi155_0 hl155_0
                             replace p155:=eq_true p155
                             replace q155:=eq_true q155
                             have p156 : 0 ≤ (x5_1 : Int):=of_decide_eq_true (by first|(with_reducible assumption)|assumption)
                             have q156 : x5_1 < (l0_0.length : Int):=of_decide_eq_true (by first|(with_reducible assumption)|assumption)
                             obtain ⟨ad156,A156_0,c156_0,e156,hx156_0,hl156_0,hi156_0⟩:=at_L2 HR0_0.out x5_1 p156 q156
                             obtain rfl : ad153 = ad156:=(by injection e156)
                             replace hx156_0:=(HB.out.cell (World.block_lt_of_cell? w _ hx156_0)).trans hx156_0
                             have HR156_0:=Aside0.mk hi156_0
                             have HC156_0:=Aside0.mk hl156_0
                             clear hi156_0 hl156_0
                             replace p156:=eq_true p156
                             replace q156:=eq_true q156
                             have ea_:=Option.some.inj (hx155_0.symm.trans hx156_0)
                             injection ea_ with ea_ en_ ec_
                             subst ea_
                             subst ec_
                             clear en_
                             have p157 : 0 ≤ (x6_2 : Int):=of_decide_eq_true (by first|(with_reducible assumption)|assumption)
                             have q157 : x6_2 < ((rd_L2 l0_0 x5_1).length : Int):=of_decide_eq_true (by first|(with_reducible assumption)|assumption)
                             obtain ⟨ad157,e157,hx157_0,hx157_1,hx157_2,hx157_3,hx157_4⟩:=at_T44 HR156_0.out x6_2 p157 q157
                             cases e157
                             replace hx157_0:=(HB.out.cell (World.block_lt_of_cell? w _ hx157_0)).trans hx157_0
                             replace hx157_1:=(HB.out.cell (World.block_lt_of_cell? w _ hx157_1)).trans hx157_1
                             replace hx157_2:=(HB.out.cell (World.block_lt_of_cell? w _ hx157_2)).trans hx157_2
                             replace hx157_3:=(HB.out.cell (World.block_lt_of_cell? w _ hx157_3)).trans hx157_3
                             replace hx157_4:=(HB.out.cell (World.block_lt_of_cell? w _ hx157_4)).trans hx157_4
                             replace p157:=eq_true p157
                             replace q157:=eq_true q157
                             have hcz28_0 : wr.cell? ⟨gb152,0,none⟩ = some (.slice (some ad154) l1_0.length c1_0):=(blk_cell BK152.out 0).trans rfl
                             have hfz28_0:=blk_frozen BK152.out 0
                             have p158 : 0 ≤ (x5_1 : Int):=of_decide_eq_true (by first|(with_reducible assumption)|assumption)
                             have q158 : x5_1 < (l1_0.length : Int):=of_decide_eq_true (by first|(with_reducible assumption)|assumption)
                             obtain ⟨ad158,A158_0,c158_0,e158,hx158_0,hl158_0,hi158_0⟩:=at_L2 HR1_0.out x5_1 p158 q158
                             obtain rfl : ad154 = ad158:=(by injection e158)
                             replace hx158_0:=(HB.out.cell (World.block_lt_of_cell? w _ hx158_0)).trans hx158_0
                             have HR158_0:=Aside0.mk hi158_0
                             have HC158_0:=Aside0.mk hl158_0
                             clear hi158_0 hl158_0
                             replace p158:=eq_true p158
                             replace q158:=eq_true q158
                             have p159 : 0 ≤ (x6_2 : Int):=of_decide_eq_true (by first|(with_reducible assumption)|assumption)
                             have q159 : x6_2 < ((rd_L2 l1_0 x5_1).length : Int):=of_decide_eq_true (by first|(with_reducible assumption)|assumption)
                             obtain ⟨ad159,e159,hx159_0,hx159_1,hx159_2,hx159_3,hx159_4⟩:=at_T44 HR158_0.out x6_2 p159 q159
                             cases e159
                             replace hx159_0:=(HB.out.cell (World.block_lt_of_cell? w _ hx159_0)).trans hx159_0
                             replace hx159_1:=(HB.out.cell (World.block_lt_of_cell? w _ hx159_1)).trans hx159_1
                             replace hx159_2:=(HB.out.cell (World.block_lt_of_cell? w _ hx159_2)).trans hx159_2
                             replace hx159_3:=(HB.out.cell (World.block_lt_of_cell? w _ hx159_3)).trans hx159_3
                             replace hx159_4:=(HB.out.cell (World.block_lt_of_cell? w _ hx159_4)).trans hx159_4
                             replace p159:=eq_true p159
                             replace q159:=eq_true q159
                             go_wp2
                             repeat (go_quiet (fail);try go_wp2)
                             go_roundg k2
                             case measure=>have:=HK1.out;have:=HK2.out;omega
                             case rel=>exact ⟨(wrap64 (x6_2 + 1)),(by first|rfl|(simp;done)|(simp [*];done)),H',⟨by have:=HK1.out;have:=HK2.out;omega⟩,⟨by (with_reducible repeat (first|apply kN|apply kD|apply kA));exact BK151.out⟩,⟨by (with_reducible repeat (first|apply kN|apply kD|apply kA));exact BK152.out⟩,⟨by repeat (first|(with_reducible first|exact HB.out|apply below_alloc|apply pw_below_drewN|apply below_drew1|refine below_set ?_ GE151.out|refine below_set ?_ GE152.out)|exact HB.out)⟩⟩
                         · rw [if_neg c21] at H
                           exact absurd H (by simp)
                       · rw [if_neg c20] at H
                         exact absurd H (by simp)
                     · rw [if_neg c19] at H
                       exact absurd H (by simp)
                   · rw [if_neg c18] at H
                     have c18b0 : decide (x6_2 < ((rd_L2 l0_0 x5_1).length : Int)) = false:=decide_eq_false c18
                     clear c18
                     have H':=Aside0.mk H
                     clear H
                     have hnb29:=NB151_152.out
                     have hnc29:=NB152_151.out
                     have hcz30_0 : wr.cell? ⟨gb151,0,none⟩ = some (.slice (some ad153) l0_0.length c0_0):=(blk_cell BK151.out 0).trans rfl
                     have hfz30_0:=blk_frozen BK151.out 0
                     have p155 : 0 ≤ (x5_1 : Int):=of_decide_eq_true (by first|(with_reducible assumption)|assumption)
                     have q155 : x5_1 < (l0_0.length : Int):=of_decide_eq_true (by first|(with_reducible assumption)|assumption)
                     obtain ⟨ad155,A155_0,c155_0,e155,hx155_0,hl155_0,hi155_0⟩:=at_L2 HR0_0.out x5_1 p155 q155
                     obtain rfl : ad153 = ad155:=(by injection e155)
                     replace hx155_0:=(HB.out.cell (World.block_lt_of_cell? w _ hx155_0)).trans hx155_0
                     have HR155_0:=Aside0.mk hi155_0
                     have HC155_0:=Aside0.mk hl155_0
                     clear hi155_0 hl155_0
                     replace p155:=eq_true p155
                     replace q155:=eq_true q155
                     go_wp2
                     repeat (go_quiet (fail);try go_wp2)
                     go_roundg k2
                     case measure=>have:=HK1.out;have:=HK2.out;omega
                     case rel=>exact ⟨(wrap64 (x5_1 + 1)),(by first|rfl|(simp;done)|(simp [*];done)),H',⟨by have:=HK1.out;have:=HK2.out;omega⟩,⟨by (with_reducible repeat (first|apply kN|apply kD|apply kA));exact BK151.out⟩,⟨by (with_reducible repeat (first|apply kN|apply kD|apply kA));exact BK152.out⟩,⟨by repeat (first|(with_reducible first|exact HB.out|apply below_alloc|apply pw_below_drewN|apply below_drew1|refine below_set ?_ GE151.out|refine below_set ?_ GE152.out)|exact HB.out)⟩⟩
                 · rw [if_neg c17] at H
                   exact absurd H (by simp)
               · rw [if_neg c16] at H
                 exact absurd H (by simp)
           · rw [if_neg c12] at H
             have c12b0 : (((rd_L2 l0_0 x5_1).length : Int) == ((rd_L2 l1_0 x5_1).length : Int)) = false:=beq_eq_false_iff_ne.mpr c12
             have c12b1 : (((rd_L2 l0_0 x5_1).length : Int) != ((rd_L2 l1_0 x5_1).length : Int)) = true:=bne_iff_ne.mpr c12
             have c12b2 : ((rd_L2 l0_0 x5_1).length == (rd_L2 l1_0 x5_1).length) = false:=by first|simpa using c12|(simp at c12 ⊢;omega)
             obtain rfl:=Option.some.inj H
             have hnb31:=NB151_152.out
             have hnc31:=NB152_151.out
             have hcz32_0 : wr.cell? ⟨gb151,0,none⟩ = some (.slice A0_0 l0_0.length c0_0):=(blk_cell BK151.out 0).trans rfl
             have hfz32_0:=blk_frozen BK151.out 0
             have p153 : 0 ≤ (x5_1 : Int):=of_decide_eq_true (by first|(with_reducible assumption)|assumption)
             have q153 : x5_1 < (l0_0.length : Int):=of_decide_eq_true (by first|(with_reducible assumption)|assumption)
             obtain ⟨ad153,A153_0,c153_0,e153,hx153_0,hl153_0,hi153_0⟩:=at_L2 HR0_0.out x5_1 p153 q153
             cases e153
             replace hx153_0:=(HB.out.cell (World.block_lt_of_cell? w _ hx153_0)).trans hx153_0
             have HR153_0:=Aside0.mk hi153_0
             have HC153_0:=Aside0.mk hl153_0
             clear hi153_0 hl153_0
             replace p153:=eq_true p153
             replace q153:=eq_true q153
             have hcz33_0 : wr.cell? ⟨gb152,0,none⟩ = some (.slice A1_0 l1_0.length c1_0):=(blk_cell BK152.out 0).trans rfl
             have hfz33_0:=blk_frozen BK152.out 0
             have p154 : 0 ≤ (x5_1 : Int):=of_decide_eq_true (by first|(with_reducible assumption)|assumption)
             have q154 : x5_1 < (l1_0.length : Int):=of_decide_eq_true (by first|(with_reducible assumption)|assumption)
             obtain ⟨ad154,A154_0,c154_0,e154,hx154_0,hl154_0,hi154_0⟩:=at_L2 HR1_0.out x5_1 p154 q154
             cases e154
             replace hx154_0:=(HB.out.cell (World.block_lt_of_cell? w _ hx154_0)).trans hx154_0
             have HR154_0:=Aside0.mk hi154_0
             have HC154_0:=Aside0.mk hl154_0
             clear hi154_0 hl154_0
             replace p154:=eq_true p154
             replace q154:=eq_true q154
             go_wp2
             repeat (go_quiet (fail);try go_wp2)
             go_ret
             exact ⟨by first|rfl|(simp [errW_none,errW_some] <;> rfl)|(simp [*,errW_none,errW_some] <;> rfl),by repeat (first|(with_reducible first|exact HB.out|apply below_alloc|apply pw_below_drewN|apply below_drew1|refine below_set ?_ GE151.out|refine below_set ?_ GE152.out)|exact HB.out)⟩
         · rw [if_neg c11] at H
           exact absurd H (by simp)
       · rw [if_neg c10] at H
         exact absurd H (by simp)
     · rw [if_neg c9] at H
       have c9b0 : decide (x5_1 < (l0_0.length : Int)) = false:=decide_eq_false c9
       clear c9
       obtain rfl:=Option.some.inj H
       have hnb34:=NB151_152.out
       have hnc34:=NB152_151.out
       have hcz35_0 : wr.cell? ⟨gb151,0,none⟩ = some (.slice A0_0 l0_0.length c0_0):=(blk_cell BK151.out 0).trans rfl
       have hfz35_0:=blk_frozen BK151.out 0
       go_wp2
       repeat (go_quiet (fail);try go_wp2)
       go_ret
       exact ⟨by first|rfl|(simp [errW_none,errW_some] <;> rfl)|(simp [*,errW_none,errW_some] <;> rfl),by repeat (first|(with_reducible first|exact HB.out|apply below_alloc|apply pw_below_drewN|apply below_drew1|refine below_set ?_ GE151.out|refine below_set ?_ GE152.out)|exact HB.out)⟩
 · rw [if_neg c3] at H
   have c3b0 : ((l0_0.length : Int) == (l1_0.length : Int)) = false:=beq_eq_false_iff_ne.mpr c3
   have c3b1 : ((l0_0.length : Int) != (l1_0.length : Int)) = true:=bne_iff_ne.mpr c3
   have c3b2 : (l0_0.length == l1_0.length) = false:=by first|simpa using c3|(simp at c3 ⊢;omega)
   obtain rfl:=Option.some.inj H
   go_enter Try.func16,Try.ntmps16
   go_wp2_with (first|((with_reducible refine gate_dst (N:=2) rfl ?_);refine box_event ?hg (N:=2) ?hd (cs:=#[.slice A0_0 l0_0.length c0_0]) (t:=24) ?hr ?_;(case hd=>rfl);(case hg=>rfl);(case hr=>first|(go_simp;done)|(go_simp;rfl));intro gb151 hg w36 hbox hb;have zT:=two_ hb (by repeat (first|(with_reducible first|exact HB.out|apply below_alloc|apply pw_below_drewN|apply below_drew1)|exact HB.out));have n0_:=Aside0.mk zT.1;have n1_:=Aside0.mk (hbox);have n2_:=Aside0.mk ((by rw [hg];exact zT.2 : w.heap.size ≤ gb151));have n3_:=n2_;clear zT;clear HB;have HB:=n0_;have BK151:=n1_;have GW151:=n2_;have GE151:=n3_;clear n0_ n1_ n2_ n3_;clear hb hbox hg)|((with_reducible refine gate_dst (N:=3) rfl ?_);refine box_event ?hg (N:=3) ?hd (cs:=#[.slice A1_0 l1_0.length c1_0]) (t:=24) ?hr ?_;(case hd=>rfl);(case hg=>rfl);(case hr=>first|(go_simp;done)|(go_simp;rfl));intro gb152 hg w37 hbox hb;have zgb151:=bk_ hb (zb BK151.out);have n0_:=Aside0.mk zgb151.1;have zT:=two_ hb (by repeat (first|(with_reducible first|exact HB.out|apply below_alloc|apply pw_below_drewN|apply below_drew1|refine below_set ?_ GE151.out)|exact HB.out));have n1_:=Aside0.mk zT.1;have n2_:=Aside0.mk (hbox);have n3_:=Aside0.mk ((by rw [hg];exact zT.2 : w.heap.size ≤ gb152));have n4_:=n3_;have n5_:=Aside0.mk ((by rw [hg];exact zgb151.2 : gb151 ≠ gb152));have n6_:=Aside0.mk n5_.out.symm;clear zgb151 zT;clear BK151;clear HB;have BK151:=n0_;have HB:=n1_;have BK152:=n2_;have GW152:=n3_;have GE152:=n4_;have NB151_152:=n5_;have NB152_151:=n6_;clear n0_ n1_ n2_ n3_ n4_ n5_ n6_;clear hb hbox hg;have hnb38:=NB151_152.out;have hnc38:=NB152_151.out;have hcz39_0 : w37.cell? ⟨gb151,0,none⟩ = some (.slice A0_0 l0_0.length c0_0):=(blk_cell BK151.out 0).trans rfl;have hfz39_0:=blk_frozen BK151.out 0;have hcz40_0 : w37.cell? ⟨gb152,0,none⟩ = some (.slice A1_0 l1_0.length c1_0):=(blk_cell BK152.out 0).trans rfl;have hfz40_0:=blk_frozen BK152.out 0))
   repeat (go_quiet (first|((with_reducible refine gate_dst (N:=2) rfl ?_);refine box_event ?hg (N:=2) ?hd (cs:=#[.slice A0_0 l0_0.length c0_0]) (t:=24) ?hr ?_;(case hd=>rfl);(case hg=>rfl);(case hr=>first|(go_simp;done)|(go_simp;rfl));intro gb151 hg w36 hbox hb;have zT:=two_ hb (by repeat (first|(with_reducible first|exact HB.out|apply below_alloc|apply pw_below_drewN|apply below_drew1)|exact HB.out));have n0_:=Aside0.mk zT.1;have n1_:=Aside0.mk (hbox);have n2_:=Aside0.mk ((by rw [hg];exact zT.2 : w.heap.size ≤ gb151));have n3_:=n2_;clear zT;clear HB;have HB:=n0_;have BK151:=n1_;have GW151:=n2_;have GE151:=n3_;clear n0_ n1_ n2_ n3_;clear hb hbox hg)|((with_reducible refine gate_dst (N:=3) rfl ?_);refine box_event ?hg (N:=3) ?hd (cs:=#[.slice A1_0 l1_0.length c1_0]) (t:=24) ?hr ?_;(case hd=>rfl);(case hg=>rfl);(case hr=>first|(go_simp;done)|(go_simp;rfl));intro gb152 hg w37 hbox hb;have zgb151:=bk_ hb (zb BK151.out);have n0_:=Aside0.mk zgb151.1;have zT:=two_ hb (by repeat (first|(with_reducible first|exact HB.out|apply below_alloc|apply pw_below_drewN|apply below_drew1|refine below_set ?_ GE151.out)|exact HB.out));have n1_:=Aside0.mk zT.1;have n2_:=Aside0.mk (hbox);have n3_:=Aside0.mk ((by rw [hg];exact zT.2 : w.heap.size ≤ gb152));have n4_:=n3_;have n5_:=Aside0.mk ((by rw [hg];exact zgb151.2 : gb151 ≠ gb152));have n6_:=Aside0.mk n5_.out.symm;clear zgb151 zT;clear BK151;clear HB;have BK151:=n0_;have HB:=n1_;have BK152:=n2_;have GW152:=n3_;have GE152:=n4_;have NB151_152:=n5_;have NB152_151:=n6_;clear n0_ n1_ n2_ n3_ n4_ n5_ n6_;clear hb hbox hg;have hnb38:=NB151_152.out;have hnc38:=NB152_151.out;have hcz39_0 : w37.cell? ⟨gb151,0,none⟩ = some (.slice A0_0 l0_0.length c0_0):=(blk_cell BK151.out 0).trans rfl;have hfz39_0:=blk_frozen BK151.out 0;have hcz40_0 : w37.cell? ⟨gb152,0,none⟩ = some (.slice A1_0 l1_0.length c1_0):=(blk_cell BK152.out 0).trans rfl;have hfz40_0:=blk_frozen BK152.out 0));try go_wp2_with (first|((with_reducible refine gate_dst (N:=2) rfl ?_);refine box_event ?hg (N:=2) ?hd (cs:=#[.slice A0_0 l0_0.length c0_0]) (t:=24) ?hr ?_;(case hd=>rfl);(case hg=>rfl);(case hr=>first|(go_simp;done)|(go_simp;rfl));intro gb151 hg w36 hbox hb;have zT:=two_ hb (by repeat (first|(with_reducible first|exact HB.out|apply below_alloc|apply pw_below_drewN|apply below_drew1)|exact HB.out));have n0_:=Aside0.mk zT.1;have n1_:=Aside0.mk (hbox);have n2_:=Aside0.mk ((by rw [hg];exact zT.2 : w.heap.size ≤ gb151));have n3_:=n2_;clear zT;clear HB;have HB:=n0_;have BK151:=n1_;have GW151:=n2_;have GE151:=n3_;clear n0_ n1_ n2_ n3_;clear hb hbox hg)|((with_reducible refine gate_dst (N:=3) rfl ?_);refine box_event ?hg (N:=3) ?hd (cs:=#[.slice A1_0 l1_0.length c1_0]) (t:=24) ?hr ?_;(case hd=>rfl);(case hg=>rfl);(case hr=>first|(go_simp;done)|(go_simp;rfl));intro gb152 hg w37 hbox hb;have zgb151:=bk_ hb (zb BK151.out);have n0_:=Aside0.mk zgb151.1;have zT:=two_ hb (by repeat (first|(with_reducible first|exact HB.out|apply below_alloc|apply pw_below_drewN|apply below_drew1|refine below_set ?_ GE151.out)|exact HB.out));have n1_:=Aside0.mk zT.1;have n2_:=Aside0.mk (hbox);have n3_:=Aside0.mk ((by rw [hg];exact zT.2 : w.heap.size ≤ gb152));have n4_:=n3_;have n5_:=Aside0.mk ((by rw [hg];exact zgb151.2 : gb151 ≠ gb152));have n6_:=Aside0.mk n5_.out.symm;clear zgb151 zT;clear BK151;clear HB;have BK151:=n0_;have HB:=n1_;have BK152:=n2_;have GW152:=n3_;have GE152:=n4_;have NB151_152:=n5_;have NB152_151:=n6_;clear n0_ n1_ n2_ n3_ n4_ n5_ n6_;clear hb hbox hg;have hnb38:=NB151_152.out;have hnc38:=NB152_151.out;have hcz39_0 : w37.cell? ⟨gb151,0,none⟩ = some (.slice A0_0 l0_0.length c0_0):=(blk_cell BK151.out 0).trans rfl;have hfz39_0:=blk_frozen BK151.out 0;have hcz40_0 : w37.cell? ⟨gb152,0,none⟩ = some (.slice A1_0 l1_0.length c1_0):=(blk_cell BK152.out 0).trans rfl;have hfz40_0:=blk_frozen BK152.out 0)))
   go_ret
   exact ⟨by first|rfl|(simp [errW_none,errW_some] <;> rfl)|(simp [*,errW_none,errW_some] <;> rfl),by repeat (first|(with_reducible first|exact HB.out|apply below_alloc|apply pw_below_drewN|apply below_drew1|refine below_set ?_ GE151.out|refine below_set ?_ GE152.out)|exact HB.out)⟩
def litmus_access.f (a0_0 : Int) (a0_1 : Int) (a0_2 : Int) (a0_3 : Int) (a0_4 : Int) : Option (Bool):=if a0_0 ≥ 0 then (some (decide (a0_0 ≤ 4))) else (some false)
set_option maxHeartbeats 8000000 in
set_option maxRecDepth 100000 in
theorem litmus_access.calls (a0_0 : Int) (a0_1 : Int) (a0_2 : Int) (a0_3 : Int) (a0_4 : Int) (r : Bool) (w : World) (h : litmus_access.f a0_0 a0_1 a0_2 a0_3 a0_4 = some r) :
 Calls Try.prog 38 #[.agg #[.int .i64 a0_0,.int .i64 a0_1,.int .i64 a0_2,.int .i64 a0_3,.int .i64 a0_4]] w fun e w'=>e = .returned (.bool r) ∧ Below w.heap.size w w':=by
 have hu44:=Try.underlying44
 have HB:=Aside0.mk (Below.refl w.heap.size w)
 have H : (if a0_0 ≥ 0 then (some (decide (a0_0 ≤ 4))) else (some false)) = some r:=h
 clear h
 by_cases c2 : a0_0 ≥ 0
 · rw [if_pos c2] at H
   have c2b0 : decide (0 ≤ a0_0) = true:=decide_eq_true c2
   clear c2
   obtain rfl:=Option.some.inj H
   go_enter Try.func38,Try.ntmps38
   go_wp2_with (first|((with_reducible refine gate_dst (N:=1) rfl ?_);refine box_event ?hg (N:=1) ?hd (cs:=#[.int .i64 a0_0,.int .i64 a0_1,.int .i64 a0_2,.int .i64 a0_3,.int .i64 a0_4]) (t:=44) ?hr ?_;(case hd=>rfl);(case hg=>rfl);(case hr=>first|(go_simp;done)|(go_simp;rfl));intro gb160 hg w3 hbox hb;have zT:=two_ hb (by repeat (first|(with_reducible first|exact HB.out|apply below_alloc|apply pw_below_drewN|apply below_drew1)|exact HB.out));have n0_:=Aside0.mk zT.1;have n1_:=Aside0.mk (hbox);have n2_:=Aside0.mk ((by rw [hg];exact zT.2 : w.heap.size ≤ gb160));have n3_:=n2_;clear zT;clear HB;have HB:=n0_;have BK160:=n1_;have GW160:=n2_;have GE160:=n3_;clear n0_ n1_ n2_ n3_;clear hb hbox hg;have hcz4_0 : w3.cell? ⟨gb160,0,none⟩ = some (.int .i64 a0_0):=(blk_cell BK160.out 0).trans rfl;have hcz4_1 : w3.cell? ⟨gb160,1,none⟩ = some (.int .i64 a0_1):=(blk_cell BK160.out 1).trans rfl;have hcz4_2 : w3.cell? ⟨gb160,2,none⟩ = some (.int .i64 a0_2):=(blk_cell BK160.out 2).trans rfl;have hcz4_3 : w3.cell? ⟨gb160,3,none⟩ = some (.int .i64 a0_3):=(blk_cell BK160.out 3).trans rfl;have hcz4_4 : w3.cell? ⟨gb160,4,none⟩ = some (.int .i64 a0_4):=(blk_cell BK160.out 4).trans rfl;have hfz4_0:=blk_frozen BK160.out 0;have hfz4_1:=blk_frozen BK160.out 1;have hfz4_2:=blk_frozen BK160.out 2;have hfz4_3:=blk_frozen BK160.out 3;have hfz4_4:=blk_frozen BK160.out 4))
   go_ret
   exact ⟨by first|rfl|(simp [errW_none,errW_some] <;> rfl)|(simp [*,errW_none,errW_some] <;> rfl),by repeat (first|(with_reducible first|exact HB.out|apply below_alloc|apply pw_below_drewN|apply below_drew1|refine below_set ?_ GE160.out)|exact HB.out)⟩
 · rw [if_neg c2] at H
   have c2b0 : decide (0 ≤ a0_0) = false:=decide_eq_false c2
   clear c2
   obtain rfl:=Option.some.inj H
   go_enter Try.func38,Try.ntmps38
   go_wp2_with (first|((with_reducible refine gate_dst (N:=1) rfl ?_);refine box_event ?hg (N:=1) ?hd (cs:=#[.int .i64 a0_0,.int .i64 a0_1,.int .i64 a0_2,.int .i64 a0_3,.int .i64 a0_4]) (t:=44) ?hr ?_;(case hd=>rfl);(case hg=>rfl);(case hr=>first|(go_simp;done)|(go_simp;rfl));intro gb160 hg w5 hbox hb;have zT:=two_ hb (by repeat (first|(with_reducible first|exact HB.out|apply below_alloc|apply pw_below_drewN|apply below_drew1)|exact HB.out));have n0_:=Aside0.mk zT.1;have n1_:=Aside0.mk (hbox);have n2_:=Aside0.mk ((by rw [hg];exact zT.2 : w.heap.size ≤ gb160));have n3_:=n2_;clear zT;clear HB;have HB:=n0_;have BK160:=n1_;have GW160:=n2_;have GE160:=n3_;clear n0_ n1_ n2_ n3_;clear hb hbox hg;have hcz6_0 : w5.cell? ⟨gb160,0,none⟩ = some (.int .i64 a0_0):=(blk_cell BK160.out 0).trans rfl;have hcz6_1 : w5.cell? ⟨gb160,1,none⟩ = some (.int .i64 a0_1):=(blk_cell BK160.out 1).trans rfl;have hcz6_2 : w5.cell? ⟨gb160,2,none⟩ = some (.int .i64 a0_2):=(blk_cell BK160.out 2).trans rfl;have hcz6_3 : w5.cell? ⟨gb160,3,none⟩ = some (.int .i64 a0_3):=(blk_cell BK160.out 3).trans rfl;have hcz6_4 : w5.cell? ⟨gb160,4,none⟩ = some (.int .i64 a0_4):=(blk_cell BK160.out 4).trans rfl;have hfz6_0:=blk_frozen BK160.out 0;have hfz6_1:=blk_frozen BK160.out 1;have hfz6_2:=blk_frozen BK160.out 2;have hfz6_3:=blk_frozen BK160.out 3;have hfz6_4:=blk_frozen BK160.out 4))
   go_ret
   exact ⟨by first|rfl|(simp [errW_none,errW_some] <;> rfl)|(simp [*,errW_none,errW_some] <;> rfl),by repeat (first|(with_reducible first|exact HB.out|apply below_alloc|apply pw_below_drewN|apply below_drew1|refine below_set ?_ GE160.out)|exact HB.out)⟩
def litmus_strongFence.f  : Option (Int × Int × Int × Int × Int):=some (5,0,0,0,4)
set_option maxHeartbeats 8000000 in
set_option maxRecDepth 100000 in
theorem litmus_strongFence.calls  (r1 : Int) (r2 : Int) (r3 : Int) (r4 : Int) (r5 : Int) (w : World) (h : litmus_strongFence.f  = some (r1,r2,r3,r4,r5)) :
 Calls Try.prog 49 #[] w fun e w'=>e = .returned (.agg #[.int .i64 r1,.int .i64 r2,.int .i64 r3,.int .i64 r4,.int .i64 r5]) ∧ Below w.heap.size w w':=by
 have hu44:=Try.underlying44
 have HB:=Aside0.mk (Below.refl w.heap.size w)
 have H : (some (5,0,0,0,4)) = some (r1,r2,r3,r4,r5):=h
 clear h
 simp only [Option.some.injEq,Prod.mk.injEq] at H
 obtain ⟨rfl,rfl,rfl,rfl,rfl⟩:=H
 go_enter Try.func49,Try.ntmps49
 go_wp2_with (first|((with_reducible refine gate_dst (N:=0) rfl ?_);refine box_event ?hg (N:=0) ?hd (cs:=#[.int .i64 0,.int .i64 0,.int .i64 0,.int .i64 0,.int .i64 0]) (t:=44) ?hr ?_;(case hd=>rfl);(case hg=>rfl);(case hr=>first|(go_simp;done)|(go_simp;rfl));intro gb161 hg w1 hbox hb;have zT:=two_ hb (by repeat (first|(with_reducible first|exact HB.out|apply below_alloc|apply pw_below_drewN|apply below_drew1)|exact HB.out));have n0_:=Aside0.mk zT.1;have n1_:=Aside0.mk (hbox);have n2_:=Aside0.mk ((by rw [hg];exact zT.2 : w.heap.size ≤ gb161));have n3_:=n2_;clear zT;clear HB;have HB:=n0_;have BK161:=n1_;have GW161:=n2_;have GE161:=n3_;clear n0_ n1_ n2_ n3_;clear hb hbox hg;have hcz2_0 : w1.cell? ⟨gb161,0,none⟩ = some (.int .i64 0):=(blk_cell BK161.out 0).trans rfl;have hcz2_1 : w1.cell? ⟨gb161,1,none⟩ = some (.int .i64 0):=(blk_cell BK161.out 1).trans rfl;have hcz2_2 : w1.cell? ⟨gb161,2,none⟩ = some (.int .i64 0):=(blk_cell BK161.out 2).trans rfl;have hcz2_3 : w1.cell? ⟨gb161,3,none⟩ = some (.int .i64 0):=(blk_cell BK161.out 3).trans rfl;have hcz2_4 : w1.cell? ⟨gb161,4,none⟩ = some (.int .i64 0):=(blk_cell BK161.out 4).trans rfl;have hfz2_0:=blk_frozen BK161.out 0;have hfz2_1:=blk_frozen BK161.out 1;have hfz2_2:=blk_frozen BK161.out 2;have hfz2_3:=blk_frozen BK161.out 3;have hfz2_4:=blk_frozen BK161.out 4))
 refine bodyPost_ret (results_cell_row rfl _ _ gb161 44 #[.int .i64 5,.int .i64 0,.int .i64 0,.int .i64 0,.int .i64 4] (0,0) _ rfl (by (with_reducible repeat (first|apply kN|apply kD|apply kA));refine blk_put (cs:=#[.int .i64 5,.int .i64 0,.int .i64 0,.int .i64 0,.int .i64 0]) ?_ 4 _ rfl;(with_reducible repeat (first|apply kN|apply kD|apply kA));refine blk_put (cs:=#[.int .i64 5,.int .i64 0,.int .i64 0,.int .i64 0,.int .i64 0]) ?_ 3 _ rfl;(with_reducible repeat (first|apply kN|apply kD|apply kA));refine blk_put (cs:=#[.int .i64 5,.int .i64 0,.int .i64 0,.int .i64 0,.int .i64 0]) ?_ 2 _ rfl;(with_reducible repeat (first|apply kN|apply kD|apply kA));refine blk_put (cs:=#[.int .i64 5,.int .i64 0,.int .i64 0,.int .i64 0,.int .i64 0]) ?_ 1 _ rfl;(with_reducible repeat (first|apply kN|apply kD|apply kA));refine blk_put (cs:=#[.int .i64 0,.int .i64 0,.int .i64 0,.int .i64 0,.int .i64 0]) ?_ 0 _ rfl;(with_reducible repeat (first|apply kN|apply kD|apply kA));exact BK161.out) Try.underlying44 rfl (by kernel_rfl)) rfl ?_
 exact ⟨by first|rfl|(simp [errW_none,errW_some] <;> rfl)|(simp [*,errW_none,errW_some] <;> rfl),by repeat (first|(with_reducible first|exact HB.out|apply below_alloc|apply pw_below_drewN|apply below_drew1|refine below_set ?_ GE161.out)|exact HB.out)⟩
end Go.Proofs.Ytgfbgbclpeihdaa.XSn
