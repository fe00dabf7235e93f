/- The document's deeds of two stacks, walked: plain lemmas; no condition. -/
import Derived.Test.YtiialjmpfeopjaaGreatSm5
import Derived.Test.YtiialjmpfeopjaaGreatRfG
import Derived.BigQuiet
import Derived.Deep.QuietTactic
namespace Go.Proofs.YtiialjmpfeopjaaGreat.Sp
open Go.RowKit Go.Sort Go.Proofs.YtiialjmpfeopjaaGreatW.PrintWords Go.Proofs.YtiialjmpfeopjaaGreatW.PrintLast Go.Proofs.YtiialjmpfeopjaaGreatW.PrintMore
set_option linter.unusedVariables false
set_option linter.unusedSimpArgs false
set_option maxHeartbeats 8000000
set_option maxRecDepth 100000
theorem taken_pop (a : List Int) : takenR a ((a.length : Int) - 1) = (popR a, popL a) := by
  unfold takenR popR popL
  by_cases h : a = []
  · subst h; rfl
  · rw [if_neg h, if_neg h]
    have hl : 0 < a.length := by cases a with | nil => exact absurd rfl h | cons x r => simp
    have e : ((a.length : Int) - 1).toNat = a.length - 1 := by omega
    rw [e, List.eraseIdx_eq_take_drop_succ, show a.length - 1 + 1 = a.length by omega, List.drop_length, List.append_nil]
theorem twin_puta (A : Option Addr) (c : Nat) (s : List Int) (op : ByteArray) (x y : Int) (w : World) (hr : Rd w A s) (hc : s.length ≤ c) (hl : s.length ≤ 1000) (hk0 : 0 ≤ s.getD 0 0) (hk1 : s.getD 0 0 < s.length) (q0 : (op.toList == [112, 117, 116, 97]) = true) :
    Calls Tryz.prog 46 #[.slice A s.length c, .agg #[.string op, .int .i64 x, .int .i64 y]] w fun e w' => ∃ v, e = .returned (.tuple #[v, .int .i64 0]) ∧ Own w' w.heap.size v (joinL ((twA s) ++ [x]) (twB s)) ∧ Below w.heap.size w w' := by
  have b1 := al1w w (.cells #[.string op, .int .i64 x, .int .i64 y] 24 (0, 0))
  have hr1 : Rd (w.alloc (.cells #[.string op, .int .i64 x, .int .i64 y] 24 (0, 0))) A s := hr.below b1
  have B1 := Aside0.mk b1
  have n1 := heap_alloc_new w (.cells #[.string op, .int .i64 x, .int .i64 y] 24 (0, 0))
  have N1 := Aside0.mk n1
  have HR1 := Aside0.mk hr1
  have hmx := hr.max
  obtain ⟨ad, rfl, c0⟩ := hr1.at 0 (by omega)
  rw [show ad.add 0 = ad from by simp [Addr.add]] at c0
  have hl0 : (0 : Int) < (s.length : Int) := by omega
  have hl0n : 0 < s.length := by omega
  obtain ⟨j, hj⟩ : ∃ j, j = s.getD 0 0 + 1 := ⟨_, rfl⟩
  have hjw : IntKind.i64.wrap (s.getD 0 0 + 1) = j := (IntWalk.i64_in _ (by omega)).trans hj.symm
  obtain ⟨i1, hi1, _, hsz1, _⟩ := info_parts info_int
  obtain ⟨A1, hcut1, hA1, hC1⟩ := print_mid_of (P := Tryz.prog) (Value.int .i64) 0 22 3 .i64 .i64 Tryz.underlying22 hi1 hsz1 (some ad) c s 1 j (by omega) (by omega) (by omega) hc
  have HRa := Aside0.mk (Kd.C_of_reads (h1 := fun _ => rfl) (hA1 _ (Kd.reads_of_C HR1.out)))
  obtain ⟨A2, hcut2, hA2, hC2⟩ := print_drop_of (P := Tryz.prog) (Value.int .i64) 0 22 3 .i64 Tryz.underlying22 hi1 hsz1 (some ad) c s j (by omega) (by omega) hc
  have HRb := Aside0.mk (Kd.C_of_reads (h1 := fun _ => rfl) (hA2 _ (Kd.reads_of_C HR1.out)))
  have ea : (s.take j.toNat).drop (1 : Int).toNat = twA s := by unfold twA; rw [hj]; congr 2; omega
  have eb : s.drop j.toNat = twB s := by unfold twB; rw [hj]; congr 1; omega
  rw [ea] at hcut1 HRa hC1
  rw [show (1 : Int).toNat = 1 from rfl] at hcut1
  rw [eb] at hcut2 HRb hC2
  have hla : (twA s).length ≤ 1000 := by rw [← ea, List.length_drop, List.length_take]; omega
  have hlb : (twB s).length ≤ 1000 := by rw [← eb, List.length_drop]; omega
  clear ea eb hA1 hA2 hi1 hsz1 hj
  generalize twA s = a at *
  generalize twB s = b at *
  generalize s.getD 0 0 = z at *
  have HCa := Aside0.mk (ref_clone A1 (c - 1) a (w.alloc (.cells #[.string op, .int .i64 x, .int .i64 y] 24 (0, 0))) HRa.out (by omega))
  have HCb := Aside0.mk (fun W (h : Below ((w.alloc (.cells #[.string op, .int .i64 x, .int .i64 y] 24 (0, 0)))).heap.size (w.alloc (.cells #[.string op, .int .i64 x, .int .i64 y] 24 (0, 0))) W) => ref_clone A2 (c - j.toNat) b W (Kd.C_below HRb.out h) (by omega))
  have HLA := Aside0.mk hla
  have HLB := Aside0.mk hlb
  clear hr hr1 hc hl b1 n1 hla hlb hk0 hk1
  go_enter Tryz.func46, Tryz.ntmps46
  have tokA : True := trivial
  go_wp2_with (first | (go_at_call 41; have _t := tokA; clear _t tokA; refine (HCa.out).mono ?_; rintro e w2 ⟨va, rfl, ho, hb⟩; obtain ⟨Aa, ca, rfl⟩ := ho.slice; have HA2 := Aside0.mk ho; have BB2 := Aside0.mk hb; have B2 := Aside0.mk (btrans B1.out hb); clear ho hb; have tokB : True := trivial) | (go_at_call 41; have _t := tokB; clear _t tokB; refine (HCb.out w2 BB2.out).mono ?_; rintro e w3 ⟨vb, rfl, ho, hb⟩; obtain ⟨Ab, cb, rfl⟩ := ho.slice; have HB3 := Aside0.mk ho; have HA3 := Aside0.mk (HA2.out.below hb); have HAP := Aside0.mk (fun k (h : (Value.slice Ab b.length cb).ownBlock = some k) => (show (Value.slice Aa a.length ca).ownBlock ≠ some k from fun e => by have h1 := HA2.out.lt k e; have h2 := ho.base_le k h; omega)); have HAQ := Aside0.mk (fun k (h : (Value.slice Aa a.length ca).ownBlock = some k) => (show (Value.slice Ab b.length cb).ownBlock ≠ some k from fun e => by have h1 := HA2.out.lt k h; have h2 := ho.base_le k e; omega)); have B3 := Aside0.mk (btrans B2.out hb); have n3 := ((btrans BB2.out hb).block _ (blk_lt N1.out)).trans N1.out; have k1 := Go.Lib.cell_of_heap n3 0; have k2 := Go.Lib.cell_of_heap n3 1; simp only [List.getElem?_toArray, List.getElem?_cons_succ, List.getElem?_cons_zero] at k1 k2; clear n3 ho hb) | ((with_reducible refine gate_builtin (b := .append) (xs := #[.tmp 28, .tmp 31]) rfl ?_); at_builtin; refine Kd.R_append (Kd.int .i64) (w0 := w) w.heap.size rfl (.tmp 28) (.tmp 31) 22 3 (.int .i64 0) 8 rfl Tryz.underlying22 info_int rfl (by decide) (by omega) (.slice Aa a.length ca) a x [.int .i64 x] (fun _ => True) (fun _ => False) rfl rfl rfl (fun _ hk => hk.elim) (fun _ _ => trivial) (((HA3.out.lower B1.out.size).R)) (B3.out) (B3.out.size) (by (have := HLA.out; omega)) ?_; intro w4v w4 ho_ hb_ hg_ hat_; obtain ⟨w4A, w4c, rfl⟩ := Kd.R_slice ho_; obtain ⟨w4l, w4e⟩ : ∃ l, l = a ++ [x] := ⟨_, rfl⟩; rw [← w4e] at ho_ ⊢; have HE_ := Aside0.mk w4e; have HT := Aside0.mk (Own.of_R ho_); have BT := Aside0.mk hb_; have HU := Aside0.mk (own_grown HB3.out hg_ HAP.out); have HTL := Aside0.mk (show w4l.length ≤ 2000 from by have := HLA.out; rw [w4e, List.length_append]; show a.length + 1 ≤ _; omega); have HUL := Aside0.mk (show b.length ≤ 2000 from by have := HLB.out; omega); clear w4e hb_ ho_ hg_ hat_) | ((with_reducible refine gate_dst (N := 78) rfl ?_); refine Kd.R_lit (Kd.int .i64) _ 3 ?hg (N := 78) ?hd (xs := ([(w4l.length : Int)] : List Int)) (inner := [.int .i64 ((w4l.length : Int))]) (ok := fun _ => True) (okp := fun _ => True) ?hr ?hp (fun _ hk => hk) trivial (Below.refl _ _) (Nat.le_refl _) (by simp) ?_; (case hd => rfl); (case hg => rfl); (case hr => first | (go_simp; done) | (go_simp; rfl)); (case hp => exact (Reps.one (show Kd.M (Kd.int .i64) _ _ _ ((w4l.length : Int)) [.int .i64 ((w4l.length : Int))] from rfl) (Reps.none _ _))); intro vl wl ho_ hb_ hg_ hnew_; clear hg_ hnew_; have HL := Aside0.mk ho_; have HBL := Aside0.mk hb_; clear hb_ ho_) | ((with_reducible refine gate_builtin (b := .append) (xs := #[.tmp 78, .tmp 79]) rfl ?_); at_builtin; refine Kd.R_append_rows (Kd.int .i64) (w0 := w4) w4.heap.size rfl (.tmp 78) (.tmp 79) 22 3 (.int .i64 0) 8 rfl Tryz.underlying22 info_int rfl (by decide) (by omega) vl [(w4l.length : Int)] w4l _ _ _ (fun _ => True) (fun _ => False) rfl rfl (HL.out) ((HT.out.rd.below HBL.out)) (fun _ _ h => h) (fun _ h => h.elim) (fun _ _ => trivial) (HBL.out) (HBL.out.size) (by (have := HTL.out; simp only [List.length_cons, List.length_nil]; omega)) ?_; intro wpv wp ho_ hb_ hg_ hat_; have HP := Aside0.mk ho_; have HBP := Aside0.mk hb_; clear hb_ ho_ hg_ hat_) | ((with_reducible refine gate_builtin (b := .append) (xs := #[.tmp 81, .tmp 82]) rfl ?_); at_builtin; refine Kd.R_append_rows (Kd.int .i64) (w0 := w4) w4.heap.size rfl (.tmp 81) (.tmp 82) 22 3 (.int .i64 0) 8 rfl Tryz.underlying22 info_int rfl (by decide) (by omega) wpv ([(w4l.length : Int)] ++ w4l) b _ _ _ (fun _ => True) (fun _ => False) rfl rfl (HP.out) ((HU.out.rd.below HBP.out)) (fun _ _ h => h) (fun _ h => h.elim) (fun _ _ => trivial) (HBP.out) (HBP.out.size) (by (have := HTL.out; have := HUL.out; simp only [List.length_append, List.length_cons, List.length_nil]; omega)) ?_; intro wqv wq ho_ hb_ hg_ hat_; have HQ := Aside0.mk ho_; have HBQ := Aside0.mk hb_; clear hb_ ho_ hg_ hat_))
  go_ret2
  exact ⟨_, rfl, by have h := Own.of_R HQ.out; rw [HE_.out] at h; exact h.lower BT.out.size, BT.out.trans (HBQ.out.mono BT.out.size)⟩
theorem twin_putb (A : Option Addr) (c : Nat) (s : List Int) (op : ByteArray) (x y : Int) (w : World) (hr : Rd w A s) (hc : s.length ≤ c) (hl : s.length ≤ 1000) (hk0 : 0 ≤ s.getD 0 0) (hk1 : s.getD 0 0 < s.length) (q0 : (op.toList == [112, 117, 116, 97]) = false) (q1 : (op.toList == [112, 117, 116, 98]) = true) :
    Calls Tryz.prog 46 #[.slice A s.length c, .agg #[.string op, .int .i64 x, .int .i64 y]] w fun e w' => ∃ v, e = .returned (.tuple #[v, .int .i64 0]) ∧ Own w' w.heap.size v (joinL (twA s) ((twB s) ++ [x])) ∧ Below w.heap.size w w' := by
  have b1 := al1w w (.cells #[.string op, .int .i64 x, .int .i64 y] 24 (0, 0))
  have hr1 : Rd (w.alloc (.cells #[.string op, .int .i64 x, .int .i64 y] 24 (0, 0))) A s := hr.below b1
  have B1 := Aside0.mk b1
  have n1 := heap_alloc_new w (.cells #[.string op, .int .i64 x, .int .i64 y] 24 (0, 0))
  have N1 := Aside0.mk n1
  have HR1 := Aside0.mk hr1
  have hmx := hr.max
  obtain ⟨ad, rfl, c0⟩ := hr1.at 0 (by omega)
  rw [show ad.add 0 = ad from by simp [Addr.add]] at c0
  have hl0 : (0 : Int) < (s.length : Int) := by omega
  have hl0n : 0 < s.length := by omega
  obtain ⟨j, hj⟩ : ∃ j, j = s.getD 0 0 + 1 := ⟨_, rfl⟩
  have hjw : IntKind.i64.wrap (s.getD 0 0 + 1) = j := (IntWalk.i64_in _ (by omega)).trans hj.symm
  obtain ⟨i1, hi1, _, hsz1, _⟩ := info_parts info_int
  obtain ⟨A1, hcut1, hA1, hC1⟩ := print_mid_of (P := Tryz.prog) (Value.int .i64) 0 22 3 .i64 .i64 Tryz.underlying22 hi1 hsz1 (some ad) c s 1 j (by omega) (by omega) (by omega) hc
  have HRa := Aside0.mk (Kd.C_of_reads (h1 := fun _ => rfl) (hA1 _ (Kd.reads_of_C HR1.out)))
  obtain ⟨A2, hcut2, hA2, hC2⟩ := print_drop_of (P := Tryz.prog) (Value.int .i64) 0 22 3 .i64 Tryz.underlying22 hi1 hsz1 (some ad) c s j (by omega) (by omega) hc
  have HRb := Aside0.mk (Kd.C_of_reads (h1 := fun _ => rfl) (hA2 _ (Kd.reads_of_C HR1.out)))
  have ea : (s.take j.toNat).drop (1 : Int).toNat = twA s := by unfold twA; rw [hj]; congr 2; omega
  have eb : s.drop j.toNat = twB s := by unfold twB; rw [hj]; congr 1; omega
  rw [ea] at hcut1 HRa hC1
  rw [show (1 : Int).toNat = 1 from rfl] at hcut1
  rw [eb] at hcut2 HRb hC2
  have hla : (twA s).length ≤ 1000 := by rw [← ea, List.length_drop, List.length_take]; omega
  have hlb : (twB s).length ≤ 1000 := by rw [← eb, List.length_drop]; omega
  clear ea eb hA1 hA2 hi1 hsz1 hj
  generalize twA s = a at *
  generalize twB s = b at *
  generalize s.getD 0 0 = z at *
  have HCa := Aside0.mk (ref_clone A1 (c - 1) a (w.alloc (.cells #[.string op, .int .i64 x, .int .i64 y] 24 (0, 0))) HRa.out (by omega))
  have HCb := Aside0.mk (fun W (h : Below ((w.alloc (.cells #[.string op, .int .i64 x, .int .i64 y] 24 (0, 0)))).heap.size (w.alloc (.cells #[.string op, .int .i64 x, .int .i64 y] 24 (0, 0))) W) => ref_clone A2 (c - j.toNat) b W (Kd.C_below HRb.out h) (by omega))
  have HLA := Aside0.mk hla
  have HLB := Aside0.mk hlb
  clear hr hr1 hc hl b1 n1 hla hlb hk0 hk1
  go_enter Tryz.func46, Tryz.ntmps46
  have tokA : True := trivial
  go_wp2_with (first | (go_at_call 41; have _t := tokA; clear _t tokA; refine (HCa.out).mono ?_; rintro e w2 ⟨va, rfl, ho, hb⟩; obtain ⟨Aa, ca, rfl⟩ := ho.slice; have HA2 := Aside0.mk ho; have BB2 := Aside0.mk hb; have B2 := Aside0.mk (btrans B1.out hb); clear ho hb; have tokB : True := trivial) | (go_at_call 41; have _t := tokB; clear _t tokB; refine (HCb.out w2 BB2.out).mono ?_; rintro e w3 ⟨vb, rfl, ho, hb⟩; obtain ⟨Ab, cb, rfl⟩ := ho.slice; have HB3 := Aside0.mk ho; have HA3 := Aside0.mk (HA2.out.below hb); have HAP := Aside0.mk (fun k (h : (Value.slice Ab b.length cb).ownBlock = some k) => (show (Value.slice Aa a.length ca).ownBlock ≠ some k from fun e => by have h1 := HA2.out.lt k e; have h2 := ho.base_le k h; omega)); have HAQ := Aside0.mk (fun k (h : (Value.slice Aa a.length ca).ownBlock = some k) => (show (Value.slice Ab b.length cb).ownBlock ≠ some k from fun e => by have h1 := HA2.out.lt k h; have h2 := ho.base_le k e; omega)); have B3 := Aside0.mk (btrans B2.out hb); have n3 := ((btrans BB2.out hb).block _ (blk_lt N1.out)).trans N1.out; have k1 := Go.Lib.cell_of_heap n3 0; have k2 := Go.Lib.cell_of_heap n3 1; simp only [List.getElem?_toArray, List.getElem?_cons_succ, List.getElem?_cons_zero] at k1 k2; clear n3 ho hb) | ((with_reducible refine gate_builtin (b := .append) (xs := #[.tmp 35, .tmp 38]) rfl ?_); at_builtin; refine Kd.R_append (Kd.int .i64) (w0 := w) w.heap.size rfl (.tmp 35) (.tmp 38) 22 3 (.int .i64 0) 8 rfl Tryz.underlying22 info_int rfl (by decide) (by omega) (.slice Ab b.length cb) b x [.int .i64 x] (fun _ => True) (fun _ => False) rfl rfl rfl (fun _ hk => hk.elim) (fun _ _ => trivial) (((HB3.out.lower B2.out.size).R)) (B3.out) (B3.out.size) (by (have := HLB.out; omega)) ?_; intro w4v w4 ho_ hb_ hg_ hat_; obtain ⟨w4A, w4c, rfl⟩ := Kd.R_slice ho_; obtain ⟨w4l, w4e⟩ : ∃ l, l = b ++ [x] := ⟨_, rfl⟩; rw [← w4e] at ho_ ⊢; have HE_ := Aside0.mk w4e; have HU := Aside0.mk (Own.of_R ho_); have BT := Aside0.mk hb_; have HT := Aside0.mk (own_grown HA3.out hg_ HAQ.out); have HUL := Aside0.mk (show w4l.length ≤ 2000 from by have := HLB.out; rw [w4e, List.length_append]; show b.length + 1 ≤ _; omega); have HTL := Aside0.mk (show a.length ≤ 2000 from by have := HLA.out; omega); clear w4e hb_ ho_ hg_ hat_) | ((with_reducible refine gate_dst (N := 78) rfl ?_); refine Kd.R_lit (Kd.int .i64) _ 3 ?hg (N := 78) ?hd (xs := ([(a.length : Int)] : List Int)) (inner := [.int .i64 ((a.length : Int))]) (ok := fun _ => True) (okp := fun _ => True) ?hr ?hp (fun _ hk => hk) trivial (Below.refl _ _) (Nat.le_refl _) (by simp) ?_; (case hd => rfl); (case hg => rfl); (case hr => first | (go_simp; done) | (go_simp; rfl)); (case hp => exact (Reps.one (show Kd.M (Kd.int .i64) _ _ _ ((a.length : Int)) [.int .i64 ((a.length : Int))] from rfl) (Reps.none _ _))); intro vl wl ho_ hb_ hg_ hnew_; clear hg_ hnew_; have HL := Aside0.mk ho_; have HBL := Aside0.mk hb_; clear hb_ ho_) | ((with_reducible refine gate_builtin (b := .append) (xs := #[.tmp 78, .tmp 79]) rfl ?_); at_builtin; refine Kd.R_append_rows (Kd.int .i64) (w0 := w4) w4.heap.size rfl (.tmp 78) (.tmp 79) 22 3 (.int .i64 0) 8 rfl Tryz.underlying22 info_int rfl (by decide) (by omega) vl [(a.length : Int)] a _ _ _ (fun _ => True) (fun _ => False) rfl rfl (HL.out) ((HT.out.rd.below HBL.out)) (fun _ _ h => h) (fun _ h => h.elim) (fun _ _ => trivial) (HBL.out) (HBL.out.size) (by (have := HTL.out; simp only [List.length_cons, List.length_nil]; omega)) ?_; intro wpv wp ho_ hb_ hg_ hat_; have HP := Aside0.mk ho_; have HBP := Aside0.mk hb_; clear hb_ ho_ hg_ hat_) | ((with_reducible refine gate_builtin (b := .append) (xs := #[.tmp 81, .tmp 82]) rfl ?_); at_builtin; refine Kd.R_append_rows (Kd.int .i64) (w0 := w4) w4.heap.size rfl (.tmp 81) (.tmp 82) 22 3 (.int .i64 0) 8 rfl Tryz.underlying22 info_int rfl (by decide) (by omega) wpv ([(a.length : Int)] ++ a) w4l _ _ _ (fun _ => True) (fun _ => False) rfl rfl (HP.out) ((HU.out.rd.below HBP.out)) (fun _ _ h => h) (fun _ h => h.elim) (fun _ _ => trivial) (HBP.out) (HBP.out.size) (by (have := HTL.out; have := HUL.out; simp only [List.length_append, List.length_cons, List.length_nil]; omega)) ?_; intro wqv wq ho_ hb_ hg_ hat_; have HQ := Aside0.mk ho_; have HBQ := Aside0.mk hb_; clear hb_ ho_ hg_ hat_))
  go_ret2
  exact ⟨_, rfl, by have h := Own.of_R HQ.out; rw [HE_.out] at h; exact h.lower BT.out.size, BT.out.trans (HBQ.out.mono BT.out.size)⟩
theorem twin_geta (A : Option Addr) (c : Nat) (s : List Int) (op : ByteArray) (x y : Int) (w : World) (hr : Rd w A s) (hc : s.length ≤ c) (hl : s.length ≤ 1000) (hk0 : 0 ≤ s.getD 0 0) (hk1 : s.getD 0 0 < s.length) (q0 : (op.toList == [112, 117, 116, 97]) = false) (q1 : (op.toList == [112, 117, 116, 98]) = false) (q2 : (op.toList == [103, 101, 116, 97]) = true) :
    Calls Tryz.prog 46 #[.slice A s.length c, .agg #[.string op, .int .i64 x, .int .i64 y]] w fun e w' => ∃ v, e = .returned (.tuple #[v, .int .i64 (popR (twA s))]) ∧ Own w' w.heap.size v (joinL (popL (twA s)) (twB s)) ∧ Below w.heap.size w w' := by
  have b1 := al1w w (.cells #[.string op, .int .i64 x, .int .i64 y] 24 (0, 0))
  have hr1 : Rd (w.alloc (.cells #[.string op, .int .i64 x, .int .i64 y] 24 (0, 0))) A s := hr.below b1
  have B1 := Aside0.mk b1
  have n1 := heap_alloc_new w (.cells #[.string op, .int .i64 x, .int .i64 y] 24 (0, 0))
  have N1 := Aside0.mk n1
  have HR1 := Aside0.mk hr1
  have hmx := hr.max
  obtain ⟨ad, rfl, c0⟩ := hr1.at 0 (by omega)
  rw [show ad.add 0 = ad from by simp [Addr.add]] at c0
  have hl0 : (0 : Int) < (s.length : Int) := by omega
  have hl0n : 0 < s.length := by omega
  obtain ⟨j, hj⟩ : ∃ j, j = s.getD 0 0 + 1 := ⟨_, rfl⟩
  have hjw : IntKind.i64.wrap (s.getD 0 0 + 1) = j := (IntWalk.i64_in _ (by omega)).trans hj.symm
  obtain ⟨i1, hi1, _, hsz1, _⟩ := info_parts info_int
  obtain ⟨A1, hcut1, hA1, hC1⟩ := print_mid_of (P := Tryz.prog) (Value.int .i64) 0 22 3 .i64 .i64 Tryz.underlying22 hi1 hsz1 (some ad) c s 1 j (by omega) (by omega) (by omega) hc
  have HRa := Aside0.mk (Kd.C_of_reads (h1 := fun _ => rfl) (hA1 _ (Kd.reads_of_C HR1.out)))
  obtain ⟨A2, hcut2, hA2, hC2⟩ := print_drop_of (P := Tryz.prog) (Value.int .i64) 0 22 3 .i64 Tryz.underlying22 hi1 hsz1 (some ad) c s j (by omega) (by omega) hc
  have HRb := Aside0.mk (Kd.C_of_reads (h1 := fun _ => rfl) (hA2 _ (Kd.reads_of_C HR1.out)))
  have ea : (s.take j.toNat).drop (1 : Int).toNat = twA s := by unfold twA; rw [hj]; congr 2; omega
  have eb : s.drop j.toNat = twB s := by unfold twB; rw [hj]; congr 1; omega
  rw [ea] at hcut1 HRa hC1
  rw [show (1 : Int).toNat = 1 from rfl] at hcut1
  rw [eb] at hcut2 HRb hC2
  have hla : (twA s).length ≤ 1000 := by rw [← ea, List.length_drop, List.length_take]; omega
  have hlb : (twB s).length ≤ 1000 := by rw [← eb, List.length_drop]; omega
  clear ea eb hA1 hA2 hi1 hsz1 hj
  generalize twA s = a at *
  generalize twB s = b at *
  generalize s.getD 0 0 = z at *
  have HCa := Aside0.mk (ref_clone A1 (c - 1) a (w.alloc (.cells #[.string op, .int .i64 x, .int .i64 y] 24 (0, 0))) HRa.out (by omega))
  have HCb := Aside0.mk (fun W (h : Below ((w.alloc (.cells #[.string op, .int .i64 x, .int .i64 y] 24 (0, 0)))).heap.size (w.alloc (.cells #[.string op, .int .i64 x, .int .i64 y] 24 (0, 0))) W) => ref_clone A2 (c - j.toNat) b W (Kd.C_below HRb.out h) (by omega))
  have HLA := Aside0.mk hla
  have HLB := Aside0.mk hlb
  obtain ⟨m, hm⟩ : ∃ m : Int, m = (a.length : Int) - 1 := ⟨_, rfl⟩
  have hmw : IntKind.i64.wrap ((a.length : Int) - 1) = m := (IntWalk.i64_in _ (by omega)).trans hm.symm
  have HTK := Aside0.mk (fun (A : Option Addr) (c : Nat) W (h : Rd W A a) (hcc : a.length ≤ c) => (show Calls Tryz.prog 42 #[.slice A a.length c, .int .i64 m] W fun e w' => ∃ v, e = .returned (.tuple #[v, .int .i64 (popR a)]) ∧ Own w' W.heap.size v (popL a) ∧ Below W.heap.size W w' from by
    have := ref_taken A c a m W h hcc (by omega) (fun hne => ⟨by have := List.length_pos_iff.2 hne; omega, by omega⟩)
    rw [hm, taken_pop] at this
    rw [hm]; exact this))
  have HPL := Aside0.mk (show (popL a).length ≤ 1000 from by unfold popL; rw [List.length_take]; omega)
  clear hm
  clear hr hr1 hc hl b1 n1 hla hlb hk0 hk1
  go_enter Tryz.func46, Tryz.ntmps46
  have tokA : True := trivial
  go_wp2_with (first | (go_at_call 41; have _t := tokA; clear _t tokA; refine (HCa.out).mono ?_; rintro e w2 ⟨va, rfl, ho, hb⟩; obtain ⟨Aa, ca, rfl⟩ := ho.slice; have HA2 := Aside0.mk ho; have BB2 := Aside0.mk hb; have B2 := Aside0.mk (btrans B1.out hb); clear ho hb; have tokB : True := trivial) | (go_at_call 41; have _t := tokB; clear _t tokB; refine (HCb.out w2 BB2.out).mono ?_; rintro e w3 ⟨vb, rfl, ho, hb⟩; obtain ⟨Ab, cb, rfl⟩ := ho.slice; have HB3 := Aside0.mk ho; have HA3 := Aside0.mk (HA2.out.below hb); have HAP := Aside0.mk (fun k (h : (Value.slice Ab b.length cb).ownBlock = some k) => (show (Value.slice Aa a.length ca).ownBlock ≠ some k from fun e => by have h1 := HA2.out.lt k e; have h2 := ho.base_le k h; omega)); have HAQ := Aside0.mk (fun k (h : (Value.slice Aa a.length ca).ownBlock = some k) => (show (Value.slice Ab b.length cb).ownBlock ≠ some k from fun e => by have h1 := HA2.out.lt k h; have h2 := ho.base_le k e; omega)); have B3 := Aside0.mk (btrans B2.out hb); have n3 := ((btrans BB2.out hb).block _ (blk_lt N1.out)).trans N1.out; have k1 := Go.Lib.cell_of_heap n3 0; have k2 := Go.Lib.cell_of_heap n3 1; simp only [List.getElem?_toArray, List.getElem?_cons_succ, List.getElem?_cons_zero] at k1 k2; clear n3 ho hb) | (go_at_call 42; refine (HTK.out _ _ w3 HA3.out.rd (Kd.R_reads' HA3.out.R).2.1).mono ?_; rintro e w4 ⟨vt, rfl, ho, hb⟩; obtain ⟨At, ct, rfl⟩ := ho.slice; have HT := Aside0.mk ho; have HU := Aside0.mk ((HB3.out).below hb); have BT := Aside0.mk (btrans B3.out hb); have HTL := Aside0.mk (show (popL a).length ≤ 2000 from by have := HPL.out; omega); have HUL := Aside0.mk (show b.length ≤ 2000 from by have := HLB.out; omega); have HAR := Aside0.mk (fun k (h : (Value.slice At (popL a).length ct).ownBlock = some k) => (show (Value.slice Ab b.length cb).ownBlock ≠ some k from fun e => by have h1 := HB3.out.lt k e; have h2 := ho.base_le k h; omega)); clear ho hb) | ((with_reducible refine gate_dst (N := 78) rfl ?_); refine Kd.R_lit (Kd.int .i64) _ 3 ?hg (N := 78) ?hd (xs := ([((popL a).length : Int)] : List Int)) (inner := [.int .i64 (((popL a).length : Int))]) (ok := fun _ => True) (okp := fun _ => True) ?hr ?hp (fun _ hk => hk) trivial (Below.refl _ _) (Nat.le_refl _) (by simp) ?_; (case hd => rfl); (case hg => rfl); (case hr => first | (go_simp; done) | (go_simp; rfl)); (case hp => exact (Reps.one (show Kd.M (Kd.int .i64) _ _ _ (((popL a).length : Int)) [.int .i64 (((popL a).length : Int))] from rfl) (Reps.none _ _))); intro vl wl ho_ hb_ hg_ hnew_; clear hg_ hnew_; have HL := Aside0.mk ho_; have HBL := Aside0.mk hb_; clear hb_ ho_) | ((with_reducible refine gate_builtin (b := .append) (xs := #[.tmp 78, .tmp 79]) rfl ?_); at_builtin; refine Kd.R_append_rows (Kd.int .i64) (w0 := w4) w4.heap.size rfl (.tmp 78) (.tmp 79) 22 3 (.int .i64 0) 8 rfl Tryz.underlying22 info_int rfl (by decide) (by omega) vl [((popL a).length : Int)] (popL a) _ _ _ (fun _ => True) (fun _ => False) rfl rfl (HL.out) ((HT.out.rd.below HBL.out)) (fun _ _ h => h) (fun _ h => h.elim) (fun _ _ => trivial) (HBL.out) (HBL.out.size) (by (have := HTL.out; simp only [List.length_cons, List.length_nil]; omega)) ?_; intro wpv wp ho_ hb_ hg_ hat_; have HP := Aside0.mk ho_; have HBP := Aside0.mk hb_; clear hb_ ho_ hg_ hat_) | ((with_reducible refine gate_builtin (b := .append) (xs := #[.tmp 81, .tmp 82]) rfl ?_); at_builtin; refine Kd.R_append_rows (Kd.int .i64) (w0 := w4) w4.heap.size rfl (.tmp 81) (.tmp 82) 22 3 (.int .i64 0) 8 rfl Tryz.underlying22 info_int rfl (by decide) (by omega) wpv ([((popL a).length : Int)] ++ (popL a)) b _ _ _ (fun _ => True) (fun _ => False) rfl rfl (HP.out) ((HU.out.rd.below HBP.out)) (fun _ _ h => h) (fun _ h => h.elim) (fun _ _ => trivial) (HBP.out) (HBP.out.size) (by (have := HTL.out; have := HUL.out; simp only [List.length_append, List.length_cons, List.length_nil]; omega)) ?_; intro wqv wq ho_ hb_ hg_ hat_; have HQ := Aside0.mk ho_; have HBQ := Aside0.mk hb_; clear hb_ ho_ hg_ hat_))
  go_ret2
  exact ⟨_, rfl, by have h := Own.of_R HQ.out; exact h.lower BT.out.size, BT.out.trans (HBQ.out.mono BT.out.size)⟩
theorem twin_getb (A : Option Addr) (c : Nat) (s : List Int) (op : ByteArray) (x y : Int) (w : World) (hr : Rd w A s) (hc : s.length ≤ c) (hl : s.length ≤ 1000) (hk0 : 0 ≤ s.getD 0 0) (hk1 : s.getD 0 0 < s.length) (q0 : (op.toList == [112, 117, 116, 97]) = false) (q1 : (op.toList == [112, 117, 116, 98]) = false) (q2 : (op.toList == [103, 101, 116, 97]) = false) (q3 : (op.toList == [103, 101, 116, 98]) = true) :
    Calls Tryz.prog 46 #[.slice A s.length c, .agg #[.string op, .int .i64 x, .int .i64 y]] w fun e w' => ∃ v, e = .returned (.tuple #[v, .int .i64 (popR (twB s))]) ∧ Own w' w.heap.size v (joinL (twA s) (popL (twB s))) ∧ Below w.heap.size w w' := by
  have b1 := al1w w (.cells #[.string op, .int .i64 x, .int .i64 y] 24 (0, 0))
  have hr1 : Rd (w.alloc (.cells #[.string op, .int .i64 x, .int .i64 y] 24 (0, 0))) A s := hr.below b1
  have B1 := Aside0.mk b1
  have n1 := heap_alloc_new w (.cells #[.string op, .int .i64 x, .int .i64 y] 24 (0, 0))
  have N1 := Aside0.mk n1
  have HR1 := Aside0.mk hr1
  have hmx := hr.max
  obtain ⟨ad, rfl, c0⟩ := hr1.at 0 (by omega)
  rw [show ad.add 0 = ad from by simp [Addr.add]] at c0
  have hl0 : (0 : Int) < (s.length : Int) := by omega
  have hl0n : 0 < s.length := by omega
  obtain ⟨j, hj⟩ : ∃ j, j = s.getD 0 0 + 1 := ⟨_, rfl⟩
  have hjw : IntKind.i64.wrap (s.getD 0 0 + 1) = j := (IntWalk.i64_in _ (by omega)).trans hj.symm
  obtain ⟨i1, hi1, _, hsz1, _⟩ := info_parts info_int
  obtain ⟨A1, hcut1, hA1, hC1⟩ := print_mid_of (P := Tryz.prog) (Value.int .i64) 0 22 3 .i64 .i64 Tryz.underlying22 hi1 hsz1 (some ad) c s 1 j (by omega) (by omega) (by omega) hc
  have HRa := Aside0.mk (Kd.C_of_reads (h1 := fun _ => rfl) (hA1 _ (Kd.reads_of_C HR1.out)))
  obtain ⟨A2, hcut2, hA2, hC2⟩ := print_drop_of (P := Tryz.prog) (Value.int .i64) 0 22 3 .i64 Tryz.underlying22 hi1 hsz1 (some ad) c s j (by omega) (by omega) hc
  have HRb := Aside0.mk (Kd.C_of_reads (h1 := fun _ => rfl) (hA2 _ (Kd.reads_of_C HR1.out)))
  have ea : (s.take j.toNat).drop (1 : Int).toNat = twA s := by unfold twA; rw [hj]; congr 2; omega
  have eb : s.drop j.toNat = twB s := by unfold twB; rw [hj]; congr 1; omega
  rw [ea] at hcut1 HRa hC1
  rw [show (1 : Int).toNat = 1 from rfl] at hcut1
  rw [eb] at hcut2 HRb hC2
  have hla : (twA s).length ≤ 1000 := by rw [← ea, List.length_drop, List.length_take]; omega
  have hlb : (twB s).length ≤ 1000 := by rw [← eb, List.length_drop]; omega
  clear ea eb hA1 hA2 hi1 hsz1 hj
  generalize twA s = a at *
  generalize twB s = b at *
  generalize s.getD 0 0 = z at *
  have HCa := Aside0.mk (ref_clone A1 (c - 1) a (w.alloc (.cells #[.string op, .int .i64 x, .int .i64 y] 24 (0, 0))) HRa.out (by omega))
  have HCb := Aside0.mk (fun W (h : Below ((w.alloc (.cells #[.string op, .int .i64 x, .int .i64 y] 24 (0, 0)))).heap.size (w.alloc (.cells #[.string op, .int .i64 x, .int .i64 y] 24 (0, 0))) W) => ref_clone A2 (c - j.toNat) b W (Kd.C_below HRb.out h) (by omega))
  have HLA := Aside0.mk hla
  have HLB := Aside0.mk hlb
  obtain ⟨m, hm⟩ : ∃ m : Int, m = (b.length : Int) - 1 := ⟨_, rfl⟩
  have hmw : IntKind.i64.wrap ((b.length : Int) - 1) = m := (IntWalk.i64_in _ (by omega)).trans hm.symm
  have HTK := Aside0.mk (fun (A : Option Addr) (c : Nat) W (h : Rd W A b) (hcc : b.length ≤ c) => (show Calls Tryz.prog 42 #[.slice A b.length c, .int .i64 m] W fun e w' => ∃ v, e = .returned (.tuple #[v, .int .i64 (popR b)]) ∧ Own w' W.heap.size v (popL b) ∧ Below W.heap.size W w' from by
    have := ref_taken A c b m W h hcc (by omega) (fun hne => ⟨by have := List.length_pos_iff.2 hne; omega, by omega⟩)
    rw [hm, taken_pop] at this
    rw [hm]; exact this))
  have HPL := Aside0.mk (show (popL b).length ≤ 1000 from by unfold popL; rw [List.length_take]; omega)
  clear hm
  clear hr hr1 hc hl b1 n1 hla hlb hk0 hk1
  go_enter Tryz.func46, Tryz.ntmps46
  have tokA : True := trivial
  go_wp2_with (first | (go_at_call 41; have _t := tokA; clear _t tokA; refine (HCa.out).mono ?_; rintro e w2 ⟨va, rfl, ho, hb⟩; obtain ⟨Aa, ca, rfl⟩ := ho.slice; have HA2 := Aside0.mk ho; have BB2 := Aside0.mk hb; have B2 := Aside0.mk (btrans B1.out hb); clear ho hb; have tokB : True := trivial) | (go_at_call 41; have _t := tokB; clear _t tokB; refine (HCb.out w2 BB2.out).mono ?_; rintro e w3 ⟨vb, rfl, ho, hb⟩; obtain ⟨Ab, cb, rfl⟩ := ho.slice; have HB3 := Aside0.mk ho; have HA3 := Aside0.mk (HA2.out.below hb); have HAP := Aside0.mk (fun k (h : (Value.slice Ab b.length cb).ownBlock = some k) => (show (Value.slice Aa a.length ca).ownBlock ≠ some k from fun e => by have h1 := HA2.out.lt k e; have h2 := ho.base_le k h; omega)); have HAQ := Aside0.mk (fun k (h : (Value.slice Aa a.length ca).ownBlock = some k) => (show (Value.slice Ab b.length cb).ownBlock ≠ some k from fun e => by have h1 := HA2.out.lt k h; have h2 := ho.base_le k e; omega)); have B3 := Aside0.mk (btrans B2.out hb); have n3 := ((btrans BB2.out hb).block _ (blk_lt N1.out)).trans N1.out; have k1 := Go.Lib.cell_of_heap n3 0; have k2 := Go.Lib.cell_of_heap n3 1; simp only [List.getElem?_toArray, List.getElem?_cons_succ, List.getElem?_cons_zero] at k1 k2; clear n3 ho hb) | (go_at_call 42; refine (HTK.out _ _ w3 HB3.out.rd (Kd.R_reads' HB3.out.R).2.1).mono ?_; rintro e w4 ⟨vt, rfl, ho, hb⟩; obtain ⟨At, ct, rfl⟩ := ho.slice; have HU := Aside0.mk ho; have HT := Aside0.mk ((HA3.out).below hb); have BT := Aside0.mk (btrans B3.out hb); have HUL := Aside0.mk (show (popL b).length ≤ 2000 from by have := HPL.out; omega); have HTL := Aside0.mk (show a.length ≤ 2000 from by have := HLA.out; omega); have HAR := Aside0.mk (fun k (h : (Value.slice At (popL b).length ct).ownBlock = some k) => (show (Value.slice Aa a.length ca).ownBlock ≠ some k from fun e => by have h1 := HA3.out.lt k e; have h2 := ho.base_le k h; omega)); clear ho hb) | ((with_reducible refine gate_dst (N := 78) rfl ?_); refine Kd.R_lit (Kd.int .i64) _ 3 ?hg (N := 78) ?hd (xs := ([(a.length : Int)] : List Int)) (inner := [.int .i64 ((a.length : Int))]) (ok := fun _ => True) (okp := fun _ => True) ?hr ?hp (fun _ hk => hk) trivial (Below.refl _ _) (Nat.le_refl _) (by simp) ?_; (case hd => rfl); (case hg => rfl); (case hr => first | (go_simp; done) | (go_simp; rfl)); (case hp => exact (Reps.one (show Kd.M (Kd.int .i64) _ _ _ ((a.length : Int)) [.int .i64 ((a.length : Int))] from rfl) (Reps.none _ _))); intro vl wl ho_ hb_ hg_ hnew_; clear hg_ hnew_; have HL := Aside0.mk ho_; have HBL := Aside0.mk hb_; clear hb_ ho_) | ((with_reducible refine gate_builtin (b := .append) (xs := #[.tmp 78, .tmp 79]) rfl ?_); at_builtin; refine Kd.R_append_rows (Kd.int .i64) (w0 := w4) w4.heap.size rfl (.tmp 78) (.tmp 79) 22 3 (.int .i64 0) 8 rfl Tryz.underlying22 info_int rfl (by decide) (by omega) vl [(a.length : Int)] a _ _ _ (fun _ => True) (fun _ => False) rfl rfl (HL.out) ((HT.out.rd.below HBL.out)) (fun _ _ h => h) (fun _ h => h.elim) (fun _ _ => trivial) (HBL.out) (HBL.out.size) (by (have := HTL.out; simp only [List.length_cons, List.length_nil]; omega)) ?_; intro wpv wp ho_ hb_ hg_ hat_; have HP := Aside0.mk ho_; have HBP := Aside0.mk hb_; clear hb_ ho_ hg_ hat_) | ((with_reducible refine gate_builtin (b := .append) (xs := #[.tmp 81, .tmp 82]) rfl ?_); at_builtin; refine Kd.R_append_rows (Kd.int .i64) (w0 := w4) w4.heap.size rfl (.tmp 81) (.tmp 82) 22 3 (.int .i64 0) 8 rfl Tryz.underlying22 info_int rfl (by decide) (by omega) wpv ([(a.length : Int)] ++ a) (popL b) _ _ _ (fun _ => True) (fun _ => False) rfl rfl (HP.out) ((HU.out.rd.below HBP.out)) (fun _ _ h => h) (fun _ h => h.elim) (fun _ _ => trivial) (HBP.out) (HBP.out.size) (by (have := HTL.out; have := HUL.out; simp only [List.length_append, List.length_cons, List.length_nil]; omega)) ?_; intro wqv wq ho_ hb_ hg_ hat_; have HQ := Aside0.mk ho_; have HBQ := Aside0.mk hb_; clear hb_ ho_ hg_ hat_))
  go_ret2
  exact ⟨_, rfl, by have h := Own.of_R HQ.out; exact h.lower BT.out.size, BT.out.trans (HBQ.out.mono BT.out.size)⟩
theorem twin_move (A : Option Addr) (c : Nat) (s : List Int) (op : ByteArray) (x y : Int) (w : World) (hr : Rd w A s) (hc : s.length ≤ c) (hl : s.length ≤ 1000) (hk0 : 0 ≤ s.getD 0 0) (hk1 : s.getD 0 0 < s.length) (hpos : twA s ≠ [] → 0 ≤ popR (twA s)) (q0 : (op.toList == [112, 117, 116, 97]) = false) (q1 : (op.toList == [112, 117, 116, 98]) = false) (q2 : (op.toList == [103, 101, 116, 97]) = false) (q3 : (op.toList == [103, 101, 116, 98]) = false) (q4 : (op.toList == [109, 111, 118, 101]) = true) :
    Calls Tryz.prog 46 #[.slice A s.length c, .agg #[.string op, .int .i64 x, .int .i64 y]] w fun e w' => ∃ v, e = .returned (.tuple #[v, .int .i64 (popR (twA s))]) ∧ Own w' w.heap.size v (joinL (popL (twA s)) (if (twA s) = [] then (twB s) else (twB s) ++ [popR (twA s)])) ∧ Below w.heap.size w w' := by
  have b1 := al1w w (.cells #[.string op, .int .i64 x, .int .i64 y] 24 (0, 0))
  have hr1 : Rd (w.alloc (.cells #[.string op, .int .i64 x, .int .i64 y] 24 (0, 0))) A s := hr.below b1
  have B1 := Aside0.mk b1
  have n1 := heap_alloc_new w (.cells #[.string op, .int .i64 x, .int .i64 y] 24 (0, 0))
  have N1 := Aside0.mk n1
  have HR1 := Aside0.mk hr1
  have hmx := hr.max
  obtain ⟨ad, rfl, c0⟩ := hr1.at 0 (by omega)
  rw [show ad.add 0 = ad from by simp [Addr.add]] at c0
  have hl0 : (0 : Int) < (s.length : Int) := by omega
  have hl0n : 0 < s.length := by omega
  obtain ⟨j, hj⟩ : ∃ j, j = s.getD 0 0 + 1 := ⟨_, rfl⟩
  have hjw : IntKind.i64.wrap (s.getD 0 0 + 1) = j := (IntWalk.i64_in _ (by omega)).trans hj.symm
  obtain ⟨i1, hi1, _, hsz1, _⟩ := info_parts info_int
  obtain ⟨A1, hcut1, hA1, hC1⟩ := print_mid_of (P := Tryz.prog) (Value.int .i64) 0 22 3 .i64 .i64 Tryz.underlying22 hi1 hsz1 (some ad) c s 1 j (by omega) (by omega) (by omega) hc
  have HRa := Aside0.mk (Kd.C_of_reads (h1 := fun _ => rfl) (hA1 _ (Kd.reads_of_C HR1.out)))
  obtain ⟨A2, hcut2, hA2, hC2⟩ := print_drop_of (P := Tryz.prog) (Value.int .i64) 0 22 3 .i64 Tryz.underlying22 hi1 hsz1 (some ad) c s j (by omega) (by omega) hc
  have HRb := Aside0.mk (Kd.C_of_reads (h1 := fun _ => rfl) (hA2 _ (Kd.reads_of_C HR1.out)))
  have ea : (s.take j.toNat).drop (1 : Int).toNat = twA s := by unfold twA; rw [hj]; congr 2; omega
  have eb : s.drop j.toNat = twB s := by unfold twB; rw [hj]; congr 1; omega
  rw [ea] at hcut1 HRa hC1
  rw [show (1 : Int).toNat = 1 from rfl] at hcut1
  rw [eb] at hcut2 HRb hC2
  have hla : (twA s).length ≤ 1000 := by rw [← ea, List.length_drop, List.length_take]; omega
  have hlb : (twB s).length ≤ 1000 := by rw [← eb, List.length_drop]; omega
  clear ea eb hA1 hA2 hi1 hsz1 hj
  generalize twA s = a at *
  generalize twB s = b at *
  generalize s.getD 0 0 = z at *
  have HCa := Aside0.mk (ref_clone A1 (c - 1) a (w.alloc (.cells #[.string op, .int .i64 x, .int .i64 y] 24 (0, 0))) HRa.out (by omega))
  have HCb := Aside0.mk (fun W (h : Below ((w.alloc (.cells #[.string op, .int .i64 x, .int .i64 y] 24 (0, 0)))).heap.size (w.alloc (.cells #[.string op, .int .i64 x, .int .i64 y] 24 (0, 0))) W) => ref_clone A2 (c - j.toNat) b W (Kd.C_below HRb.out h) (by omega))
  have HLA := Aside0.mk hla
  have HLB := Aside0.mk hlb
  obtain ⟨m, hm⟩ : ∃ m : Int, m = (a.length : Int) - 1 := ⟨_, rfl⟩
  have hmw : IntKind.i64.wrap ((a.length : Int) - 1) = m := (IntWalk.i64_in _ (by omega)).trans hm.symm
  have HTK := Aside0.mk (fun (A : Option Addr) (c : Nat) W (h : Rd W A a) (hcc : a.length ≤ c) => (show Calls Tryz.prog 42 #[.slice A a.length c, .int .i64 m] W fun e w' => ∃ v, e = .returned (.tuple #[v, .int .i64 (popR a)]) ∧ Own w' W.heap.size v (popL a) ∧ Below W.heap.size W w' from by
    have := ref_taken A c a m W h hcc (by omega) (fun hne => ⟨by have := List.length_pos_iff.2 hne; omega, by omega⟩)
    rw [hm, taken_pop] at this
    rw [hm]; exact this))
  have HPL := Aside0.mk (show (popL a).length ≤ 1000 from by unfold popL; rw [List.length_take]; omega)
  have HPR := Aside0.mk (show a = [] ∧ popR a = -1 ∨ a ≠ [] from by exact (Classical.em (a = [])).elim (fun e => .inl ⟨e, by unfold popR; rw [if_pos e]⟩) .inr)
  clear hm
  clear hr hr1 hc hl b1 n1 hla hlb hk0 hk1
  rcases HPR.out with ⟨he, hp⟩ | he
  · rw [if_pos he]
    rw [hp] at HTK ⊢
    have HE := Aside0.mk he
    clear he hp
    go_enter Tryz.func46, Tryz.ntmps46
    have tokA : True := trivial
    go_wp2_with (first | (go_at_call 41; have _t := tokA; clear _t tokA; refine (HCa.out).mono ?_; rintro e w2 ⟨va, rfl, ho, hb⟩; obtain ⟨Aa, ca, rfl⟩ := ho.slice; have HA2 := Aside0.mk ho; have BB2 := Aside0.mk hb; have B2 := Aside0.mk (btrans B1.out hb); clear ho hb; have tokB : True := trivial) | (go_at_call 41; have _t := tokB; clear _t tokB; refine (HCb.out w2 BB2.out).mono ?_; rintro e w3 ⟨vb, rfl, ho, hb⟩; obtain ⟨Ab, cb, rfl⟩ := ho.slice; have HB3 := Aside0.mk ho; have HA3 := Aside0.mk (HA2.out.below hb); have HAP := Aside0.mk (fun k (h : (Value.slice Ab b.length cb).ownBlock = some k) => (show (Value.slice Aa a.length ca).ownBlock ≠ some k from fun e => by have h1 := HA2.out.lt k e; have h2 := ho.base_le k h; omega)); have HAQ := Aside0.mk (fun k (h : (Value.slice Aa a.length ca).ownBlock = some k) => (show (Value.slice Ab b.length cb).ownBlock ≠ some k from fun e => by have h1 := HA2.out.lt k h; have h2 := ho.base_le k e; omega)); have B3 := Aside0.mk (btrans B2.out hb); have n3 := ((btrans BB2.out hb).block _ (blk_lt N1.out)).trans N1.out; have k1 := Go.Lib.cell_of_heap n3 0; have k2 := Go.Lib.cell_of_heap n3 1; simp only [List.getElem?_toArray, List.getElem?_cons_succ, List.getElem?_cons_zero] at k1 k2; clear n3 ho hb) | (go_at_call 42; refine (HTK.out _ _ w3 HA3.out.rd (Kd.R_reads' HA3.out.R).2.1).mono ?_; rintro e w4 ⟨vt, rfl, ho, hb⟩; obtain ⟨At, ct, rfl⟩ := ho.slice; have HT := Aside0.mk ho; have HU := Aside0.mk ((HB3.out).below hb); have BT := Aside0.mk (btrans B3.out hb); have HTL := Aside0.mk (show (popL a).length ≤ 2000 from by have := HPL.out; omega); have HUL := Aside0.mk (show b.length ≤ 2000 from by have := HLB.out; omega); have HAR := Aside0.mk (fun k (h : (Value.slice At (popL a).length ct).ownBlock = some k) => (show (Value.slice Ab b.length cb).ownBlock ≠ some k from fun e => by have h1 := HB3.out.lt k e; have h2 := ho.base_le k h; omega)); clear ho hb) | ((with_reducible refine gate_dst (N := 78) rfl ?_); refine Kd.R_lit (Kd.int .i64) _ 3 ?hg (N := 78) ?hd (xs := ([((popL a).length : Int)] : List Int)) (inner := [.int .i64 (((popL a).length : Int))]) (ok := fun _ => True) (okp := fun _ => True) ?hr ?hp (fun _ hk => hk) trivial (Below.refl _ _) (Nat.le_refl _) (by simp) ?_; (case hd => rfl); (case hg => rfl); (case hr => first | (go_simp; done) | (go_simp; rfl)); (case hp => exact (Reps.one (show Kd.M (Kd.int .i64) _ _ _ (((popL a).length : Int)) [.int .i64 (((popL a).length : Int))] from rfl) (Reps.none _ _))); intro vl wl ho_ hb_ hg_ hnew_; clear hg_ hnew_; have HL := Aside0.mk ho_; have HBL := Aside0.mk hb_; clear hb_ ho_) | ((with_reducible refine gate_builtin (b := .append) (xs := #[.tmp 78, .tmp 79]) rfl ?_); at_builtin; refine Kd.R_append_rows (Kd.int .i64) (w0 := w4) w4.heap.size rfl (.tmp 78) (.tmp 79) 22 3 (.int .i64 0) 8 rfl Tryz.underlying22 info_int rfl (by decide) (by omega) vl [((popL a).length : Int)] (popL a) _ _ _ (fun _ => True) (fun _ => False) rfl rfl (HL.out) ((HT.out.rd.below HBL.out)) (fun _ _ h => h) (fun _ h => h.elim) (fun _ _ => trivial) (HBL.out) (HBL.out.size) (by (have := HTL.out; simp only [List.length_cons, List.length_nil]; omega)) ?_; intro wpv wp ho_ hb_ hg_ hat_; have HP := Aside0.mk ho_; have HBP := Aside0.mk hb_; clear hb_ ho_ hg_ hat_) | ((with_reducible refine gate_builtin (b := .append) (xs := #[.tmp 81, .tmp 82]) rfl ?_); at_builtin; refine Kd.R_append_rows (Kd.int .i64) (w0 := w4) w4.heap.size rfl (.tmp 81) (.tmp 82) 22 3 (.int .i64 0) 8 rfl Tryz.underlying22 info_int rfl (by decide) (by omega) wpv ([((popL a).length : Int)] ++ (popL a)) b _ _ _ (fun _ => True) (fun _ => False) rfl rfl (HP.out) ((HU.out.rd.below HBP.out)) (fun _ _ h => h) (fun _ h => h.elim) (fun _ _ => trivial) (HBP.out) (HBP.out.size) (by (have := HTL.out; have := HUL.out; simp only [List.length_append, List.length_cons, List.length_nil]; omega)) ?_; intro wqv wq ho_ hb_ hg_ hat_; have HQ := Aside0.mk ho_; have HBQ := Aside0.mk hb_; clear hb_ ho_ hg_ hat_))
    go_ret2
    exact ⟨_, rfl, by have h := Own.of_R HQ.out; exact h.lower BT.out.size, BT.out.trans (HBQ.out.mono BT.out.size)⟩
  · rw [if_neg he]
    have hp0 : 0 ≤ popR a := hpos he
    clear he
    go_enter Tryz.func46, Tryz.ntmps46
    have tokA : True := trivial
    generalize popR a = pr at *
    go_wp2_with (first | (go_at_call 41; have _t := tokA; clear _t tokA; refine (HCa.out).mono ?_; rintro e w2 ⟨va, rfl, ho, hb⟩; obtain ⟨Aa, ca, rfl⟩ := ho.slice; have HA2 := Aside0.mk ho; have BB2 := Aside0.mk hb; have B2 := Aside0.mk (btrans B1.out hb); clear ho hb; have tokB : True := trivial) | (go_at_call 41; have _t := tokB; clear _t tokB; refine (HCb.out w2 BB2.out).mono ?_; rintro e w3 ⟨vb, rfl, ho, hb⟩; obtain ⟨Ab, cb, rfl⟩ := ho.slice; have HB3 := Aside0.mk ho; have HA3 := Aside0.mk (HA2.out.below hb); have HAP := Aside0.mk (fun k (h : (Value.slice Ab b.length cb).ownBlock = some k) => (show (Value.slice Aa a.length ca).ownBlock ≠ some k from fun e => by have h1 := HA2.out.lt k e; have h2 := ho.base_le k h; omega)); have HAQ := Aside0.mk (fun k (h : (Value.slice Aa a.length ca).ownBlock = some k) => (show (Value.slice Ab b.length cb).ownBlock ≠ some k from fun e => by have h1 := HA2.out.lt k h; have h2 := ho.base_le k e; omega)); have B3 := Aside0.mk (btrans B2.out hb); have n3 := ((btrans BB2.out hb).block _ (blk_lt N1.out)).trans N1.out; have k1 := Go.Lib.cell_of_heap n3 0; have k2 := Go.Lib.cell_of_heap n3 1; simp only [List.getElem?_toArray, List.getElem?_cons_succ, List.getElem?_cons_zero] at k1 k2; clear n3 ho hb) | (go_at_call 42; refine (HTK.out _ _ w3 HA3.out.rd (Kd.R_reads' HA3.out.R).2.1).mono ?_; rintro e w4 ⟨vt, rfl, ho, hb⟩; obtain ⟨At, ct, rfl⟩ := ho.slice; have HT := Aside0.mk ho; have HU := Aside0.mk ((HB3.out).below hb); have BT := Aside0.mk (btrans B3.out hb); have HTL := Aside0.mk (show (popL a).length ≤ 2000 from by have := HPL.out; omega); have HUL := Aside0.mk (show b.length ≤ 2000 from by have := HLB.out; omega); have HAR := Aside0.mk (fun k (h : (Value.slice At (popL a).length ct).ownBlock = some k) => (show (Value.slice Ab b.length cb).ownBlock ≠ some k from fun e => by have h1 := HB3.out.lt k e; have h2 := ho.base_le k h; omega)); clear ho hb) | ((with_reducible refine gate_builtin (b := .append) (xs := #[.tmp 72, .tmp 74]) rfl ?_); at_builtin; refine Kd.R_append (Kd.int .i64) (w0 := w) w.heap.size rfl (.tmp 72) (.tmp 74) 22 3 (.int .i64 0) 8 rfl Tryz.underlying22 info_int rfl (by decide) (by omega) (.slice Ab b.length cb) b (pr) [.int .i64 (pr)] (fun _ => True) (fun _ => False) rfl rfl rfl (fun _ hk => hk.elim) (fun _ _ => trivial) (((HU.out.lower B2.out.size).R)) (BT.out) (BT.out.size) (by (have := HLB.out; omega)) ?_; intro w5v w5 ho_ hb_ hg_ hat_; obtain ⟨w5A, w5c, rfl⟩ := Kd.R_slice ho_; obtain ⟨w5l, w5e⟩ : ∃ l, l = b ++ [(pr)] := ⟨_, rfl⟩; rw [← w5e] at ho_ ⊢; have HE_ := Aside0.mk w5e; have HU5 := Aside0.mk (Own.of_R ho_); have BT5 := Aside0.mk hb_; have HT5 := Aside0.mk (own_grown HT.out hg_ HAR.out); have HU5L := Aside0.mk (show w5l.length ≤ 2000 from by have := HLB.out; rw [w5e, List.length_append]; show b.length + 1 ≤ _; omega); have HT5L := Aside0.mk (HTL.out); clear w5e hb_ ho_ hg_ hat_) | ((with_reducible refine gate_dst (N := 78) rfl ?_); refine Kd.R_lit (Kd.int .i64) _ 3 ?hg (N := 78) ?hd (xs := ([((popL a).length : Int)] : List Int)) (inner := [.int .i64 (((popL a).length : Int))]) (ok := fun _ => True) (okp := fun _ => True) ?hr ?hp (fun _ hk => hk) trivial (Below.refl _ _) (Nat.le_refl _) (by simp) ?_; (case hd => rfl); (case hg => rfl); (case hr => first | (go_simp; done) | (go_simp; rfl)); (case hp => exact (Reps.one (show Kd.M (Kd.int .i64) _ _ _ (((popL a).length : Int)) [.int .i64 (((popL a).length : Int))] from rfl) (Reps.none _ _))); intro vl wl ho_ hb_ hg_ hnew_; clear hg_ hnew_; have HL := Aside0.mk ho_; have HBL := Aside0.mk hb_; clear hb_ ho_) | ((with_reducible refine gate_builtin (b := .append) (xs := #[.tmp 78, .tmp 79]) rfl ?_); at_builtin; refine Kd.R_append_rows (Kd.int .i64) (w0 := w5) w5.heap.size rfl (.tmp 78) (.tmp 79) 22 3 (.int .i64 0) 8 rfl Tryz.underlying22 info_int rfl (by decide) (by omega) vl [((popL a).length : Int)] (popL a) _ _ _ (fun _ => True) (fun _ => False) rfl rfl (HL.out) ((HT5.out.rd.below HBL.out)) (fun _ _ h => h) (fun _ h => h.elim) (fun _ _ => trivial) (HBL.out) (HBL.out.size) (by (have := HT5L.out; simp only [List.length_cons, List.length_nil]; omega)) ?_; intro wpv wp ho_ hb_ hg_ hat_; have HP := Aside0.mk ho_; have HBP := Aside0.mk hb_; clear hb_ ho_ hg_ hat_) | ((with_reducible refine gate_builtin (b := .append) (xs := #[.tmp 81, .tmp 82]) rfl ?_); at_builtin; refine Kd.R_append_rows (Kd.int .i64) (w0 := w5) w5.heap.size rfl (.tmp 81) (.tmp 82) 22 3 (.int .i64 0) 8 rfl Tryz.underlying22 info_int rfl (by decide) (by omega) wpv ([((popL a).length : Int)] ++ (popL a)) w5l _ _ _ (fun _ => True) (fun _ => False) rfl rfl (HP.out) ((HU5.out.rd.below HBP.out)) (fun _ _ h => h) (fun _ h => h.elim) (fun _ _ => trivial) (HBP.out) (HBP.out.size) (by (have := HT5L.out; have := HU5L.out; simp only [List.length_append, List.length_cons, List.length_nil]; omega)) ?_; intro wqv wq ho_ hb_ hg_ hat_; have HQ := Aside0.mk ho_; have HBQ := Aside0.mk hb_; clear hb_ ho_ hg_ hat_))
    go_ret2
    exact ⟨_, rfl, by have h := Own.of_R HQ.out; rw [HE_.out] at h; exact h.lower BT5.out.size, BT5.out.trans (HBQ.out.mono BT5.out.size)⟩
end Go.Proofs.YtiialjmpfeopjaaGreat.Sp
