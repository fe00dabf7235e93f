/- The rules of the specification, walked: Next, Results: plain lemmas; no condition. -/
import Derived.Test.YtiialjmpfeopjaaGreatSm5
import Derived.BigQuiet
namespace Go.Proofs.YtiialjmpfeopjaaGreat.Sp
open Go.RowKit Go.Sort Go.Proofs.YtiialjmpfeopjaaGreatW.PrintWords Go.Proofs.YtiialjmpfeopjaaGreatW.PrintLast Go.Proofs.YtiialjmpfeopjaaGreatW.PrintMore
set_option linter.unusedVariables false
set_option linter.unusedSimpArgs false
set_option maxHeartbeats 8000000
set_option maxRecDepth 100000
theorem next1_calls (a res : Int) (v : Value) (b : Nat) (w : World) (hs : ∃ A n c, v = .slice A n c) (h : w.cell? ⟨b, 0, none⟩ = some (.int .i64 res)) :
    Calls Tryz.prog 39 #[.agg #[.int .i64 a, v], .pointer (some ⟨b, 0, none⟩)] w fun e w' => e = .returned (.bool (a == res)) ∧ Below w.heap.size w w' := by
  obtain ⟨A, n, c, rfl⟩ := hs
  have B1 := Aside0.mk (al1 w (.cells #[.int .i64 a, .slice A n c] 72 (0, 0)))
  have hlt := World.block_lt_of_cell? w _ h
  have h2 := (B1.out.cell (p := ⟨b, 0, none⟩) hlt).trans h
  go_enter Tryz.func39, Tryz.ntmps39
  go_wp2
  all_goals go_ret
  all_goals exact ⟨rfl, B1.out⟩
/-- Where a result is first told. -/
def idxE (res : Int) (l : List Eff) : Option Nat := l.findIdx? fun e => e.1 == res
theorem idxE_some {res : Int} {l : List Eff} {k : Nat} (hk : k < l.length) (h0 : ∀ j (h : j < l.length), j < k → ((l[j]).1 == res) = false) (h1 : ((l[k]).1 == res) = true) : idxE res l = some k := by
  unfold idxE
  rw [List.findIdx?_eq_some_iff_getElem]
  exact ⟨hk, h1, fun j hj => by rw [h0 j (by omega) hj]; simp⟩
theorem idxE_none {res : Int} {l : List Eff} (h0 : ∀ j (h : j < l.length), ((l[j]).1 == res) = false) : idxE res l = none := by
  unfold idxE
  rw [List.findIdx?_eq_none_iff]
  intro x hx
  obtain ⟨j, hj, rfl⟩ := List.mem_iff_getElem.1 hx
  exact h0 j hj
def idxI (res : Int) (l : List Eff) : Int := match idxE res l with | some k => (k : Int) | none => -1
theorem idx_pass {res : Int} {l : List Eff} {k : Nat} (hk : k < l.length) (h1 : ((l[k]).1 == res) = false) (h0 : ∀ j (h : j < l.length), j < k → ((l[j]).1 == res) = false) : ∀ j (h : j < l.length), j < k + 1 → ((l[j]).1 == res) = false := fun j h hj => by
  by_cases e : j = k
  · subst e; exact h1
  · exact h0 j h (by omega)
theorem index_calls (res : Int) (A : Option Addr) (c : Nat) (l : List Eff) (base b : Nat) (w : World) (he : Effs w base (.slice A l.length c) l) (hl : l.length ≤ 100000) (hb : w.heap[b]? = some (.cells #[.int .i64 res] 3 (0, 0))) :
    Calls Tryz.prog 38 #[.slice A l.length c, .func (.func 39) #[] #[.pointer (some ⟨b, 0, none⟩)]] w fun e w' => e = .returned (.int .i64 (idxI res l)) ∧ Below w.heap.size w w' := by
  have HE := Aside0.mk he
  have HB := Aside0.mk hb
  have B0 := Aside0.mk (Below.refl w.heap.size w)
  have eg : ∀ args w, (callFunc 39 args).run Tryz.prog w = .ok (.enter 39 args) w := enters_of Tryz.func39 (by kernel_rfl) rfl
  clear he hb
  go_enter Tryz.func38, Tryz.ntmps38
  go_wp2
  go_loopg [8] l.length (fun gg v8 wr => ∃ kk : Nat, kk ≤ l.length ∧ l.length - kk ≤ gg ∧ v8 = .int .i64 kk ∧ Aside0 (Below w.heap.size w wr) ∧ Aside0 (∀ j (h : j < l.length), j < kk → ((l[j]).1 == res) = false))
  case atStart => exact ⟨0, Nat.zero_le _, by omega, rfl, B0, ⟨fun j _ h => absurd h (Nat.not_lt_zero _)⟩⟩
  case round =>
    clear B0
    obtain ⟨kk, hkk, hg, rfl, BR, HN⟩ := hrel
    by_cases hlt : kk < l.length
    · obtain ⟨g, A', c', rfl, hgl, k0, k1, ho⟩ := (HE.out.below BR.out).at kk hlt
      have HX := Aside0.mk (idxE_some (res := res) hlt HN.out)
      have hbx := one_cell ((BR.out.block _ (blk_lt HB.out)).trans HB.out)
      have HP := Aside0.mk (fun h1 => idx_pass (res := res) hlt h1 HN.out)
      generalize l[kk] = el at k0 k1 ho HX HP
      obtain ⟨a, s⟩ := el
      clear ho
      cases hq : (a == res) with
      | true =>
        have HQ := Aside0.mk hq
        clear hq
        go_wp2_with (go_at_fn 39; refine (next1_calls a res _ b wr ⟨_, _, _, rfl⟩ hbx).mono ?_; rintro e w1 ⟨rfl, hb⟩; rw [HQ.out]; have Q1 := Aside0.mk hb; clear hb)
        go_ret
        exact ⟨by unfold idxI; rw [HX.out HQ.out]; rfl, BR.out.trans (Q1.out.mono BR.out.size)⟩
      | false =>
        have HQ := Aside0.mk (HP.out hq)
        have HQ2 := Aside0.mk hq
        clear hq
        go_wp2_with (go_at_fn 39; refine (next1_calls a res _ b wr ⟨_, _, _, rfl⟩ hbx).mono ?_; rintro e w1 ⟨rfl, hb⟩; rw [HQ2.out]; have Q1 := Aside0.mk hb; clear hb)
        go_roundg (l.length - (kk + 1))
        case measure => omega
        case rel => exact ⟨kk + 1, hlt, by omega, by go_num, ⟨BR.out.trans (Q1.out.mono BR.out.size)⟩, HQ⟩
    · obtain rfl : kk = l.length := by omega
      go_wp2
      go_ret
      exact ⟨by unfold idxI; rw [idxE_none (fun j h => HN.out j h h)]; rfl, BR.out⟩
end Go.Proofs.YtiialjmpfeopjaaGreat.Sp

namespace Go.Proofs.YtiialjmpfeopjaaGreat.Sp
open Go.RowKit Go.Sort Go.Proofs.YtiialjmpfeopjaaGreatW.PrintWords Go.Proofs.YtiialjmpfeopjaaGreatW.PrintLast Go.Proofs.YtiialjmpfeopjaaGreatW.PrintMore
set_option linter.unusedVariables false
set_option linter.unusedSimpArgs false
set_option maxHeartbeats 8000000
set_option maxRecDepth 100000
def nextS (r n : Int) (s : List Int) (op : ByteArray) (x y t res : Int) : Option (List Int × Bool × Int) :=
  match effS r n s op x y t with
  | none => some ([], false, 1)
  | some l => if l.length ≤ 100000 then (match idxE res l with
    | none => some ([], false, 0)
    | some k => if (l.getD k (0, [])).2.length ≤ 17592186044416 then (if validS r n (l.getD k (0, [])).2 = true then some ((l.getD k (0, [])).2, true, 0) else some ([], false, 1)) else none) else none
theorem idxE_lt {res : Int} {l : List Eff} {k : Nat} (h : idxE res l = some k) : k < l.length := by
  unfold idxE at h
  rw [List.findIdx?_eq_some_iff_getElem] at h
  exact h.1
theorem next_calls {r n : Int} (A : Option Addr) (c : Nat) {s : List Int} {op : ByteArray} {x y t res : Int} (w : World) (hr : Rd w A s) (hc : s.length ≤ c) (hl : s.length ≤ 17592186044416) {q : List Int × Bool × Int} (h : nextS r n s op x y t res = some q) :
    Calls Tryz.prog 26 #[.int .i64 r, .int .i64 n, .slice A s.length c, .agg #[.string op, .int .i64 x, .int .i64 y], .int .i64 t, .int .i64 res] w fun e w' => ∃ v, e = .returned (.tuple #[v, .bool q.2.1, .int .i64 q.2.2]) ∧ Own w' w.heap.size v q.1 ∧ Below w.heap.size w w' := by
  unfold nextS at h
  let W2 := (w.alloc (.cells #[.string op, .int .i64 x, .int .i64 y] 24 (0, 0))).alloc (.cells #[.int .i64 res] 3 (0, 0))
  have B0 := Aside0.mk (show Below w.heap.size w W2 from al2 w _ _)
  have N11 := Aside0.mk (show W2.heap[w.heap.size + 1]? = some (.cells #[.int .i64 res] 3 (0, 0)) from by have := heap_alloc_new (w.alloc (.cells #[.string op, .int .i64 x, .int .i64 y] 24 (0, 0))) (.cells #[.int .i64 res] 3 (0, 0)); rwa [alloc_size] at this)
  have hr1 : Rd W2 A s := hr.below B0.out
  cases hE : effS r n s op x y t with
  | none =>
    rw [hE] at h
    simp only [Option.some.injEq] at h
    subst h
    have HF := Aside0.mk (eff_err A c W2 hE hr1 hc hl)
    clear hE hr hr1 hc hl
    unfold noRule at HF
    go_enter Tryz.func26, Tryz.ntmps26
    go_wp2_with (go_at_call 27; refine (HF.out).mono ?_; rintro e w1 ⟨rfl, hb⟩; have B1 := Aside0.mk (btrans B0.out hb); clear hb)
    refine bodyPost_ret (v := .tuple #[.slice none 0 0, .bool false, .int .i64 1]) (by simp [results, Tryz.results26, go_sem]) rfl ⟨_, rfl, own_none _ _, B1.out.alloc B1.out.size _⟩
  | some l =>
    rw [hE] at h
    obtain ⟨R, hR, hg, hF⟩ := eff_fine A c W2 hE hr1 hc hl
    have HF := Aside0.mk hF
    simp only at h
    by_cases hll : l.length ≤ 100000
    · rw [if_pos hll] at h
      have HLL := Aside0.mk hll
      cases hi : idxE res l with
      | none =>
        rw [hi] at h
        simp only [Option.some.injEq] at h
        subst h
        have HI := Aside0.mk (show idxI res l = -1 by unfold idxI; rw [hi])
        clear hE hr hr1 hc hl hF hR hg hi hll
        go_enter Tryz.func26, Tryz.ntmps26
        go_wp2_with (first
          | (go_at_call 27; refine (HF.out).mono ?_; rintro e w1 ⟨va, V, vs, ve, rfl, hP, ⟨Aa, na, ca, rfl⟩, ⟨As, ns, cs, rfl⟩, he, hb⟩; have B1 := Aside0.mk (btrans B0.out hb); have N11_1 := Aside0.mk ((hb.block _ (blk_lt N11.out)).trans N11.out); obtain ⟨Ae, ce, rfl⟩ := Effs.slice he; have HE := Aside0.mk he; obtain ⟨gp, capp, rfl, egp, hcp⟩ := hP; have HCP := Aside0.mk hcp; clear he hb hcp)
          | (go_at_call 38; refine (index_calls res Ae ce l _ (w.heap.size + 1) _ (HE.out.below (al1 w1 _)) HLL.out (blk_alloc N11_1.out _)).mono ?_; rintro e w3 ⟨rfl, hb⟩; rw [HI.out]; have N15 := Aside0.mk ((hb.block _ (blk_lt (heap_alloc_new w1 _))).trans (heap_alloc_new w1 _)); have Q3 := Aside0.mk (btrans (al1 w1 _) hb); have hc15 := (fun j : Nat => (row_old N15.out j).2); have hz15 : w1.heap.size < w3.heap.size := blk_lt N15.out; clear hb))
        refine bodyPost_ret (v := .tuple #[.slice none 0 0, .bool false, .int .i64 0]) (by simp [results, Tryz.results26, go_sem]) rfl ⟨_, rfl, own_none _ _, btrans B1.out Q3.out⟩
      | some k =>
        have hk := idxE_lt hi
        rw [hi] at h
        simp only at h
        have HI := Aside0.mk (show idxI res l = (k : Int) by unfold idxI; rw [hi])
        obtain ⟨e0, he0⟩ : ∃ e0, e0 = l[k] := ⟨_, rfl⟩
        have hd : l.getD k (0, []) = e0 := by rw [List.getD_eq_getElem?_getD, List.getElem?_eq_getElem hk, he0]; rfl
        rw [hd] at h
        by_cases hlen : e0.2.length ≤ 17592186044416
        · rw [if_pos hlen] at h
          have hv : validS r n e0.2 = R.good e0.2 := by unfold validS; rw [hR]
          rw [hv] at h
          have HLEN := Aside0.mk hlen
          have HK := Aside0.mk hk
          have HE0 := Aside0.mk he0
          clear hE hr hr1 hc hl hF hv hR hg hlen hi hd he0 hll
          cases hq : R.good e0.2 with
          | true =>
            rw [hq, if_pos rfl] at h
            simp only [Option.some.injEq] at h
            subst h
            have HQ := Aside0.mk hq
            clear hq
            go_enter Tryz.func26, Tryz.ntmps26
            go_wp2_with (first
              | (go_at_call 27; refine (HF.out).mono ?_; rintro e w1 ⟨va, V, vs, ve, rfl, hP, ⟨Aa, na, ca, rfl⟩, ⟨As, ns, cs, rfl⟩, he, hb⟩; have B1 := Aside0.mk (btrans B0.out hb); have N11_1 := Aside0.mk ((hb.block _ (blk_lt N11.out)).trans N11.out); obtain ⟨Ae, ce, rfl⟩ := Effs.slice he; have HE := Aside0.mk he; obtain ⟨gp, capp, rfl, egp, hcp⟩ := hP; have HCP := Aside0.mk hcp; clear he hb hcp)
              | (go_at_call 38; refine (index_calls res Ae ce l _ (w.heap.size + 1) _ (HE.out.below (al1 w1 _)) HLL.out (blk_alloc N11_1.out _)).mono ?_; rintro e w3 ⟨rfl, hb⟩; rw [HI.out]; have N15 := Aside0.mk ((hb.block _ (blk_lt (heap_alloc_new w1 _))).trans (heap_alloc_new w1 _)); have Q3 := Aside0.mk (btrans (al1 w1 _) hb); have hc15 := (fun j : Nat => (row_old N15.out j).2); have hz15 : w1.heap.size < w3.heap.size := blk_lt N15.out; clear hb))
            obtain ⟨g, A', c', rfl, hlt, k0, k1, ho⟩ := (HE.out.below Q3.out).at k HK.out
            rw [← HE0.out] at k0 k1 ho
            have ho' : Own w3 w.heap.size (.slice A' e0.2.length c') e0.2 := ho.lower (al2 w (.cells #[.string op, .int .i64 x, .int .i64 y] 24 (0, 0)) (.cells #[.int .i64 res] 3 (0, 0))).size
            have HO := Aside0.mk ho'
            have HCL := Aside0.mk (Kd.R_reads' ho'.R).2.1
            clear ho ho'
            have hk' := HK.out
            have hll' := HLL.out
            go_region_with (go_at_fn gp; refine (HCP.out _ A' c' e0.2 (Stays.of (by repeat (first | exact Q3.out | apply pw_below_drewN | apply below_drew1))) (HO.out.rd.below (by repeat (first | exact Below.refl _ _ | apply pw_below_drewN | apply below_drew1))) HCL.out HLEN.out).mono ?_; rintro e w2 ⟨rfl, hb⟩; rw [HQ.out]; have B2 := Aside0.mk (show Below w3.heap.size w3 w2 from Below.trans (by repeat (first | exact Below.refl _ _ | apply pw_below_drewN | apply below_drew1)) (hb.mono (by simp))); have hb1 := B2.out; obtain ⟨hcl2, hfr2⟩ := bcell hb1; clear hb1 hb)
            all_goals go_wp2
            all_goals refine bodyPost_ret (v := .tuple #[.slice A' e0.2.length c', .bool true, .int .i64 0]) (by simp [results, Tryz.results26, go_sem]) rfl ⟨_, rfl, ?_, ?_⟩
            all_goals first | exact HO.out.below B2.out | skip
            all_goals exact btrans (btrans B1.out Q3.out) B2.out
          | false =>
            rw [hq, if_neg (by decide)] at h
            simp only [Option.some.injEq] at h
            subst h
            have HQ := Aside0.mk hq
            clear hq
            go_enter Tryz.func26, Tryz.ntmps26
            go_wp2_with (first
              | (go_at_call 27; refine (HF.out).mono ?_; rintro e w1 ⟨va, V, vs, ve, rfl, hP, ⟨Aa, na, ca, rfl⟩, ⟨As, ns, cs, rfl⟩, he, hb⟩; have B1 := Aside0.mk (btrans B0.out hb); have N11_1 := Aside0.mk ((hb.block _ (blk_lt N11.out)).trans N11.out); obtain ⟨Ae, ce, rfl⟩ := Effs.slice he; have HE := Aside0.mk he; obtain ⟨gp, capp, rfl, egp, hcp⟩ := hP; have HCP := Aside0.mk hcp; clear he hb hcp)
              | (go_at_call 38; refine (index_calls res Ae ce l _ (w.heap.size + 1) _ (HE.out.below (al1 w1 _)) HLL.out (blk_alloc N11_1.out _)).mono ?_; rintro e w3 ⟨rfl, hb⟩; rw [HI.out]; have N15 := Aside0.mk ((hb.block _ (blk_lt (heap_alloc_new w1 _))).trans (heap_alloc_new w1 _)); have Q3 := Aside0.mk (btrans (al1 w1 _) hb); have hc15 := (fun j : Nat => (row_old N15.out j).2); have hz15 : w1.heap.size < w3.heap.size := blk_lt N15.out; clear hb))
            obtain ⟨g, A', c', rfl, hlt, k0, k1, ho⟩ := (HE.out.below Q3.out).at k HK.out
            rw [← HE0.out] at k0 k1 ho
            have ho' : Own w3 w.heap.size (.slice A' e0.2.length c') e0.2 := ho.lower (al2 w (.cells #[.string op, .int .i64 x, .int .i64 y] 24 (0, 0)) (.cells #[.int .i64 res] 3 (0, 0))).size
            have HO := Aside0.mk ho'
            have HCL := Aside0.mk (Kd.R_reads' ho'.R).2.1
            clear ho ho'
            have hk' := HK.out
            have hll' := HLL.out
            go_region_with (go_at_fn gp; refine (HCP.out _ A' c' e0.2 (Stays.of (by repeat (first | exact Q3.out | apply pw_below_drewN | apply below_drew1))) (HO.out.rd.below (by repeat (first | exact Below.refl _ _ | apply pw_below_drewN | apply below_drew1))) HCL.out HLEN.out).mono ?_; rintro e w2 ⟨rfl, hb⟩; rw [HQ.out]; have B2 := Aside0.mk (show Below w3.heap.size w3 w2 from Below.trans (by repeat (first | exact Below.refl _ _ | apply pw_below_drewN | apply below_drew1)) (hb.mono (by simp))); have hb1 := B2.out; obtain ⟨hcl2, hfr2⟩ := bcell hb1; clear hb1 hb)
            all_goals go_wp2
            all_goals refine bodyPost_ret (v := .tuple #[.slice none 0 0, .bool false, .int .i64 1]) (by simp [results, Tryz.results26, go_sem]) rfl ⟨_, rfl, own_none _ _, btrans (btrans B1.out Q3.out) B2.out⟩
        · rw [if_neg hlen] at h; exact absurd h (by simp)
    · rw [if_neg hll] at h; exact absurd h (by simp)
end Go.Proofs.YtiialjmpfeopjaaGreat.Sp

namespace Go.Proofs.YtiialjmpfeopjaaGreat.Sp
open Go.RowKit Go.Sort Go.Proofs.YtiialjmpfeopjaaGreatW.PrintWords Go.Proofs.YtiialjmpfeopjaaGreatW.PrintLast Go.Proofs.YtiialjmpfeopjaaGreatW.PrintMore
set_option linter.unusedVariables false
set_option linter.unusedSimpArgs false
set_option maxHeartbeats 8000000
set_option maxRecDepth 100000
def resultsS (r n : Int) (s : List Int) (op : ByteArray) (x y t : Int) : Option (List Int × Int) :=
  match effS r n s op x y t with
  | none => some ([], 1)
  | some l => if l.length ≤ 17592186044416 then some (l.map (·.1), 0) else none
theorem results_calls {r n : Int} (A : Option Addr) (c : Nat) {s : List Int} {op : ByteArray} {x y t : Int} (w : World) (hr : Rd w A s) (hc : s.length ≤ c) (hl : s.length ≤ 17592186044416) {q : List Int × Int} (h : resultsS r n s op x y t = some q) :
    Calls Tryz.prog 21 #[.int .i64 r, .int .i64 n, .slice A s.length c, .agg #[.string op, .int .i64 x, .int .i64 y], .int .i64 t] w fun e w' => ∃ v, e = .returned (.tuple #[v, .int .i64 q.2]) ∧ Own w' w.heap.size v q.1 ∧ Below w.heap.size w w' := by
  unfold resultsS at h
  have B0 := Aside0.mk (al1 w (.cells #[.string op, .int .i64 x, .int .i64 y] 24 (0, 0)))
  have hr1 := hr.below B0.out
  cases hE : effS r n s op x y t with
  | none =>
    rw [hE] at h
    simp only [Option.some.injEq] at h
    subst h
    have HF := Aside0.mk (eff_err A c _ hE hr1 hc hl)
    clear hE hr hr1 hc hl
    unfold noRule at HF
    go_enter Tryz.func21, Tryz.ntmps21
    go_wp2_with (go_at_call 27; refine (HF.out).mono ?_; rintro e w1 ⟨rfl, hb⟩; have B1 := Aside0.mk (btrans B0.out hb); clear hb)
    refine bodyPost_ret (v := .tuple #[.slice none 0 0, .int .i64 1]) (by simp [results, Tryz.results21, go_sem]) rfl ⟨_, rfl, own_none _ _, B1.out.alloc B1.out.size _⟩
  | some l =>
    rw [hE] at h
    obtain ⟨R, hR, hg, hF⟩ := eff_fine A c _ hE hr1 hc hl
    have HF := Aside0.mk hF
    simp only at h
    by_cases hll : l.length ≤ 17592186044416
    · rw [if_pos hll] at h
      simp only [Option.some.injEq] at h
      subst h
      have HLL := Aside0.mk hll
      clear hE hr hr1 hc hl hF hR hg
      go_enter Tryz.func21, Tryz.ntmps21
      go_wp2_with (go_at_call 27; refine (HF.out).mono ?_; rintro e w1 ⟨va, V, vs, ve, rfl, hP, ⟨Aa, na, ca, rfl⟩, ⟨As, ns, cs, rfl⟩, he, hb⟩; have B1 := Aside0.mk (btrans B0.out hb); obtain ⟨Ae, ce, rfl⟩ := Effs.slice he; have HE := Aside0.mk he; obtain ⟨gp, capp, rfl, egp, hcp⟩ := hP; clear he hb hcp)
      have QA := Aside0.mk (al1 w1 (.cells #[.slice Aa na ca, .func (.func gp) #[] capp, .slice As ns cs] 67 (0, 0)))
      go_loopg [15, 33] l.length (fun gg v15 v33 wr => ∃ kk : Nat, kk ≤ l.length ∧ l.length - kk ≤ gg ∧ v33 = .int .i64 kk ∧ Aside0 (Below w1.heap.size w1 wr) ∧ Aside0 (Own wr w1.heap.size v15 ((l.take kk).map (·.1))))
      case atStart => exact ⟨0, Nat.zero_le _, by omega, rfl, QA, ⟨own_none _ _⟩⟩
      case round =>
        clear QA
        obtain ⟨kk, hkk, hg, rfl, BR, HO⟩ := hrel
        by_cases hlt : kk < l.length
        · obtain ⟨g, A', c', rfl, hgl, k0, k1, ho⟩ := (HE.out.below BR.out).at kk hlt
          have HT := Aside0.mk (show (l.take (kk + 1)).map (·.1) = (l.take kk).map (·.1) ++ [(l[kk]).1] by rw [List.take_succ_eq_append_getElem hlt, List.map_append]; rfl)
          have hln : ((l.take kk).map (·.1)).length = kk := by rw [List.length_map, List.length_take]; omega
          have HO' := HO.out
          generalize (l.take kk).map (·.1) = acc at HO' HT hln
          generalize l[kk] = el at k0 k1 ho HT
          obtain ⟨a, s'⟩ := el
          subst hln
          obtain ⟨A5, c5, e5⟩ := HO'.slice
          subst e5
          have HOA := Aside0.mk (fun o => HO'.below (al1 wr o))
          have BRA := Aside0.mk (fun o => BR.out.alloc BR.out.size o)
          clear ho HO HO'
          go_wp2_with ((with_reducible refine gate_builtin (b := .append) (xs := #[.tmp 37, .tmp 40]) rfl ?_); at_builtin; refine Kd.R_append (Kd.int .i64) (w0 := wr.alloc _) w1.heap.size rfl (.tmp 37) (.tmp 40) 22 3 (.int .i64 0) 8 rfl Tryz.underlying22 info_int rfl (by decide) (by omega) _ acc a [.int .i64 a] (fun _ => True) (fun _ => False) rfl (by rw [alloc_size]; rfl) ?aP (fun _ hk => hk.elim) (fun _ _ => trivial) (HOA.out _).R (Below.refl _ _) (BRA.out _).size (by have := HLL.out; omega) ?_; (case aP => exact rfl); intro v1 wn ho hb hg2 hat; have HN := Aside0.mk (Own.of_R ho); have BN := Aside0.mk ((BRA.out _).trans hb); clear ho hb hg2 hat)
          go_roundg (l.length - (acc.length + 1))
          case measure => omega
          case rel => exact ⟨acc.length + 1, hlt, by omega, by go_num, BN, by rw [HT.out]; exact HN⟩
        · obtain rfl : kk = l.length := by omega
          have HO' := HO.out
          rw [List.take_length] at HO'
          obtain ⟨A5, c5, e5⟩ := HO'.slice
          subst e5
          have HF := Aside0.mk HO'
          clear HO HO'
          go_wp2
          refine bodyPost_ret (v := .tuple #[.slice A5 (l.map (·.1)).length c5, .int .i64 0]) (by simp [results, Tryz.results21, go_sem]) rfl ⟨_, rfl, HF.out.lower B1.out.size, btrans B1.out BR.out⟩
    · rw [if_neg hll] at h; exact absurd h (by simp)
end Go.Proofs.YtiialjmpfeopjaaGreat.Sp
