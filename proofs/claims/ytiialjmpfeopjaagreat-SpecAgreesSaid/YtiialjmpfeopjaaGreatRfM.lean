/- The program's May and Reads, the document's Reads, what the law asks, walked: plain lemmas; no condition. -/
import Derived.Test.YtiialjmpfeopjaaGreatSm5
import Derived.Test.YtiialjmpfeopjaaGreatRfK
import Derived.Test.YtiialjmpfeopjaaGreatRfC
import Derived.BigQuiet
import Derived.Deep.QuietTactic
namespace Go.Proofs.YtiialjmpfeopjaaGreat.Sp
open Go.RowKit Go.Sort Go.Proofs.YtiialjmpfeopjaaGreatW.PrintWords Go.Proofs.YtiialjmpfeopjaaGreatW.PrintLast Go.Proofs.YtiialjmpfeopjaaGreatW.PrintMore
set_option linter.unusedVariables false
set_option linter.unusedSimpArgs false
set_option maxHeartbeats 8000000
set_option maxRecDepth 100000
theorem act_none' (va V vs : Value) (l : List ActS) (op : ByteArray) (x y t : Int) (w : World) (hA : ActsV w va l) (hl : l.length ≤ 100) (oV : V.oneCell' = true) (oS : vs.oneCell' = true) (h : actS l op x y t = none) :
    Calls Tryz.prog 37 #[.agg #[va, V, vs], .agg #[.string op, .int .i64 x, .int .i64 y], .int .i64 t] w fun e w' => e = .returned (.tuple #[.agg zeroAct, .bool false]) ∧ Below w.heap.size w w' := by
  refine (act_calls va V vs l op x y t w hA hl oV oS).mono ?_
  rintro e w' (⟨v, a', ha, h1, h2, h3⟩ | ⟨ha, h1, h2⟩)
  · rw [h] at ha; exact absurd ha (by simp)
  · exact ⟨h1, h2⟩
def mayS (r : Int) (op : ByteArray) (x y t : Int) : Bool := match ruleS r 1 with | none => false | some R => (actS R.acts op x y t).isSome
def readsS (r : Int) (op : ByteArray) (x y : Int) : Bool × Int := match ruleS r 1 with | none => (false, 1) | some R => match actS R.acts op x y 0 with | none => (false, 1) | some a => (a.rd, 0)
theorem spec_may (r : Int) (op : ByteArray) (x y t : Int) (w : World) : Calls Tryz.prog 25 #[.int .i64 r, .agg #[.string op, .int .i64 x, .int .i64 y], .int .i64 t] w fun e w' => e = .returned (.bool (mayS r op x y t)) ∧ Below w.heap.size w w' := by
  have b1 := al1 w (.cells #[.string op, .int .i64 x, .int .i64 y] 24 (0, 0))
  have B1 := Aside0.mk b1
  have n1 := heap_alloc_new w (.cells #[.string op, .int .i64 x, .int .i64 y] 24 (0, 0))
  have N1 := Aside0.mk n1
  clear b1 n1
  unfold mayS
  cases hR : ruleS r 1 with
  | none =>
    have HF := Aside0.mk (fun W => find_no hR W)
    clear hR
    simp only
    go_enter Tryz.func25, Tryz.ntmps25
    go_wp2_with (first | (go_at_call 36; refine (HF.out _).mono ?_; rintro e w1 ⟨rfl, hb⟩; unfold noRule; have B2 := Aside0.mk (btrans B1.out hb); clear hb))
    go_ret
    exact ⟨rfl, B2.out.alloc B2.out.size _⟩
  | some R =>
    have HF := Aside0.mk (fun W => find_some hR W)
    have HLA := Aside0.mk (acts_le hR)
    clear hR
    simp only
    cases ha : actS R.acts op x y t with
    | none =>
      have HN := Aside0.mk ha
      clear ha
      go_enter Tryz.func25, Tryz.ntmps25
      go_wp2_with (first | (go_at_call 36; refine (HF.out _).mono ?_; rintro e w1 ⟨v1, rfl, ⟨va, V, vs, rfl, hA, hP, hO⟩, hb⟩; have B2 := Aside0.mk (btrans B1.out hb); have HA1 := Aside0.mk (fun o => hA.below (al1 w1 o)); have n2 := (hb.block _ (blk_lt N1.out)).trans N1.out; have N2 := Aside0.mk n2; have k1 := Go.Lib.cell_of_heap n2 0; have k2 := Go.Lib.cell_of_heap n2 1; have k3 := Go.Lib.cell_of_heap n2 2; simp only [List.getElem?_toArray, List.getElem?_cons_succ, List.getElem?_cons_zero] at k1 k2 k3; have hlt := blk_lt n2; have N3 := Aside0.mk (fun o => heap_alloc_new w1 o); obtain ⟨Aa, ca, rfl⟩ := hA.slice; obtain ⟨As, cs, rfl⟩ := hO.slice; obtain ⟨gp, capp, rfl, egp, hcp⟩ := hP; clear n2 hA hb hO hcp) | (go_at_call 37; refine (act_none' _ _ _ R.acts op x y t _ (HA1.out _) HLA.out rfl rfl HN.out).mono ?_; rintro e w6 ⟨rfl, hb⟩; unfold zeroAct; have B6 := Aside0.mk ((B2.out.alloc B2.out.size _).trans (hb.mono (B2.out.alloc B2.out.size _).size)); clear hb))
      go_ret
      exact ⟨rfl, B6.out⟩
    | some a =>
      have HN := Aside0.mk ha
      clear ha
      go_enter Tryz.func25, Tryz.ntmps25
      go_wp2_with (first | (go_at_call 36; refine (HF.out _).mono ?_; rintro e w1 ⟨v1, rfl, ⟨va, V, vs, rfl, hA, hP, hO⟩, hb⟩; have B2 := Aside0.mk (btrans B1.out hb); have HA1 := Aside0.mk (fun o => hA.below (al1 w1 o)); have n2 := (hb.block _ (blk_lt N1.out)).trans N1.out; have N2 := Aside0.mk n2; have k1 := Go.Lib.cell_of_heap n2 0; have k2 := Go.Lib.cell_of_heap n2 1; have k3 := Go.Lib.cell_of_heap n2 2; simp only [List.getElem?_toArray, List.getElem?_cons_succ, List.getElem?_cons_zero] at k1 k2 k3; have hlt := blk_lt n2; have N3 := Aside0.mk (fun o => heap_alloc_new w1 o); obtain ⟨Aa, ca, rfl⟩ := hA.slice; obtain ⟨As, cs, rfl⟩ := hO.slice; obtain ⟨gp, capp, rfl, egp, hcp⟩ := hP; clear n2 hA hb hO hcp) | (go_at_call 37; refine (act_some _ _ _ R.acts op x y t _ (HA1.out _) HLA.out rfl rfl HN.out).mono ?_; rintro e w6 ⟨v6, rfl, ⟨V6, rfl, hd⟩, hb⟩; have B6 := Aside0.mk ((B2.out.alloc B2.out.size _).trans (hb.mono (B2.out.alloc B2.out.size _).size)); obtain ⟨ga, capa, rfl, ega, hca⟩ := hd; clear hca hb))
      go_ret
      exact ⟨rfl, B6.out⟩
theorem spec_reads (r : Int) (op : ByteArray) (x y : Int) (w : World) : Calls Tryz.prog 22 #[.int .i64 r, .agg #[.string op, .int .i64 x, .int .i64 y]] w fun e w' => e = .returned (.tuple #[.bool (readsS r op x y).1, .int .i64 (readsS r op x y).2]) ∧ Below w.heap.size w w' := by
  have b1 := al1 w (.cells #[.string op, .int .i64 x, .int .i64 y] 24 (0, 0))
  have B1 := Aside0.mk b1
  have n1 := heap_alloc_new w (.cells #[.string op, .int .i64 x, .int .i64 y] 24 (0, 0))
  have N1 := Aside0.mk n1
  clear b1 n1
  unfold readsS
  cases hR : ruleS r 1 with
  | none =>
    have HF := Aside0.mk (fun W => find_no hR W)
    clear hR
    simp only
    go_enter Tryz.func22, Tryz.ntmps22
    go_wp2_with (first | (go_at_call 36; refine (HF.out _).mono ?_; rintro e w1 ⟨rfl, hb⟩; unfold noRule; have B2 := Aside0.mk (btrans B1.out hb); clear hb))
    go_ret2
    exact ⟨rfl, B2.out.alloc B2.out.size _⟩
  | some R =>
    have HF := Aside0.mk (fun W => find_some hR W)
    have HLA := Aside0.mk (acts_le hR)
    clear hR
    simp only
    cases ha : actS R.acts op x y 0 with
    | none =>
      have HN := Aside0.mk ha
      clear ha
      simp only
      go_enter Tryz.func22, Tryz.ntmps22
      go_wp2_with (first | (go_at_call 36; refine (HF.out _).mono ?_; rintro e w1 ⟨v1, rfl, ⟨va, V, vs, rfl, hA, hP, hO⟩, hb⟩; have B2 := Aside0.mk (btrans B1.out hb); have HA1 := Aside0.mk (fun o => hA.below (al1 w1 o)); have n2 := (hb.block _ (blk_lt N1.out)).trans N1.out; have N2 := Aside0.mk n2; have k1 := Go.Lib.cell_of_heap n2 0; have k2 := Go.Lib.cell_of_heap n2 1; have k3 := Go.Lib.cell_of_heap n2 2; simp only [List.getElem?_toArray, List.getElem?_cons_succ, List.getElem?_cons_zero] at k1 k2 k3; have hlt := blk_lt n2; have N3 := Aside0.mk (fun o => heap_alloc_new w1 o); obtain ⟨Aa, ca, rfl⟩ := hA.slice; obtain ⟨As, cs, rfl⟩ := hO.slice; obtain ⟨gp, capp, rfl, egp, hcp⟩ := hP; clear n2 hA hb hO hcp) | (go_at_call 37; refine (act_none' _ _ _ R.acts op x y 0 _ (HA1.out _) HLA.out rfl rfl HN.out).mono ?_; rintro e w6 ⟨rfl, hb⟩; unfold zeroAct; have B6 := Aside0.mk ((B2.out.alloc B2.out.size _).trans (hb.mono (B2.out.alloc B2.out.size _).size)); clear hb))
      go_ret2
      exact ⟨rfl, B6.out.alloc B6.out.size _⟩
    | some a =>
      have HN := Aside0.mk ha
      clear ha
      simp only
      go_enter Tryz.func22, Tryz.ntmps22
      go_wp2_with (first | (go_at_call 36; refine (HF.out _).mono ?_; rintro e w1 ⟨v1, rfl, ⟨va, V, vs, rfl, hA, hP, hO⟩, hb⟩; have B2 := Aside0.mk (btrans B1.out hb); have HA1 := Aside0.mk (fun o => hA.below (al1 w1 o)); have n2 := (hb.block _ (blk_lt N1.out)).trans N1.out; have N2 := Aside0.mk n2; have k1 := Go.Lib.cell_of_heap n2 0; have k2 := Go.Lib.cell_of_heap n2 1; have k3 := Go.Lib.cell_of_heap n2 2; simp only [List.getElem?_toArray, List.getElem?_cons_succ, List.getElem?_cons_zero] at k1 k2 k3; have hlt := blk_lt n2; have N3 := Aside0.mk (fun o => heap_alloc_new w1 o); obtain ⟨Aa, ca, rfl⟩ := hA.slice; obtain ⟨As, cs, rfl⟩ := hO.slice; obtain ⟨gp, capp, rfl, egp, hcp⟩ := hP; clear n2 hA hb hO hcp) | (go_at_call 37; refine (act_some _ _ _ R.acts op x y 0 _ (HA1.out _) HLA.out rfl rfl HN.out).mono ?_; rintro e w6 ⟨v6, rfl, ⟨V6, rfl, hd⟩, hb⟩; have B6 := Aside0.mk ((B2.out.alloc B2.out.size _).trans (hb.mono (B2.out.alloc B2.out.size _).size)); obtain ⟨ga, capa, rfl, ega, hca⟩ := hd; clear hca hb))
      go_ret2
      exact ⟨rfl, B6.out.alloc B6.out.size _⟩
def readsR (r : Int) (op : ByteArray) : Bool := isN op [104, 97, 115] || isN op [97, 108, 108] || isN op [114, 101, 97, 100] || isN op [115, 99, 97, 110] || isN op [115, 97, 109, 101] || isN op [98, 111, 116, 104] || (isN op [103, 101, 116] && ((r == 14) || (r == 16)))
theorem ref_reads (r : Int) (op : ByteArray) (w : World) : Calls Tryz.prog 23 #[.int .i64 r, .string op] w fun e w' => e = .returned (.bool (readsR r op)) ∧ w' = w := by
  unfold readsR isN
  cases h0 : (op.toList == [104, 97, 115]) with
  | true =>
    go_enter Tryz.func23, Tryz.ntmps23
    go_wp2
    go_ret
    exact ⟨rfl, rfl⟩
  | false =>
    cases h1 : (op.toList == [97, 108, 108]) with
    | true =>
      go_enter Tryz.func23, Tryz.ntmps23
      go_wp2
      go_ret
      exact ⟨rfl, rfl⟩
    | false =>
      cases h2 : (op.toList == [114, 101, 97, 100]) with
      | true =>
        go_enter Tryz.func23, Tryz.ntmps23
        go_wp2
        go_ret
        exact ⟨rfl, rfl⟩
      | false =>
        cases h3 : (op.toList == [115, 99, 97, 110]) with
        | true =>
          go_enter Tryz.func23, Tryz.ntmps23
          go_wp2
          go_ret
          exact ⟨rfl, rfl⟩
        | false =>
          cases h4 : (op.toList == [115, 97, 109, 101]) with
          | true =>
            go_enter Tryz.func23, Tryz.ntmps23
            go_wp2
            go_ret
            exact ⟨rfl, rfl⟩
          | false =>
            cases h5 : (op.toList == [98, 111, 116, 104]) with
            | true =>
              go_enter Tryz.func23, Tryz.ntmps23
              go_wp2
              go_ret
              exact ⟨rfl, rfl⟩
            | false =>
              cases h6 : (op.toList == [103, 101, 116]) with
              | false =>
                go_enter Tryz.func23, Tryz.ntmps23
                go_wp2
                go_ret
                exact ⟨rfl, rfl⟩
              | true =>
                cases h7 : (r == 14) with
                | true =>
                  go_enter Tryz.func23, Tryz.ntmps23
                  go_wp2
                  go_ret
                  exact ⟨rfl, rfl⟩
                | false =>
                  cases h8 : (r == 16) with
                  | true =>
                    go_enter Tryz.func23, Tryz.ntmps23
                    go_wp2
                    go_ret
                    exact ⟨rfl, rfl⟩
                  | false =>
                    go_enter Tryz.func23, Tryz.ntmps23
                    go_wp2
                    go_ret
                    exact ⟨rfl, rfl⟩
theorem asked_calls (r n : Int) (A : Option Addr) (c : Nat) (s : List Int) (op : ByteArray) (x y t : Int) (w : World) (hr : Rd w A s) (hc : s.length ≤ c) : Calls Tryz.prog 12 #[.int .i64 r, .int .i64 n, .slice A s.length c, .agg #[.string op, .int .i64 x, .int .i64 y], .int .i64 t] w fun e w' => e = .returned (.bool (validR r n s && mayR r op x y t)) ∧ Below w.heap.size w w' := by
  have b1 := al1 w (.cells #[.string op, .int .i64 x, .int .i64 y] 24 (0, 0))
  have B1 := Aside0.mk b1
  have n1 := heap_alloc_new w (.cells #[.string op, .int .i64 x, .int .i64 y] 24 (0, 0))
  have N1 := Aside0.mk n1
  clear b1 n1
  have HV := Aside0.mk (ref_valid r n A c s _ (hr.below B1.out) hc)
  have HM := Aside0.mk (fun W => ref_may r op x y t W)
  obtain ⟨p, hp⟩ : ∃ p, p = validR r n s := ⟨_, rfl⟩
  obtain ⟨q, hq⟩ : ∃ q, q = mayR r op x y t := ⟨_, rfl⟩
  rw [← hp] at HV ⊢
  rw [← hq] at HM ⊢
  clear hr hc hp hq
  cases p with
  | false =>
    go_enter Tryz.func12, Tryz.ntmps12
    go_wp2_with (first | (go_at_call 15; refine (HV.out).mono ?_; rintro e w2 ⟨rfl, q2, hw⟩; have B2 := Aside0.mk (show Below w.heap.size w w2 from by rw [hw]; exact pw_below_drewN B1.out q2); clear hw))
    go_ret
    exact ⟨rfl, B2.out⟩
  | true =>
    go_enter Tryz.func12, Tryz.ntmps12
    go_wp2_with (first | (go_at_call 15; refine (HV.out).mono ?_; rintro e w2 ⟨rfl, q2, hw⟩; have B2 := Aside0.mk (show Below w.heap.size w w2 from by rw [hw]; exact pw_below_drewN B1.out q2); have n2 : w2.heap[w.heap.size]? = some (.cells #[.string op, .int .i64 x, .int .i64 y] 24 (0, 0)) := (by rw [hw]; exact N1.out); have k1 := Go.Lib.cell_of_heap n2 0; have k2 := Go.Lib.cell_of_heap n2 1; have k3 := Go.Lib.cell_of_heap n2 2; simp only [List.getElem?_toArray, List.getElem?_cons_succ, List.getElem?_cons_zero] at k1 k2 k3; clear n2 hw) | (go_at_call 20; refine (HM.out _).mono ?_; rintro e w3 ⟨rfl, hb⟩; have B3 := Aside0.mk (btrans B2.out hb); clear hb))
    go_ret
    exact ⟨rfl, B3.out⟩
end Go.Proofs.YtiialjmpfeopjaaGreat.Sp
