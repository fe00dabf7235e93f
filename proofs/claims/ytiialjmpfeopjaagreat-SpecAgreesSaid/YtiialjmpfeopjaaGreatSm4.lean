/- The rules of the specification, walked: the rules, found: plain lemmas; no condition. -/
import Derived.Test.YtiialjmpfeopjaaGreatSm3
import Derived.BigQuiet
namespace Go.Proofs.YtiialjmpfeopjaaGreat.Sp
open Go.RowKit Go.Sort Go.Proofs.YtiialjmpfeopjaaGreatW.PrintWords Go.Proofs.YtiialjmpfeopjaaGreatW.PrintLast Go.Proofs.YtiialjmpfeopjaaGreatW.PrintMore
set_option linter.unusedVariables false
set_option linter.unusedSimpArgs false
set_option maxHeartbeats 8000000
set_option maxRecDepth 100000
/-- A rule: what it may do, which lists are its states, and the first one. -/
structure RuleS where
  acts : List ActS
  good : List Int → Bool
  start : List Int
def RuleV (w : World) (base : Nat) (v : Value) (R : RuleS) : Prop := ∃ va V vs, v = .agg #[va, V, vs] ∧ ActsV w va R.acts ∧ PredV w V R.good ∧ Own w base vs R.start
theorem ActsV.slice {w : World} {v : Value} {l : List ActS} (h : ActsV w v l) : ∃ A c, v = .slice A l.length c := by
  obtain ⟨base, Vs, hl, hr, hd⟩ := h
  obtain ⟨A, c, e⟩ := Kd.R_slice hr
  refine ⟨A, c, ?_⟩
  rw [e, List.length_zipWith, hl, Nat.min_self]
theorem ActsV.rule {w : World} {v : Value} {l : List ActS} (h : ActsV w v l) {k : Nat} {c : Array Value} (hN : w.heap[k]? = some (.cells c 67 (0, 0))) (j : Nat) (u : Value) : ActsV (w.setCell ⟨k, j, none⟩ u) v l := by
  obtain ⟨base, Vs, hl, hr, hd⟩ := h
  refine ⟨base, Vs, hl, Kd.R_mono (Kd.R_far (p := ⟨k, j, none⟩) (Kd.R_types hr hN (by intro q hq; simp [Kd.raw] at hq; subst hq; decide)) (fun _ hk => hk.2) u) (fun _ _ => trivial), fun j' a V h1 h2 => (hd j' a V h1 h2).mono (Stays.set hN (.inr rfl) j u) (by simp [World.setCell])⟩
theorem Own.rule {w : World} {base : Nat} {v : Value} {s : List Int} (h : Own w base v s) {k : Nat} {c : Array Value} (hN : w.heap[k]? = some (.cells c 67 (0, 0))) (j : Nat) (u : Value) : Own (w.setCell ⟨k, j, none⟩ u) base v s :=
  Own.of_R (Kd.R_far (p := ⟨k, j, none⟩) (Kd.R_types h.R hN (fun q hq => (List.mem_cons.1 hq).elim (fun e => by rw [e]; decide) (fun h => absurd h List.not_mem_nil))) (fun _ hk => hk.2) u)
theorem rule_end {w X : World} {base k : Nat} {c : Array Value} {va V vs : Value} {R : RuleS} (hN : X.heap[k]? = some (.cells c 67 (0, 0))) (hk : w.heap.size ≤ k) (hB : Below w.heap.size w X) (ha : ActsV X va R.acts) (hp : PredV X V R.good) (ho : Own X base vs R.start) (u0 u1 u2 : Value) :
    RuleV (((X.setCell ⟨k, 0, none⟩ u0).setCell ⟨k, 1, none⟩ u1).setCell ⟨k, 2, none⟩ u2) base (.agg #[va, V, vs]) R ∧ Below w.heap.size w (((X.setCell ⟨k, 0, none⟩ u0).setCell ⟨k, 1, none⟩ u1).setCell ⟨k, 2, none⟩ u2) := by
  have h0 := blk_set hN 0 u0
  have h1 := blk_set h0 1 u1
  exact ⟨⟨va, V, vs, rfl, ((ha.rule hN 0 u0).rule h0 1 u1).rule h1 2 u2, ((hp.mono (Stays.set hN (.inr rfl) 0 u0)).mono (Stays.set h0 (.inr rfl) 1 u1)).mono (Stays.set h1 (.inr rfl) 2 u2), ((ho.rule hN 0 u0).rule h0 1 u1).rule h1 2 u2⟩,
    ((hB.setCell (p := ⟨k, 0, none⟩) hk u0).setCell (p := ⟨k, 1, none⟩) hk u1).setCell (p := ⟨k, 2, none⟩) hk u2⟩
theorem past3 {X : World} {k : Nat} (hk : k < X.heap.size) (o : Obj) (u0 u1 u2 : Value) : (((X.setCell ⟨k, 0, none⟩ u0).setCell ⟨k, 1, none⟩ u1).setCell ⟨k, 2, none⟩ u2).alloc o = (((X.alloc o).setCell ⟨k, 0, none⟩ u0).setCell ⟨k, 1, none⟩ u1).setCell ⟨k, 2, none⟩ u2 := by
  rw [World.setCell_alloc_past o k 0 u0 hk, World.setCell_alloc_past o k 1 u1 (by simpa [World.setCell] using hk), World.setCell_alloc_past o k 2 u2 (by simpa [World.setCell] using hk)]
theorem past32 {X : World} {k : Nat} (hk : k < X.heap.size) (o o' : Obj) (u0 u1 u2 : Value) : ((((X.setCell ⟨k, 0, none⟩ u0).setCell ⟨k, 1, none⟩ u1).setCell ⟨k, 2, none⟩ u2).alloc o).alloc o' = ((((X.alloc o).alloc o').setCell ⟨k, 0, none⟩ u0).setCell ⟨k, 1, none⟩ u1).setCell ⟨k, 2, none⟩ u2 := by
  rw [past3 hk, past3 (by rw [alloc_size]; omega)]
def zeroRule : Array Value := #[.slice none 0 0, .nilFunc, .slice none 0 0]
theorem start_lit (W : World) (s : List Int) (base : Nat) (hbs : base ≤ W.heap.size) (hl : s.length ≤ 1000) (cs : Array Value) (hcs : cs = (nums .i64 s).toArray) {b n : Nat} (hb : b = W.heap.size) (hn : n = s.length) : Own (W.alloc (.cells cs 3 (0, 0))) base (.slice (some ⟨b, 0, none⟩) n n) s := by
  subst hcs hb hn
  exact own_lit W base 3 .i64 s hbs (by omega)
theorem backed (s : List Int) (h : s ≠ []) : 0 ≤ (s.length : Int) - 1 ∧ (s.length : Int) - 1 < s.length := by
  have := List.length_pos_iff.2 h
  omega
theorem fronted (s : List Int) (h : s ≠ []) : 0 ≤ (0 : Int) ∧ (0 : Int) < s.length := by
  have := List.length_pos_iff.2 h
  omega
theorem al1 (w : World) (o : Obj) : Below w.heap.size w (w.alloc o) := (Below.refl _ _).alloc (Nat.le_refl _) o
theorem al2 (w : World) (o o' : Obj) : Below w.heap.size w ((w.alloc o).alloc o') := (al1 w o).alloc (al1 w o).size o'
def putS (nm : ByteArray) (pre : List Int → Int → Prop) (F : List Int → Int → List Int) : ActS := ⟨nm, 1, 0, 900, 4, false, ofInto pre, putD F⟩
def takeS (nm : ByteArray) (P : List Int → Int) : ActS := ⟨nm, 0, 0, 0, 4, false, fun _ _ _ _ => True, takeD P⟩
def tellS (nm : ByteArray) (pre : List Int → Prop) (M : List Int → Int) : ActS := ⟨nm, 0, 0, 0, 4, true, fun s _ _ _ => pre s, tellD M⟩
def byS (n : Int) (a : ActS) : ActS := { a with thr := n }
def growS (lo hi thr : Int) (old : Bool) : ActS := ⟨⟨#[97, 100, 100]⟩, 1, lo, hi, thr, false, growPre 0 0, growD old⟩
def limS (n : Int) : ActS := ⟨⟨#[101, 110, 113]⟩, 1, 0, 900, 4, false, ofInto (fun _ _ => True), limD n (putD fun s x => s ++ [x])⟩
theorem united_pred (w : World) : PredV w (.func (.func 67) #[] #[]) unitedB :=
  ⟨67, #[], rfl, enters_of Tryz.func67 (by kernel_rfl) rfl, fun W A c s _ hr hc hl => united_calls A c s W hr hc hl⟩
theorem twin_pred (w : World) : PredV w (.func (.func 72) #[] #[]) twinB :=
  ⟨72, #[], rfl, enters_of Tryz.func72 (by kernel_rfl) rfl, fun W A c s _ hr hc hl => twin_calls A c s W hr hc hl⟩
def FindsAt (r n : Int) (R : RuleS) : Prop := ∀ w : World, Calls Tryz.prog 36 #[.int .i64 r, .int .i64 n] w fun e w' => ∃ v, e = .returned (.tuple #[v, .bool true]) ∧ RuleV w' w.heap.size v R ∧ Below w.heap.size w w'
end Go.Proofs.YtiialjmpfeopjaaGreat.Sp

namespace Go.Proofs.YtiialjmpfeopjaaGreat.Sp
open Go.RowKit Go.Sort Go.Proofs.YtiialjmpfeopjaaGreatW.PrintWords Go.Proofs.YtiialjmpfeopjaaGreatW.PrintLast Go.Proofs.YtiialjmpfeopjaaGreatW.PrintMore
set_option linter.unusedVariables false
set_option linter.unusedSimpArgs false
set_option maxHeartbeats 8000000
set_option maxRecDepth 100000
def rule1 : RuleS := ⟨[putS ⟨#[112, 117, 115, 104]⟩ (fun _ _ => True) (fun s x => s ++ [x]), takeS ⟨#[112, 111, 112]⟩ (fun s => (s.length : Int) - 1)], wordsB 24 900, []⟩
theorem find1 (n : Int) (h1 : 1 ≤ n) (h2 : n ≤ 8) : FindsAt 1 n rule1 := by
  intro w
  have B0 := Aside0.mk ((Below.refl w.heap.size w).alloc (Nat.le_refl _) (.cells zeroRule 67 (0, 0)))
  have N0 := Aside0.mk (heap_alloc_new w (.cells zeroRule 67 (0, 0)))
  go_enter Tryz.func36, Tryz.ntmps36
  have tok1 : True := trivial
  go_wp2_with (first
    | (go_at_call 47; have _t := tok1; refine (words_calls 24 900 _).mono ?_; rintro e w1 ⟨V1, rfl, hp, hb⟩; have HP1 := Aside0.mk hp; have B1 := Aside0.mk (btrans B0.out hb); have N1 := Aside0.mk ((hb.block _ (blk_lt N0.out)).trans N0.out); obtain ⟨g1, cap1, rfl, _⟩ := hp; clear hb tok1; have tok2 : True := trivial)
    | (go_at_call 48; have _t := tok2; refine (put_calls ⟨#[112, 117, 115, 104]⟩ 900 _ _ _ _ (behind_into _)).mono ?_; rintro e w2 ⟨v2, rfl, ha, hb⟩; obtain ⟨V2, rfl, hp⟩ := ha; have HD2 := Aside0.mk hp; have Q2 := Aside0.mk (show Below w1.heap.size w1 w2 from hb); have B2 := Aside0.mk (btrans B1.out hb); have N2 := Aside0.mk ((hb.block _ (blk_lt N1.out)).trans N1.out); obtain ⟨g2, cap2, rfl, _⟩ := hp; clear hb tok2; have tok3 : True := trivial)
    | (go_at_call 50; have _t := tok3; refine (take_calls ⟨#[112, 111, 112]⟩ _ _ _ (back_meas _) backed).mono ?_; rintro e w3 ⟨v3, rfl, ha, hb⟩; obtain ⟨V3, rfl, hp⟩ := ha; have HD3 := Aside0.mk hp; have Q3 := Aside0.mk (show Below w2.heap.size w2 w3 from hb); have B3 := Aside0.mk (btrans B2.out hb); have N3 := Aside0.mk ((hb.block _ (blk_lt N2.out)).trans N2.out); have hfz := (fun j => (row_old N3.out j).1); have hcz := (fun j => (row_old N3.out j).2); unfold zeroRule at hcz; have hz : w.heap.size < w3.heap.size := blk_lt N3.out; obtain ⟨g3, cap3, rfl, _⟩ := hp; clear hb tok3))
  rw [past3 hz]
  have hcy := fun o j => (row_old (blk_alloc N3.out o) j).2
  unfold zeroRule at hcy
  refine bodyPost_ret (v := .tuple #[.agg #[.slice (some ⟨w3.heap.size, 0, none⟩) 2 2, .func (.func g1) #[] cap1, .slice none 0 0], .bool true]) (by simp [results, Tryz.results36, go_sem, hcy]) rfl ?_
  have hA : ActsV (w3.alloc (.cells (List.zipWith acells [putS ⟨#[112, 117, 115, 104]⟩ (fun _ _ => True) (fun s x => s ++ [x]), takeS ⟨#[112, 111, 112]⟩ (fun s => (s.length : Int) - 1)] [.func (.func g2) #[] cap2, .func (.func g3) #[] cap3]).flatten.toArray 87 (0, 0))) (.slice (some ⟨w3.heap.size, 0, none⟩) 2 2) [putS ⟨#[112, 117, 115, 104]⟩ (fun _ _ => True) (fun s x => s ++ [x]), takeS ⟨#[112, 111, 112]⟩ (fun s => (s.length : Int) - 1)] := by
    refine acts_lit w3 [putS ⟨#[112, 117, 115, 104]⟩ (fun _ _ => True) (fun s x => s ++ [x]), takeS ⟨#[112, 111, 112]⟩ (fun s => (s.length : Int) - 1)] [.func (.func g2) #[] cap2, .func (.func g3) #[] cap3] rfl (fun j a V h1 h2 => ?_) (by simp) _ rfl rfl rfl
    match j, h1, h2 with
    | 0, h1, h2 => cases h1; cases h2; exact HD2.out.mono (Stays.of Q3.out) Q3.out.size
    | 1, h1, h2 => cases h1; cases h2; exact HD3.out
    | j + 2, h1, _ => simp at h1
  exact ⟨_, rfl, rule_end (blk_alloc N3.out _) (Nat.le_refl _) (B3.out.alloc B3.out.size _) (hA) (HP1.out.mono (Stays.of (btrans Q2.out (btrans Q3.out (al1 w3 _))))) (own_none _ _) _ _ _⟩
def rule2 : RuleS := ⟨[putS ⟨#[101, 110, 113]⟩ (fun _ _ => True) (fun s x => s ++ [x]), takeS ⟨#[100, 101, 113]⟩ (fun _ => 0)], wordsB 24 900, []⟩
theorem find2 (n : Int) (h1 : 1 ≤ n) (h2 : n ≤ 8) : FindsAt 2 n rule2 := by
  intro w
  have B0 := Aside0.mk ((Below.refl w.heap.size w).alloc (Nat.le_refl _) (.cells zeroRule 67 (0, 0)))
  have N0 := Aside0.mk (heap_alloc_new w (.cells zeroRule 67 (0, 0)))
  go_enter Tryz.func36, Tryz.ntmps36
  have tok1 : True := trivial
  go_wp2_with (first
    | (go_at_call 47; have _t := tok1; refine (words_calls 24 900 _).mono ?_; rintro e w1 ⟨V1, rfl, hp, hb⟩; have HP1 := Aside0.mk hp; have B1 := Aside0.mk (btrans B0.out hb); have N1 := Aside0.mk ((hb.block _ (blk_lt N0.out)).trans N0.out); obtain ⟨g1, cap1, rfl, _⟩ := hp; clear hb tok1; have tok2 : True := trivial)
    | (go_at_call 48; have _t := tok2; refine (put_calls ⟨#[101, 110, 113]⟩ 900 _ _ _ _ (behind_into _)).mono ?_; rintro e w2 ⟨v2, rfl, ha, hb⟩; obtain ⟨V2, rfl, hp⟩ := ha; have HD2 := Aside0.mk hp; have Q2 := Aside0.mk (show Below w1.heap.size w1 w2 from hb); have B2 := Aside0.mk (btrans B1.out hb); have N2 := Aside0.mk ((hb.block _ (blk_lt N1.out)).trans N1.out); obtain ⟨g2, cap2, rfl, _⟩ := hp; clear hb tok2; have tok3 : True := trivial)
    | (go_at_call 50; have _t := tok3; refine (take_calls ⟨#[100, 101, 113]⟩ _ _ _ (front_meas _) fronted).mono ?_; rintro e w3 ⟨v3, rfl, ha, hb⟩; obtain ⟨V3, rfl, hp⟩ := ha; have HD3 := Aside0.mk hp; have Q3 := Aside0.mk (show Below w2.heap.size w2 w3 from hb); have B3 := Aside0.mk (btrans B2.out hb); have N3 := Aside0.mk ((hb.block _ (blk_lt N2.out)).trans N2.out); have hfz := (fun j => (row_old N3.out j).1); have hcz := (fun j => (row_old N3.out j).2); unfold zeroRule at hcz; have hz : w.heap.size < w3.heap.size := blk_lt N3.out; obtain ⟨g3, cap3, rfl, _⟩ := hp; clear hb tok3))
  rw [past3 hz]
  have hcy := fun o j => (row_old (blk_alloc N3.out o) j).2
  unfold zeroRule at hcy
  refine bodyPost_ret (v := .tuple #[.agg #[.slice (some ⟨w3.heap.size, 0, none⟩) 2 2, .func (.func g1) #[] cap1, .slice none 0 0], .bool true]) (by simp [results, Tryz.results36, go_sem, hcy]) rfl ?_
  have hA : ActsV (w3.alloc (.cells (List.zipWith acells [putS ⟨#[101, 110, 113]⟩ (fun _ _ => True) (fun s x => s ++ [x]), takeS ⟨#[100, 101, 113]⟩ (fun _ => 0)] [.func (.func g2) #[] cap2, .func (.func g3) #[] cap3]).flatten.toArray 87 (0, 0))) (.slice (some ⟨w3.heap.size, 0, none⟩) 2 2) [putS ⟨#[101, 110, 113]⟩ (fun _ _ => True) (fun s x => s ++ [x]), takeS ⟨#[100, 101, 113]⟩ (fun _ => 0)] := by
    refine acts_lit w3 [putS ⟨#[101, 110, 113]⟩ (fun _ _ => True) (fun s x => s ++ [x]), takeS ⟨#[100, 101, 113]⟩ (fun _ => 0)] [.func (.func g2) #[] cap2, .func (.func g3) #[] cap3] rfl (fun j a V h1 h2 => ?_) (by simp) _ rfl rfl rfl
    match j, h1, h2 with
    | 0, h1, h2 => cases h1; cases h2; exact HD2.out.mono (Stays.of Q3.out) Q3.out.size
    | 1, h1, h2 => cases h1; cases h2; exact HD3.out
    | j + 2, h1, _ => simp at h1
  exact ⟨_, rfl, rule_end (blk_alloc N3.out _) (Nat.le_refl _) (B3.out.alloc B3.out.size _) (hA) (HP1.out.mono (Stays.of (btrans Q2.out (btrans Q3.out (al1 w3 _))))) (own_none _ _) _ _ _⟩
def rule3 (n : Int) : RuleS := ⟨[limS n, takeS ⟨#[100, 101, 113]⟩ (fun _ => 0)], wordsB n 900, []⟩
theorem find3 (n : Int) (h1 : 1 ≤ n) (h2 : n ≤ 8) : FindsAt 3 n (rule3 n) := by
  intro w
  have B0 := Aside0.mk ((Below.refl w.heap.size w).alloc (Nat.le_refl _) (.cells zeroRule 67 (0, 0)))
  have N0 := Aside0.mk (heap_alloc_new w (.cells zeroRule 67 (0, 0)))
  go_enter Tryz.func36, Tryz.ntmps36
  have tok1 : True := trivial
  go_wp2_with (first
    | (go_at_call 47; have _t := tok1; refine (words_calls 24 900 _).mono ?_; rintro e w1 ⟨V1, rfl, hp, hb⟩; have HP1 := Aside0.mk hp; have B1 := Aside0.mk (btrans B0.out hb); have N1 := Aside0.mk ((hb.block _ (blk_lt N0.out)).trans N0.out); obtain ⟨g1, cap1, rfl, _⟩ := hp; clear hb tok1; have tok2 : True := trivial)
    | (go_at_call 53; have _t := tok2; refine (limited_calls n _).mono ?_; rintro e w2 ⟨v2, rfl, ha, hb⟩; obtain ⟨V2, rfl, hp⟩ := ha; have HD2 := Aside0.mk hp; have Q2 := Aside0.mk (show Below w1.heap.size w1 w2 from hb); have B2 := Aside0.mk (btrans B1.out hb); have N2 := Aside0.mk ((hb.block _ (blk_lt N1.out)).trans N1.out); obtain ⟨g2, cap2, rfl, _⟩ := hp; clear hb tok2; have tok3 : True := trivial)
    | (go_at_call 50; have _t := tok3; refine (take_calls ⟨#[100, 101, 113]⟩ _ _ _ (front_meas _) fronted).mono ?_; rintro e w3 ⟨v3, rfl, ha, hb⟩; obtain ⟨V3, rfl, hp⟩ := ha; have HD3 := Aside0.mk hp; have Q3 := Aside0.mk (show Below w2.heap.size w2 w3 from hb); have B3 := Aside0.mk (btrans B2.out hb); have N3 := Aside0.mk ((hb.block _ (blk_lt N2.out)).trans N2.out); obtain ⟨g3, cap3, rfl, _⟩ := hp; clear hb tok3; have tok4 : True := trivial)
    | (go_at_call 47; have _t := tok4; refine (words_calls n 900 _).mono ?_; rintro e w4 ⟨V4, rfl, hp, hb⟩; have HP4 := Aside0.mk hp; have Q4 := Aside0.mk (show Below w3.heap.size w3 w4 from btrans (al1 w3 _) hb); have R4 := Aside0.mk hb; have B4 := Aside0.mk (btrans (B3.out.alloc B3.out.size _) hb); have N4 := Aside0.mk ((hb.block _ (blk_lt (blk_alloc N3.out _))).trans (blk_alloc N3.out _)); have hfz := (fun j => (row_old N4.out j).1); have hcz := (fun j => (row_old N4.out j).2); unfold zeroRule at hcz; have hz : w.heap.size < w4.heap.size := blk_lt N4.out; obtain ⟨g4, cap4, rfl, _⟩ := hp; clear hb tok4))
  refine bodyPost_ret (v := .tuple #[.agg #[.slice (some ⟨w3.heap.size, 0, none⟩) 2 2, .func (.func g4) #[] cap4, .slice none 0 0], .bool true]) (by simp [results, Tryz.results36, go_sem, hcz]) rfl ?_
  have hA : ActsV (w3.alloc (.cells (List.zipWith acells [limS n, takeS ⟨#[100, 101, 113]⟩ (fun _ => 0)] [.func (.func g2) #[] cap2, .func (.func g3) #[] cap3]).flatten.toArray 87 (0, 0))) (.slice (some ⟨w3.heap.size, 0, none⟩) 2 2) [limS n, takeS ⟨#[100, 101, 113]⟩ (fun _ => 0)] := by
    refine acts_lit w3 [limS n, takeS ⟨#[100, 101, 113]⟩ (fun _ => 0)] [.func (.func g2) #[] cap2, .func (.func g3) #[] cap3] rfl (fun j a V h1 h2 => ?_) (by simp) _ rfl rfl rfl
    match j, h1, h2 with
    | 0, h1, h2 => cases h1; cases h2; exact HD2.out.mono (Stays.of Q3.out) Q3.out.size
    | 1, h1, h2 => cases h1; cases h2; exact HD3.out
    | j + 2, h1, _ => simp at h1
  exact ⟨_, rfl, rule_end N4.out (Nat.le_refl _) B4.out (hA.below R4.out) (HP4.out.mono (Stays.of (Below.refl _ _))) (own_none _ _) _ _ _⟩
def rule4 : RuleS := ⟨[byS 1 (putS ⟨#[112, 117, 115, 104]⟩ (fun _ _ => True) (fun s x => s ++ [x])), byS 1 (takeS ⟨#[112, 111, 112]⟩ (fun s => (s.length : Int) - 1)), takeS ⟨#[115, 116, 101, 97, 108]⟩ (fun _ => 0)], wordsB 24 900, []⟩
theorem find4 (n : Int) (h1 : 1 ≤ n) (h2 : n ≤ 8) : FindsAt 4 n rule4 := by
  intro w
  have B0 := Aside0.mk ((Below.refl w.heap.size w).alloc (Nat.le_refl _) (.cells zeroRule 67 (0, 0)))
  have N0 := Aside0.mk (heap_alloc_new w (.cells zeroRule 67 (0, 0)))
  go_enter Tryz.func36, Tryz.ntmps36
  have tok1 : True := trivial
  go_wp2_with (first
    | (go_at_call 47; have _t := tok1; refine (words_calls 24 900 _).mono ?_; rintro e w1 ⟨V1, rfl, hp, hb⟩; have HP1 := Aside0.mk hp; have B1 := Aside0.mk (btrans B0.out hb); have N1 := Aside0.mk ((hb.block _ (blk_lt N0.out)).trans N0.out); obtain ⟨g1, cap1, rfl, _⟩ := hp; clear hb tok1; have tok2 : True := trivial)
    | (go_at_call 48; have _t := tok2; refine (put_calls ⟨#[112, 117, 115, 104]⟩ 900 _ _ _ _ (behind_into _)).mono ?_; rintro e w2 ⟨v2, rfl, ha, hb⟩; obtain ⟨V2, rfl, hp⟩ := ha; have HD2 := Aside0.mk hp; have Q2 := Aside0.mk (show Below w1.heap.size w1 w2 from hb); have B2 := Aside0.mk (btrans B1.out hb); have N2 := Aside0.mk ((hb.block _ (blk_lt N1.out)).trans N1.out); obtain ⟨g2, cap2, rfl, _⟩ := hp; clear hb tok2; have tok3 : True := trivial)
    | (go_at_call 54; have _t := tok3; refine (by_calls 1 _ (putS ⟨#[112, 117, 115, 104]⟩ (fun _ _ => True) (fun s x => s ++ [x])) _ ⟨_, rfl, HD2.out⟩).mono ?_; rintro e w3 ⟨v3, rfl, ha, hb⟩; obtain ⟨V3, rfl, hp⟩ := ha; have HD3 := Aside0.mk hp; have Q3 := Aside0.mk (show Below w2.heap.size w2 w3 from hb); have B3 := Aside0.mk (btrans B2.out hb); have N3 := Aside0.mk ((hb.block _ (blk_lt N2.out)).trans N2.out); obtain ⟨g3, cap3, rfl, _⟩ := hp; clear hb tok3; have tok4 : True := trivial)
    | (go_at_call 50; have _t := tok4; refine (take_calls ⟨#[112, 111, 112]⟩ _ _ _ (back_meas _) backed).mono ?_; rintro e w4 ⟨v4, rfl, ha, hb⟩; obtain ⟨V4, rfl, hp⟩ := ha; have HD4 := Aside0.mk hp; have Q4 := Aside0.mk (show Below w3.heap.size w3 w4 from hb); have B4 := Aside0.mk (btrans B3.out hb); have N4 := Aside0.mk ((hb.block _ (blk_lt N3.out)).trans N3.out); obtain ⟨g4, cap4, rfl, _⟩ := hp; clear hb tok4; have tok5 : True := trivial)
    | (go_at_call 54; have _t := tok5; refine (by_calls 1 _ (takeS ⟨#[112, 111, 112]⟩ (fun s => (s.length : Int) - 1)) _ ⟨_, rfl, HD4.out⟩).mono ?_; rintro e w5 ⟨v5, rfl, ha, hb⟩; obtain ⟨V5, rfl, hp⟩ := ha; have HD5 := Aside0.mk hp; have Q5 := Aside0.mk (show Below w4.heap.size w4 w5 from hb); have B5 := Aside0.mk (btrans B4.out hb); have N5 := Aside0.mk ((hb.block _ (blk_lt N4.out)).trans N4.out); obtain ⟨g5, cap5, rfl, _⟩ := hp; clear hb tok5; have tok6 : True := trivial)
    | (go_at_call 50; have _t := tok6; refine (take_calls ⟨#[115, 116, 101, 97, 108]⟩ _ _ _ (front_meas _) fronted).mono ?_; rintro e w6 ⟨v6, rfl, ha, hb⟩; obtain ⟨V6, rfl, hp⟩ := ha; have HD6 := Aside0.mk hp; have Q6 := Aside0.mk (show Below w5.heap.size w5 w6 from hb); have B6 := Aside0.mk (btrans B5.out hb); have N6 := Aside0.mk ((hb.block _ (blk_lt N5.out)).trans N5.out); have hfz := (fun j => (row_old N6.out j).1); have hcz := (fun j => (row_old N6.out j).2); unfold zeroRule at hcz; have hz : w.heap.size < w6.heap.size := blk_lt N6.out; obtain ⟨g6, cap6, rfl, _⟩ := hp; clear hb tok6))
  rw [past3 hz]
  have hcy := fun o j => (row_old (blk_alloc N6.out o) j).2
  unfold zeroRule at hcy
  refine bodyPost_ret (v := .tuple #[.agg #[.slice (some ⟨w6.heap.size, 0, none⟩) 3 3, .func (.func g1) #[] cap1, .slice none 0 0], .bool true]) (by simp [results, Tryz.results36, go_sem, hcy]) rfl ?_
  have hA : ActsV (w6.alloc (.cells (List.zipWith acells [byS 1 (putS ⟨#[112, 117, 115, 104]⟩ (fun _ _ => True) (fun s x => s ++ [x])), byS 1 (takeS ⟨#[112, 111, 112]⟩ (fun s => (s.length : Int) - 1)), takeS ⟨#[115, 116, 101, 97, 108]⟩ (fun _ => 0)] [.func (.func g3) #[] cap3, .func (.func g5) #[] cap5, .func (.func g6) #[] cap6]).flatten.toArray 87 (0, 0))) (.slice (some ⟨w6.heap.size, 0, none⟩) 3 3) [byS 1 (putS ⟨#[112, 117, 115, 104]⟩ (fun _ _ => True) (fun s x => s ++ [x])), byS 1 (takeS ⟨#[112, 111, 112]⟩ (fun s => (s.length : Int) - 1)), takeS ⟨#[115, 116, 101, 97, 108]⟩ (fun _ => 0)] := by
    refine acts_lit w6 [byS 1 (putS ⟨#[112, 117, 115, 104]⟩ (fun _ _ => True) (fun s x => s ++ [x])), byS 1 (takeS ⟨#[112, 111, 112]⟩ (fun s => (s.length : Int) - 1)), takeS ⟨#[115, 116, 101, 97, 108]⟩ (fun _ => 0)] [.func (.func g3) #[] cap3, .func (.func g5) #[] cap5, .func (.func g6) #[] cap6] rfl (fun j a V h1 h2 => ?_) (by simp) _ rfl rfl rfl
    match j, h1, h2 with
    | 0, h1, h2 => cases h1; cases h2; exact HD3.out.mono (Stays.of (btrans Q4.out (btrans Q5.out Q6.out))) (btrans Q4.out (btrans Q5.out Q6.out)).size
    | 1, h1, h2 => cases h1; cases h2; exact HD5.out.mono (Stays.of Q6.out) Q6.out.size
    | 2, h1, h2 => cases h1; cases h2; exact HD6.out
    | j + 3, h1, _ => simp at h1
  exact ⟨_, rfl, rule_end (blk_alloc N6.out _) (Nat.le_refl _) (B6.out.alloc B6.out.size _) (hA) (HP1.out.mono (Stays.of (btrans Q2.out (btrans Q3.out (btrans Q4.out (btrans Q5.out (btrans Q6.out (al1 w6 _)))))))) (own_none _ _) _ _ _⟩
def rule5 : RuleS := ⟨[putS ⟨#[112, 117, 116]⟩ (fun s _ => s.Pairwise (· ≤ ·)) (insL), takeS ⟨#[116, 97, 107, 101]⟩ (fun _ => 0)], ascendingB 900 false, []⟩
theorem find5 (n : Int) (h1 : 1 ≤ n) (h2 : n ≤ 8) : FindsAt 5 n rule5 := by
  intro w
  have B0 := Aside0.mk ((Below.refl w.heap.size w).alloc (Nat.le_refl _) (.cells zeroRule 67 (0, 0)))
  have N0 := Aside0.mk (heap_alloc_new w (.cells zeroRule 67 (0, 0)))
  go_enter Tryz.func36, Tryz.ntmps36
  have tok1 : True := trivial
  go_wp2_with (first
    | (go_at_call 47; have _t := tok1; refine (words_calls 24 900 _).mono ?_; rintro e w1 ⟨V1, rfl, hp, hb⟩; have HP1 := Aside0.mk hp; have B1 := Aside0.mk (btrans B0.out hb); have N1 := Aside0.mk ((hb.block _ (blk_lt N0.out)).trans N0.out); obtain ⟨g1, cap1, rfl, _⟩ := hp; clear hb tok1; have tok2 : True := trivial)
    | (go_at_call 48; have _t := tok2; refine (put_calls ⟨#[112, 117, 116]⟩ 900 _ _ _ _ (sorted_into _)).mono ?_; rintro e w2 ⟨v2, rfl, ha, hb⟩; obtain ⟨V2, rfl, hp⟩ := ha; have HD2 := Aside0.mk hp; have Q2 := Aside0.mk (show Below w1.heap.size w1 w2 from hb); have B2 := Aside0.mk (btrans B1.out hb); have N2 := Aside0.mk ((hb.block _ (blk_lt N1.out)).trans N1.out); obtain ⟨g2, cap2, rfl, _⟩ := hp; clear hb tok2; have tok3 : True := trivial)
    | (go_at_call 50; have _t := tok3; refine (take_calls ⟨#[116, 97, 107, 101]⟩ _ _ _ (front_meas _) fronted).mono ?_; rintro e w3 ⟨v3, rfl, ha, hb⟩; obtain ⟨V3, rfl, hp⟩ := ha; have HD3 := Aside0.mk hp; have Q3 := Aside0.mk (show Below w2.heap.size w2 w3 from hb); have B3 := Aside0.mk (btrans B2.out hb); have N3 := Aside0.mk ((hb.block _ (blk_lt N2.out)).trans N2.out); obtain ⟨g3, cap3, rfl, _⟩ := hp; clear hb tok3; have tok4 : True := trivial)
    | (go_at_call 56; have _t := tok4; refine (ascending_calls 900 false _).mono ?_; rintro e w4 ⟨V4, rfl, hp, hb⟩; have HP4 := Aside0.mk hp; have Q4 := Aside0.mk (show Below w3.heap.size w3 w4 from btrans (al1 w3 _) hb); have R4 := Aside0.mk hb; have B4 := Aside0.mk (btrans (B3.out.alloc B3.out.size _) hb); have N4 := Aside0.mk ((hb.block _ (blk_lt (blk_alloc N3.out _))).trans (blk_alloc N3.out _)); have hfz := (fun j => (row_old N4.out j).1); have hcz := (fun j => (row_old N4.out j).2); unfold zeroRule at hcz; have hz : w.heap.size < w4.heap.size := blk_lt N4.out; obtain ⟨g4, cap4, rfl, _⟩ := hp; clear hb tok4))
  refine bodyPost_ret (v := .tuple #[.agg #[.slice (some ⟨w3.heap.size, 0, none⟩) 2 2, .func (.func g4) #[] cap4, .slice none 0 0], .bool true]) (by simp [results, Tryz.results36, go_sem, hcz]) rfl ?_
  have hA : ActsV (w3.alloc (.cells (List.zipWith acells [putS ⟨#[112, 117, 116]⟩ (fun s _ => s.Pairwise (· ≤ ·)) (insL), takeS ⟨#[116, 97, 107, 101]⟩ (fun _ => 0)] [.func (.func g2) #[] cap2, .func (.func g3) #[] cap3]).flatten.toArray 87 (0, 0))) (.slice (some ⟨w3.heap.size, 0, none⟩) 2 2) [putS ⟨#[112, 117, 116]⟩ (fun s _ => s.Pairwise (· ≤ ·)) (insL), takeS ⟨#[116, 97, 107, 101]⟩ (fun _ => 0)] := by
    refine acts_lit w3 [putS ⟨#[112, 117, 116]⟩ (fun s _ => s.Pairwise (· ≤ ·)) (insL), takeS ⟨#[116, 97, 107, 101]⟩ (fun _ => 0)] [.func (.func g2) #[] cap2, .func (.func g3) #[] cap3] rfl (fun j a V h1 h2 => ?_) (by simp) _ rfl rfl rfl
    match j, h1, h2 with
    | 0, h1, h2 => cases h1; cases h2; exact HD2.out.mono (Stays.of Q3.out) Q3.out.size
    | 1, h1, h2 => cases h1; cases h2; exact HD3.out
    | j + 2, h1, _ => simp at h1
  exact ⟨_, rfl, rule_end N4.out (Nat.le_refl _) B4.out (hA.below R4.out) (HP4.out.mono (Stays.of (Below.refl _ _))) (own_none _ _) _ _ _⟩
def rule6 : RuleS := ⟨[putS ⟨#[112, 117, 116]⟩ (fun s _ => s.Pairwise (· ≤ ·)) (insL), whichA], ascendingB 900 false, []⟩
theorem find6 (n : Int) (h1 : 1 ≤ n) (h2 : n ≤ 8) : FindsAt 6 n rule6 := by
  intro w
  have B0 := Aside0.mk ((Below.refl w.heap.size w).alloc (Nat.le_refl _) (.cells zeroRule 67 (0, 0)))
  have N0 := Aside0.mk (heap_alloc_new w (.cells zeroRule 67 (0, 0)))
  go_enter Tryz.func36, Tryz.ntmps36
  have tok1 : True := trivial
  go_wp2_with (first
    | (go_at_call 47; have _t := tok1; refine (words_calls 24 900 _).mono ?_; rintro e w1 ⟨V1, rfl, hp, hb⟩; have HP1 := Aside0.mk hp; have B1 := Aside0.mk (btrans B0.out hb); have N1 := Aside0.mk ((hb.block _ (blk_lt N0.out)).trans N0.out); obtain ⟨g1, cap1, rfl, _⟩ := hp; clear hb tok1; have tok2 : True := trivial)
    | (go_at_call 48; have _t := tok2; refine (put_calls ⟨#[112, 117, 116]⟩ 900 _ _ _ _ (sorted_into _)).mono ?_; rintro e w2 ⟨v2, rfl, ha, hb⟩; obtain ⟨V2, rfl, hp⟩ := ha; have HD2 := Aside0.mk hp; have Q2 := Aside0.mk (show Below w1.heap.size w1 w2 from hb); have B2 := Aside0.mk (btrans B1.out hb); have N2 := Aside0.mk ((hb.block _ (blk_lt N1.out)).trans N1.out); obtain ⟨g2, cap2, rfl, _⟩ := hp; clear hb tok2; have tok3 : True := trivial)
    | (go_at_call 57; have _t := tok3; refine (which_calls _).mono ?_; rintro e w3 ⟨v3, rfl, ha, hb⟩; obtain ⟨V3, rfl, hp⟩ := ha; have HD3 := Aside0.mk hp; have Q3 := Aside0.mk (show Below w2.heap.size w2 w3 from hb); have B3 := Aside0.mk (btrans B2.out hb); have N3 := Aside0.mk ((hb.block _ (blk_lt N2.out)).trans N2.out); obtain ⟨g3, cap3, rfl, _⟩ := hp; clear hb tok3; have tok4 : True := trivial)
    | (go_at_call 56; have _t := tok4; refine (ascending_calls 900 false _).mono ?_; rintro e w4 ⟨V4, rfl, hp, hb⟩; have HP4 := Aside0.mk hp; have Q4 := Aside0.mk (show Below w3.heap.size w3 w4 from btrans (al1 w3 _) hb); have R4 := Aside0.mk hb; have B4 := Aside0.mk (btrans (B3.out.alloc B3.out.size _) hb); have N4 := Aside0.mk ((hb.block _ (blk_lt (blk_alloc N3.out _))).trans (blk_alloc N3.out _)); have hfz := (fun j => (row_old N4.out j).1); have hcz := (fun j => (row_old N4.out j).2); unfold zeroRule at hcz; have hz : w.heap.size < w4.heap.size := blk_lt N4.out; obtain ⟨g4, cap4, rfl, _⟩ := hp; clear hb tok4))
  refine bodyPost_ret (v := .tuple #[.agg #[.slice (some ⟨w3.heap.size, 0, none⟩) 2 2, .func (.func g4) #[] cap4, .slice none 0 0], .bool true]) (by simp [results, Tryz.results36, go_sem, hcz]) rfl ?_
  have hA : ActsV (w3.alloc (.cells (List.zipWith acells [putS ⟨#[112, 117, 116]⟩ (fun s _ => s.Pairwise (· ≤ ·)) (insL), whichA] [.func (.func g2) #[] cap2, .func (.func g3) #[] cap3]).flatten.toArray 87 (0, 0))) (.slice (some ⟨w3.heap.size, 0, none⟩) 2 2) [putS ⟨#[112, 117, 116]⟩ (fun s _ => s.Pairwise (· ≤ ·)) (insL), whichA] := by
    refine acts_lit w3 [putS ⟨#[112, 117, 116]⟩ (fun s _ => s.Pairwise (· ≤ ·)) (insL), whichA] [.func (.func g2) #[] cap2, .func (.func g3) #[] cap3] rfl (fun j a V h1 h2 => ?_) (by simp) _ rfl rfl rfl
    match j, h1, h2 with
    | 0, h1, h2 => cases h1; cases h2; exact HD2.out.mono (Stays.of Q3.out) Q3.out.size
    | 1, h1, h2 => cases h1; cases h2; exact HD3.out
    | j + 2, h1, _ => simp at h1
  exact ⟨_, rfl, rule_end N4.out (Nat.le_refl _) B4.out (hA.below R4.out) (HP4.out.mono (Stays.of (Below.refl _ _))) (own_none _ _) _ _ _⟩
def rule7 : RuleS := ⟨setActs 900, ascendingB 900 true, []⟩
theorem find7 (n : Int) (h1 : 1 ≤ n) (h2 : n ≤ 8) : FindsAt 7 n rule7 := by
  intro w
  have B0 := Aside0.mk ((Below.refl w.heap.size w).alloc (Nat.le_refl _) (.cells zeroRule 67 (0, 0)))
  have N0 := Aside0.mk (heap_alloc_new w (.cells zeroRule 67 (0, 0)))
  go_enter Tryz.func36, Tryz.ntmps36
  have tok1 : True := trivial
  go_wp2_with (first
    | (go_at_call 47; have _t := tok1; refine (words_calls 24 900 _).mono ?_; rintro e w1 ⟨V1, rfl, hp, hb⟩; have HP1 := Aside0.mk hp; have B1 := Aside0.mk (btrans B0.out hb); have N1 := Aside0.mk ((hb.block _ (blk_lt N0.out)).trans N0.out); obtain ⟨g1, cap1, rfl, _⟩ := hp; clear hb tok1; have tok2 : True := trivial)
    | (go_at_call 58; have _t := tok2; refine (sets_calls 900 _).mono ?_; rintro e w2 ⟨v2, rfl, ha, hb⟩; have HA2 := Aside0.mk ha; obtain ⟨A2, c2, rfl⟩ := ha.slice; have Q2 := Aside0.mk (show Below w1.heap.size w1 w2 from hb); have B2 := Aside0.mk (btrans B1.out hb); have N2 := Aside0.mk ((hb.block _ (blk_lt N1.out)).trans N1.out); clear hb tok2; have tok3 : True := trivial)
    | (go_at_call 56; have _t := tok3; refine (ascending_calls 900 true _).mono ?_; rintro e w3 ⟨V3, rfl, hp, hb⟩; have HP3 := Aside0.mk hp; have Q3 := Aside0.mk (show Below w2.heap.size w2 w3 from hb); have B3 := Aside0.mk (btrans B2.out hb); have N3 := Aside0.mk ((hb.block _ (blk_lt N2.out)).trans N2.out); have hfz := (fun j => (row_old N3.out j).1); have hcz := (fun j => (row_old N3.out j).2); unfold zeroRule at hcz; have hz : w.heap.size < w3.heap.size := blk_lt N3.out; obtain ⟨g3, cap3, rfl, _⟩ := hp; clear hb tok3))
  refine bodyPost_ret (v := .tuple #[.agg #[.slice A2 (setActs 900).length c2, .func (.func g3) #[] cap3, .slice none 0 0], .bool true]) (by simp [results, Tryz.results36, go_sem, hcz]) rfl ?_
  exact ⟨_, rfl, rule_end N3.out (Nat.le_refl _) B3.out (HA2.out.below Q3.out) (HP3.out.mono (Stays.of (Below.refl _ _))) (own_none _ _) _ _ _⟩
end Go.Proofs.YtiialjmpfeopjaaGreat.Sp

namespace Go.Proofs.YtiialjmpfeopjaaGreat.Sp
open Go.RowKit Go.Sort Go.Proofs.YtiialjmpfeopjaaGreatW.PrintWords Go.Proofs.YtiialjmpfeopjaaGreatW.PrintLast Go.Proofs.YtiialjmpfeopjaaGreatW.PrintMore
set_option linter.unusedVariables false
set_option linter.unusedSimpArgs false
set_option maxHeartbeats 8000000
set_option maxRecDepth 100000
def rule9 : RuleS := ⟨[ticketA], ascendingB 1000000000000000 true, []⟩
theorem find9 (n : Int) (h1 : 1 ≤ n) (h2 : n ≤ 8) : FindsAt 9 n rule9 := by
  intro w
  have B0 := Aside0.mk ((Below.refl w.heap.size w).alloc (Nat.le_refl _) (.cells zeroRule 67 (0, 0)))
  have N0 := Aside0.mk (heap_alloc_new w (.cells zeroRule 67 (0, 0)))
  go_enter Tryz.func36, Tryz.ntmps36
  have tok1 : True := trivial
  go_wp2_with (first
    | (go_at_call 47; have _t := tok1; refine (words_calls 24 900 _).mono ?_; rintro e w1 ⟨V1, rfl, hp, hb⟩; have HP1 := Aside0.mk hp; have B1 := Aside0.mk (btrans B0.out hb); have N1 := Aside0.mk ((hb.block _ (blk_lt N0.out)).trans N0.out); obtain ⟨g1, cap1, rfl, _⟩ := hp; clear hb tok1; have tok2 : True := trivial)
    | (go_at_call 61; have _t := tok2; refine (ticket_calls _).mono ?_; rintro e w2 ⟨v2, rfl, ha, hb⟩; obtain ⟨V2, rfl, hp⟩ := ha; have HD2 := Aside0.mk hp; have Q2 := Aside0.mk (show Below w1.heap.size w1 w2 from hb); have B2 := Aside0.mk (btrans B1.out hb); have N2 := Aside0.mk ((hb.block _ (blk_lt N1.out)).trans N1.out); obtain ⟨g2, cap2, rfl, _⟩ := hp; clear hb tok2; have tok3 : True := trivial)
    | (go_at_call 56; have _t := tok3; refine (ascending_calls 1000000000000000 true _).mono ?_; rintro e w3 ⟨V3, rfl, hp, hb⟩; have HP3 := Aside0.mk hp; have Q3 := Aside0.mk (show Below w2.heap.size w2 w3 from btrans (al1 w2 _) hb); have R3 := Aside0.mk hb; have B3 := Aside0.mk (btrans (B2.out.alloc B2.out.size _) hb); have N3 := Aside0.mk ((hb.block _ (blk_lt (blk_alloc N2.out _))).trans (blk_alloc N2.out _)); have hfz := (fun j => (row_old N3.out j).1); have hcz := (fun j => (row_old N3.out j).2); unfold zeroRule at hcz; have hz : w.heap.size < w3.heap.size := blk_lt N3.out; obtain ⟨g3, cap3, rfl, _⟩ := hp; clear hb tok3))
  refine bodyPost_ret (v := .tuple #[.agg #[.slice (some ⟨w2.heap.size, 0, none⟩) 1 1, .func (.func g3) #[] cap3, .slice none 0 0], .bool true]) (by simp [results, Tryz.results36, go_sem, hcz]) rfl ?_
  have hA : ActsV (w2.alloc (.cells (List.zipWith acells [ticketA] [.func (.func g2) #[] cap2]).flatten.toArray 87 (0, 0))) (.slice (some ⟨w2.heap.size, 0, none⟩) 1 1) [ticketA] := by
    refine acts_lit w2 [ticketA] [.func (.func g2) #[] cap2] rfl (fun j a V h1 h2 => ?_) (by simp) _ rfl rfl rfl
    match j, h1, h2 with
    | 0, h1, h2 => cases h1; cases h2; exact HD2.out
    | j + 1, h1, _ => simp at h1
  exact ⟨_, rfl, rule_end N3.out (Nat.le_refl _) B3.out (hA.below R3.out) (HP3.out.mono (Stays.of (Below.refl _ _))) (own_none _ _) _ _ _⟩
def rule11 : RuleS := ⟨snapActs, exactlyB 2 0 900, [0, 0]⟩
theorem find11 (n : Int) (h1 : 1 ≤ n) (h2 : n ≤ 8) : FindsAt 11 n rule11 := by
  intro w
  have B0 := Aside0.mk ((Below.refl w.heap.size w).alloc (Nat.le_refl _) (.cells zeroRule 67 (0, 0)))
  have N0 := Aside0.mk (heap_alloc_new w (.cells zeroRule 67 (0, 0)))
  go_enter Tryz.func36, Tryz.ntmps36
  have tok1 : True := trivial
  go_wp2_with (first
    | (go_at_call 47; have _t := tok1; refine (words_calls 24 900 _).mono ?_; rintro e w1 ⟨V1, rfl, hp, hb⟩; have HP1 := Aside0.mk hp; have B1 := Aside0.mk (btrans B0.out hb); have N1 := Aside0.mk ((hb.block _ (blk_lt N0.out)).trans N0.out); obtain ⟨g1, cap1, rfl, _⟩ := hp; clear hb tok1; have tok2 : True := trivial)
    | (go_at_call 65; have _t := tok2; refine (snaps_calls _).mono ?_; rintro e w2 ⟨v2, rfl, ha, hb⟩; have HA2 := Aside0.mk ha; obtain ⟨A2, c2, rfl⟩ := ha.slice; have Q2 := Aside0.mk (show Below w1.heap.size w1 w2 from hb); have B2 := Aside0.mk (btrans B1.out hb); have N2 := Aside0.mk ((hb.block _ (blk_lt N1.out)).trans N1.out); clear hb tok2; have tok3 : True := trivial)
    | (go_at_call 64; have _t := tok3; refine (exactly_calls 2 0 900 _).mono ?_; rintro e w3 ⟨V3, rfl, hp, hb⟩; have HP3 := Aside0.mk hp; have Q3 := Aside0.mk (show Below w2.heap.size w2 w3 from hb); have B3 := Aside0.mk (btrans B2.out hb); have N3 := Aside0.mk ((hb.block _ (blk_lt N2.out)).trans N2.out); have hfz := (fun j => (row_old N3.out j).1); have hcz := (fun j => (row_old N3.out j).2); unfold zeroRule at hcz; have hz : w.heap.size < w3.heap.size := blk_lt N3.out; obtain ⟨g3, cap3, rfl, _⟩ := hp; clear hb tok3))
  rw [past3 hz]
  have hcy := fun o j => (row_old (blk_alloc N3.out o) j).2
  unfold zeroRule at hcy
  refine bodyPost_ret (v := .tuple #[.agg #[.slice A2 (snapActs).length c2, .func (.func g3) #[] cap3, .slice (some ⟨w3.heap.size, 0, none⟩) 2 2], .bool true]) (by simp [results, Tryz.results36, go_sem, hcy]) rfl ?_
  exact ⟨_, rfl, rule_end (blk_alloc N3.out _) (Nat.le_refl _) (B3.out.alloc B3.out.size _) (HA2.out.below (btrans Q3.out (al1 w3 _))) (HP3.out.mono (Stays.of (al1 w3 _))) (start_lit _ [0, 0] _ B3.out.size (by simp) _ rfl rfl rfl) _ _ _⟩
def rule12 : RuleS := ⟨uniActs, unitedB, [0, 1, 2, 3, 4, 5, 6, 7]⟩
theorem find12 (n : Int) (h1 : 1 ≤ n) (h2 : n ≤ 8) : FindsAt 12 n rule12 := by
  intro w
  have B0 := Aside0.mk ((Below.refl w.heap.size w).alloc (Nat.le_refl _) (.cells zeroRule 67 (0, 0)))
  have N0 := Aside0.mk (heap_alloc_new w (.cells zeroRule 67 (0, 0)))
  go_enter Tryz.func36, Tryz.ntmps36
  have tok1 : True := trivial
  go_wp2_with (first
    | (go_at_call 47; have _t := tok1; refine (words_calls 24 900 _).mono ?_; rintro e w1 ⟨V1, rfl, hp, hb⟩; have HP1 := Aside0.mk hp; have B1 := Aside0.mk (btrans B0.out hb); have N1 := Aside0.mk ((hb.block _ (blk_lt N0.out)).trans N0.out); obtain ⟨g1, cap1, rfl, _⟩ := hp; clear hb tok1; have tok2 : True := trivial)
    | (go_at_call 66; have _t := tok2; refine (unions_calls _).mono ?_; rintro e w2 ⟨v2, rfl, ha, hb⟩; have HA2 := Aside0.mk ha; obtain ⟨A2, c2, rfl⟩ := ha.slice; have Q2 := Aside0.mk (show Below w1.heap.size w1 w2 from hb); have B2 := Aside0.mk (btrans B1.out hb); have N2 := Aside0.mk ((hb.block _ (blk_lt N1.out)).trans N1.out); have hfz := (fun j => (row_old N2.out j).1); have hcz := (fun j => (row_old N2.out j).2); unfold zeroRule at hcz; have hz : w.heap.size < w2.heap.size := blk_lt N2.out; clear hb tok2))
  rw [past3 hz]
  have hcy := fun o j => (row_old (blk_alloc N2.out o) j).2
  unfold zeroRule at hcy
  refine bodyPost_ret (v := .tuple #[.agg #[.slice A2 (uniActs).length c2, .func (.func 67) #[] #[], .slice (some ⟨w2.heap.size, 0, none⟩) 8 8], .bool true]) (by simp [results, Tryz.results36, go_sem, hcy]) rfl ?_
  exact ⟨_, rfl, rule_end (blk_alloc N2.out _) (Nat.le_refl _) (B2.out.alloc B2.out.size _) (HA2.out.below (al1 w2 _)) (united_pred _) (start_lit _ [0, 1, 2, 3, 4, 5, 6, 7] _ B2.out.size (by simp) _ rfl rfl rfl) _ _ _⟩
def rule13 : RuleS := ⟨pairActs, exactlyB 2 0 99, [0, 0]⟩
theorem find13 (n : Int) (h1 : 1 ≤ n) (h2 : n ≤ 8) : FindsAt 13 n rule13 := by
  intro w
  have B0 := Aside0.mk ((Below.refl w.heap.size w).alloc (Nat.le_refl _) (.cells zeroRule 67 (0, 0)))
  have N0 := Aside0.mk (heap_alloc_new w (.cells zeroRule 67 (0, 0)))
  go_enter Tryz.func36, Tryz.ntmps36
  have tok1 : True := trivial
  go_wp2_with (first
    | (go_at_call 47; have _t := tok1; refine (words_calls 24 900 _).mono ?_; rintro e w1 ⟨V1, rfl, hp, hb⟩; have HP1 := Aside0.mk hp; have B1 := Aside0.mk (btrans B0.out hb); have N1 := Aside0.mk ((hb.block _ (blk_lt N0.out)).trans N0.out); obtain ⟨g1, cap1, rfl, _⟩ := hp; clear hb tok1; have tok2 : True := trivial)
    | (go_at_call 68; have _t := tok2; refine (pairs_calls _).mono ?_; rintro e w2 ⟨v2, rfl, ha, hb⟩; have HA2 := Aside0.mk ha; obtain ⟨A2, c2, rfl⟩ := ha.slice; have Q2 := Aside0.mk (show Below w1.heap.size w1 w2 from hb); have B2 := Aside0.mk (btrans B1.out hb); have N2 := Aside0.mk ((hb.block _ (blk_lt N1.out)).trans N1.out); clear hb tok2; have tok3 : True := trivial)
    | (go_at_call 64; have _t := tok3; refine (exactly_calls 2 0 99 _).mono ?_; rintro e w3 ⟨V3, rfl, hp, hb⟩; have HP3 := Aside0.mk hp; have Q3 := Aside0.mk (show Below w2.heap.size w2 w3 from hb); have B3 := Aside0.mk (btrans B2.out hb); have N3 := Aside0.mk ((hb.block _ (blk_lt N2.out)).trans N2.out); have hfz := (fun j => (row_old N3.out j).1); have hcz := (fun j => (row_old N3.out j).2); unfold zeroRule at hcz; have hz : w.heap.size < w3.heap.size := blk_lt N3.out; obtain ⟨g3, cap3, rfl, _⟩ := hp; clear hb tok3))
  rw [past3 hz]
  have hcy := fun o j => (row_old (blk_alloc N3.out o) j).2
  unfold zeroRule at hcy
  refine bodyPost_ret (v := .tuple #[.agg #[.slice A2 (pairActs).length c2, .func (.func g3) #[] cap3, .slice (some ⟨w3.heap.size, 0, none⟩) 2 2], .bool true]) (by simp [results, Tryz.results36, go_sem, hcy]) rfl ?_
  exact ⟨_, rfl, rule_end (blk_alloc N3.out _) (Nat.le_refl _) (B3.out.alloc B3.out.size _) (HA2.out.below (btrans Q3.out (al1 w3 _))) (HP3.out.mono (Stays.of (al1 w3 _))) (start_lit _ [0, 0] _ B3.out.size (by simp) _ rfl rfl rfl) _ _ _⟩
def rule14 : RuleS := ⟨[growS 1 99 3 false, tellS ⟨#[103, 101, 116]⟩ (fun s => 0 < s.length) (fun s => s.getD 0 0)], exactlyB 1 0 1000000, [0]⟩
theorem find14 (n : Int) (h1 : 1 ≤ n) (h2 : n ≤ 8) : FindsAt 14 n rule14 := by
  intro w
  have B0 := Aside0.mk ((Below.refl w.heap.size w).alloc (Nat.le_refl _) (.cells zeroRule 67 (0, 0)))
  have N0 := Aside0.mk (heap_alloc_new w (.cells zeroRule 67 (0, 0)))
  go_enter Tryz.func36, Tryz.ntmps36
  have tok1 : True := trivial
  go_wp2_with (first
    | (go_at_call 47; have _t := tok1; refine (words_calls 24 900 _).mono ?_; rintro e w1 ⟨V1, rfl, hp, hb⟩; have HP1 := Aside0.mk hp; have B1 := Aside0.mk (btrans B0.out hb); have N1 := Aside0.mk ((hb.block _ (blk_lt N0.out)).trans N0.out); obtain ⟨g1, cap1, rfl, _⟩ := hp; clear hb tok1; have tok2 : True := trivial)
    | (go_at_call 69; have _t := tok2; refine (grows_calls 1 99 3 false _).mono ?_; rintro e w2 ⟨v2, rfl, ha, hb⟩; obtain ⟨V2, rfl, hp⟩ := ha; have HD2 := Aside0.mk hp; have Q2 := Aside0.mk (show Below w1.heap.size w1 w2 from hb); have B2 := Aside0.mk (btrans B1.out hb); have N2 := Aside0.mk ((hb.block _ (blk_lt N1.out)).trans N1.out); obtain ⟨g2, cap2, rfl, _⟩ := hp; clear hb tok2; have tok3 : True := trivial)
    | (go_at_call 59; have _t := tok3; refine (tell_calls ⟨#[103, 101, 116]⟩ _ _ _ _ (first_meas _)).mono ?_; rintro e w3 ⟨v3, rfl, ha, hb⟩; obtain ⟨V3, rfl, hp⟩ := ha; have HD3 := Aside0.mk hp; have Q3 := Aside0.mk (show Below w2.heap.size w2 w3 from hb); have B3 := Aside0.mk (btrans B2.out hb); have N3 := Aside0.mk ((hb.block _ (blk_lt N2.out)).trans N2.out); obtain ⟨g3, cap3, rfl, _⟩ := hp; clear hb tok3; have tok4 : True := trivial)
    | (go_at_call 64; have _t := tok4; refine (exactly_calls 1 0 1000000 _).mono ?_; rintro e w4 ⟨V4, rfl, hp, hb⟩; have HP4 := Aside0.mk hp; have Q4 := Aside0.mk (show Below w3.heap.size w3 w4 from btrans (al1 w3 _) hb); have R4 := Aside0.mk hb; have B4 := Aside0.mk (btrans (B3.out.alloc B3.out.size _) hb); have N4 := Aside0.mk ((hb.block _ (blk_lt (blk_alloc N3.out _))).trans (blk_alloc N3.out _)); have hfz := (fun j => (row_old N4.out j).1); have hcz := (fun j => (row_old N4.out j).2); unfold zeroRule at hcz; have hz : w.heap.size < w4.heap.size := blk_lt N4.out; obtain ⟨g4, cap4, rfl, _⟩ := hp; clear hb tok4))
  rw [past3 hz]
  have hcy := fun o j => (row_old (blk_alloc N4.out o) j).2
  unfold zeroRule at hcy
  refine bodyPost_ret (v := .tuple #[.agg #[.slice (some ⟨w3.heap.size, 0, none⟩) 2 2, .func (.func g4) #[] cap4, .slice (some ⟨w4.heap.size, 0, none⟩) 1 1], .bool true]) (by simp [results, Tryz.results36, go_sem, hcy]) rfl ?_
  have hA : ActsV (w3.alloc (.cells (List.zipWith acells [growS 1 99 3 false, tellS ⟨#[103, 101, 116]⟩ (fun s => 0 < s.length) (fun s => s.getD 0 0)] [.func (.func g2) #[] cap2, .func (.func g3) #[] cap3]).flatten.toArray 87 (0, 0))) (.slice (some ⟨w3.heap.size, 0, none⟩) 2 2) [growS 1 99 3 false, tellS ⟨#[103, 101, 116]⟩ (fun s => 0 < s.length) (fun s => s.getD 0 0)] := by
    refine acts_lit w3 [growS 1 99 3 false, tellS ⟨#[103, 101, 116]⟩ (fun s => 0 < s.length) (fun s => s.getD 0 0)] [.func (.func g2) #[] cap2, .func (.func g3) #[] cap3] rfl (fun j a V h1 h2 => ?_) (by simp) _ rfl rfl rfl
    match j, h1, h2 with
    | 0, h1, h2 => cases h1; cases h2; exact HD2.out.mono (Stays.of Q3.out) Q3.out.size
    | 1, h1, h2 => cases h1; cases h2; exact HD3.out
    | j + 2, h1, _ => simp at h1
  exact ⟨_, rfl, rule_end (blk_alloc N4.out _) (Nat.le_refl _) (B4.out.alloc B4.out.size _) (hA.below (btrans R4.out (al1 w4 _))) (HP4.out.mono (Stays.of (al1 w4 _))) (start_lit _ [0] _ B4.out.size (by simp) _ rfl rfl rfl) _ _ _⟩
def rule15 : RuleS := ⟨twinActs, twinB, [0]⟩
theorem find15 (n : Int) (h1 : 1 ≤ n) (h2 : n ≤ 8) : FindsAt 15 n rule15 := by
  intro w
  have B0 := Aside0.mk ((Below.refl w.heap.size w).alloc (Nat.le_refl _) (.cells zeroRule 67 (0, 0)))
  have N0 := Aside0.mk (heap_alloc_new w (.cells zeroRule 67 (0, 0)))
  go_enter Tryz.func36, Tryz.ntmps36
  have tok1 : True := trivial
  go_wp2_with (first
    | (go_at_call 47; have _t := tok1; refine (words_calls 24 900 _).mono ?_; rintro e w1 ⟨V1, rfl, hp, hb⟩; have HP1 := Aside0.mk hp; have B1 := Aside0.mk (btrans B0.out hb); have N1 := Aside0.mk ((hb.block _ (blk_lt N0.out)).trans N0.out); obtain ⟨g1, cap1, rfl, _⟩ := hp; clear hb tok1; have tok2 : True := trivial)
    | (go_at_call 71; have _t := tok2; refine (twins_calls _).mono ?_; rintro e w2 ⟨v2, rfl, ha, hb⟩; have HA2 := Aside0.mk ha; obtain ⟨A2, c2, rfl⟩ := ha.slice; have Q2 := Aside0.mk (show Below w1.heap.size w1 w2 from hb); have B2 := Aside0.mk (btrans B1.out hb); have N2 := Aside0.mk ((hb.block _ (blk_lt N1.out)).trans N1.out); have hfz := (fun j => (row_old N2.out j).1); have hcz := (fun j => (row_old N2.out j).2); unfold zeroRule at hcz; have hz : w.heap.size < w2.heap.size := blk_lt N2.out; clear hb tok2))
  rw [past3 hz]
  have hcy := fun o j => (row_old (blk_alloc N2.out o) j).2
  unfold zeroRule at hcy
  refine bodyPost_ret (v := .tuple #[.agg #[.slice A2 (twinActs).length c2, .func (.func 72) #[] #[], .slice (some ⟨w2.heap.size, 0, none⟩) 1 1], .bool true]) (by simp [results, Tryz.results36, go_sem, hcy]) rfl ?_
  exact ⟨_, rfl, rule_end (blk_alloc N2.out _) (Nat.le_refl _) (B2.out.alloc B2.out.size _) (HA2.out.below (al1 w2 _)) (twin_pred _) (start_lit _ [0] _ B2.out.size (by simp) _ rfl rfl rfl) _ _ _⟩
def rule16 : RuleS := ⟨[growS (-900) 900 4 true, tellS ⟨#[103, 101, 116]⟩ (fun s => 0 < s.length) (fun s => s.getD 0 0)], exactlyB 1 (-1000000) 1000000, [0]⟩
theorem find16 (n : Int) (h1 : 1 ≤ n) (h2 : n ≤ 8) : FindsAt 16 n rule16 := by
  intro w
  have B0 := Aside0.mk ((Below.refl w.heap.size w).alloc (Nat.le_refl _) (.cells zeroRule 67 (0, 0)))
  have N0 := Aside0.mk (heap_alloc_new w (.cells zeroRule 67 (0, 0)))
  go_enter Tryz.func36, Tryz.ntmps36
  have tok1 : True := trivial
  go_wp2_with (first
    | (go_at_call 47; have _t := tok1; refine (words_calls 24 900 _).mono ?_; rintro e w1 ⟨V1, rfl, hp, hb⟩; have HP1 := Aside0.mk hp; have B1 := Aside0.mk (btrans B0.out hb); have N1 := Aside0.mk ((hb.block _ (blk_lt N0.out)).trans N0.out); obtain ⟨g1, cap1, rfl, _⟩ := hp; clear hb tok1; have tok2 : True := trivial)
    | (go_at_call 69; have _t := tok2; refine (grows_calls (-900) 900 4 true _).mono ?_; rintro e w2 ⟨v2, rfl, ha, hb⟩; obtain ⟨V2, rfl, hp⟩ := ha; have HD2 := Aside0.mk hp; have Q2 := Aside0.mk (show Below w1.heap.size w1 w2 from hb); have B2 := Aside0.mk (btrans B1.out hb); have N2 := Aside0.mk ((hb.block _ (blk_lt N1.out)).trans N1.out); obtain ⟨g2, cap2, rfl, _⟩ := hp; clear hb tok2; have tok3 : True := trivial)
    | (go_at_call 59; have _t := tok3; refine (tell_calls ⟨#[103, 101, 116]⟩ _ _ _ _ (first_meas _)).mono ?_; rintro e w3 ⟨v3, rfl, ha, hb⟩; obtain ⟨V3, rfl, hp⟩ := ha; have HD3 := Aside0.mk hp; have Q3 := Aside0.mk (show Below w2.heap.size w2 w3 from hb); have B3 := Aside0.mk (btrans B2.out hb); have N3 := Aside0.mk ((hb.block _ (blk_lt N2.out)).trans N2.out); obtain ⟨g3, cap3, rfl, _⟩ := hp; clear hb tok3; have tok4 : True := trivial)
    | (go_at_call 64; have _t := tok4; refine (exactly_calls 1 (-1000000) 1000000 _).mono ?_; rintro e w4 ⟨V4, rfl, hp, hb⟩; have HP4 := Aside0.mk hp; have Q4 := Aside0.mk (show Below w3.heap.size w3 w4 from btrans (al1 w3 _) hb); have R4 := Aside0.mk hb; have B4 := Aside0.mk (btrans (B3.out.alloc B3.out.size _) hb); have N4 := Aside0.mk ((hb.block _ (blk_lt (blk_alloc N3.out _))).trans (blk_alloc N3.out _)); have hfz := (fun j => (row_old N4.out j).1); have hcz := (fun j => (row_old N4.out j).2); unfold zeroRule at hcz; have hz : w.heap.size < w4.heap.size := blk_lt N4.out; obtain ⟨g4, cap4, rfl, _⟩ := hp; clear hb tok4))
  rw [past3 hz]
  have hcy := fun o j => (row_old (blk_alloc N4.out o) j).2
  unfold zeroRule at hcy
  refine bodyPost_ret (v := .tuple #[.agg #[.slice (some ⟨w3.heap.size, 0, none⟩) 2 2, .func (.func g4) #[] cap4, .slice (some ⟨w4.heap.size, 0, none⟩) 1 1], .bool true]) (by simp [results, Tryz.results36, go_sem, hcy]) rfl ?_
  have hA : ActsV (w3.alloc (.cells (List.zipWith acells [growS (-900) 900 4 true, tellS ⟨#[103, 101, 116]⟩ (fun s => 0 < s.length) (fun s => s.getD 0 0)] [.func (.func g2) #[] cap2, .func (.func g3) #[] cap3]).flatten.toArray 87 (0, 0))) (.slice (some ⟨w3.heap.size, 0, none⟩) 2 2) [growS (-900) 900 4 true, tellS ⟨#[103, 101, 116]⟩ (fun s => 0 < s.length) (fun s => s.getD 0 0)] := by
    refine acts_lit w3 [growS (-900) 900 4 true, tellS ⟨#[103, 101, 116]⟩ (fun s => 0 < s.length) (fun s => s.getD 0 0)] [.func (.func g2) #[] cap2, .func (.func g3) #[] cap3] rfl (fun j a V h1 h2 => ?_) (by simp) _ rfl rfl rfl
    match j, h1, h2 with
    | 0, h1, h2 => cases h1; cases h2; exact HD2.out.mono (Stays.of Q3.out) Q3.out.size
    | 1, h1, h2 => cases h1; cases h2; exact HD3.out
    | j + 2, h1, _ => simp at h1
  exact ⟨_, rfl, rule_end (blk_alloc N4.out _) (Nat.le_refl _) (B4.out.alloc B4.out.size _) (hA.below (btrans R4.out (al1 w4 _))) (HP4.out.mono (Stays.of (al1 w4 _))) (start_lit _ [0] _ B4.out.size (by simp) _ rfl rfl rfl) _ _ _⟩
end Go.Proofs.YtiialjmpfeopjaaGreat.Sp

namespace Go.Proofs.YtiialjmpfeopjaaGreat.Sp
open Go.RowKit Go.Sort Go.Proofs.YtiialjmpfeopjaaGreatW.PrintWords Go.Proofs.YtiialjmpfeopjaaGreatW.PrintLast Go.Proofs.YtiialjmpfeopjaaGreatW.PrintMore
set_option linter.unusedVariables false
set_option linter.unusedSimpArgs false
set_option maxHeartbeats 8000000
set_option maxRecDepth 100000
/-- The acts of a rule, laid in a row above a bound. -/
def ActsB (w : World) (base : Nat) (v : Value) (l : List ActS) : Prop := ∃ Vs, Vs.length = l.length ∧ (Kd.raw 7).R 87 w base (fun _ => True) v (List.zipWith acells l Vs) ∧ ∀ (j : Nat) a V, l[j]? = some a → Vs[j]? = some V → DoV w V a.pre a.D
theorem ActsB.acts {w : World} {base : Nat} {v : Value} {l : List ActS} (h : ActsB w base v l) : ActsV w v l := ⟨base, h⟩
theorem ActsB.below {w w1 : World} {base : Nat} {v : Value} {l : List ActS} (h : ActsB w base v l) (hb : Below w.heap.size w w1) : ActsB w1 base v l := by
  obtain ⟨Vs, hl, hr, hd⟩ := h
  exact ⟨Vs, hl, Kd.R_below hr hb, fun j a V h1 h2 => (hd j a V h1 h2).mono (Stays.of hb) hb.size⟩
/-- A literal of acts. -/
theorem acts_litB (W : World) (l : List ActS) (Vs : List Value) (hl : Vs.length = l.length) (hd : ∀ (j : Nat) a V, l[j]? = some a → Vs[j]? = some V → DoV W V a.pre a.D) (hm : l.length ≤ 100) (cs : Array Value) (hcs : cs = (List.zipWith acells l Vs).flatten.toArray) {b n : Nat} (hb : b = W.heap.size) (hn : n = l.length) :
    ActsB (W.alloc (.cells cs 87 (0, 0))) W.heap.size (.slice (some ⟨b, 0, none⟩) n n) l := by
  subst hcs hb hn
  have hone : ∀ V ∈ Vs, V.oneCell' = true := by
    intro V hV
    obtain ⟨j, hj, rfl⟩ := List.mem_iff_getElem.1 hV
    exact (hd j (l[j]'(by omega)) _ (List.getElem?_eq_getElem (by omega)) (List.getElem?_eq_getElem hj)).one
  have hz : (List.zipWith acells l Vs).length = l.length := by rw [List.length_zipWith]; omega
  have hr := OwnRow.lit (e := 87) W W.heap.size (acts_reps l Vs hl hone) (Nat.le_refl _) (by rw [hz]; omega)
  rw [hz] at hr
  exact ⟨Vs, hl, ⟨fun _ _ => trivial, hr⟩, fun j a V h1 h2 => (hd j a V h1 h2).mono (Stays.of ((Below.refl _ _).alloc (Nat.le_refl _) _)) (by rw [alloc_size]; omega)⟩
theorem sets_callsB (hi : Int) (w : World) :
    Calls Tryz.prog 58 #[.int .i64 hi] w fun e w' => ∃ v base, e = .returned v ∧ w.heap.size < base ∧ base ≤ w'.heap.size ∧ ActsB w' base v (setActs hi) ∧ Below w.heap.size w w' := by
  have b1 := (Below.refl w.heap.size w).alloc (Nat.le_refl _) (.cells #[.int .i64 hi] 3 (0, 0))
  have n1 := heap_alloc_new w (.cells #[.int .i64 hi] 3 (0, 0))
  have B1 := Aside0.mk b1
  have N1 := Aside0.mk n1
  have eg : ∀ args w, (callFunc 88 args).run Tryz.prog w = .ok (.enter 88 args) w := enters_of Tryz.func88 (by kernel_rfl) rfl
  clear b1 n1
  go_enter Tryz.func58, Tryz.ntmps58
  have tok1 : True := trivial
  go_wp2_with (first
    | (go_at_fn 88; have _t := tok1; refine (set_calls ⟨#[97, 100, 100]⟩ hi w.heap.size _ addF _ add_set (one_cell N1.out)).mono ?_; rintro e w1 ⟨v1, rfl, ha, hb⟩; obtain ⟨V1, rfl, hd1⟩ := ha; have HD1 := Aside0.mk hd1; have B2 := Aside0.mk (btrans B1.out hb); have N2 := Aside0.mk ((hb.block _ (blk_lt N1.out)).trans N1.out); obtain ⟨g1, cap1, rfl, _⟩ := hd1; clear hb tok1; have tok2 : True := trivial)
    | (go_at_fn 88; have _t := tok2; refine (set_calls ⟨#[114, 101, 109]⟩ hi w.heap.size _ remF _ rem_set (one_cell (blk_alloc N2.out _))).mono ?_; rintro e w2 ⟨v2, rfl, ha, hb⟩; obtain ⟨V2, rfl, hd2⟩ := ha; have HD2 := Aside0.mk hd2; have BB2 := Aside0.mk hb; have N3 := Aside0.mk ((hb.block _ (blk_lt (blk_alloc N2.out _))).trans (blk_alloc N2.out _)); obtain ⟨hcl2, hfr2⟩ := bcell hb; have h12 : w1.heap.size < w2.heap.size := (by have := hb.size; simp at this; omega); obtain ⟨g2, cap2, rfl, _⟩ := hd2; clear hb tok2; have tok3 : True := trivial)
    | (go_at_fn 88; have _t := tok3; refine (set_calls ⟨#[104, 97, 115]⟩ hi w.heap.size _ hasF _ has_set (one_cell (blk_alloc N3.out _))).mono ?_; rintro e w3 ⟨v3, rfl, ha, hb⟩; obtain ⟨V3, rfl, hd3⟩ := ha; have HD3 := Aside0.mk hd3; have BB3 := Aside0.mk hb; obtain ⟨hcl3, hfr3⟩ := bcell hb; have h23 : w2.heap.size < w3.heap.size := (by have := hb.size; simp at this; omega); have h13 : w1.heap.size < w3.heap.size := (by omega); obtain ⟨g3, cap3, rfl, _⟩ := hd3; clear hb tok3))
  go_ret
  have q12 : Below w1.heap.size w1 w2 := btrans ((Below.refl w1.heap.size w1).alloc (Nat.le_refl _) _) BB2.out
  have q23 : Below w2.heap.size w2 w3 := btrans ((Below.refl w2.heap.size w2).alloc (Nat.le_refl _) _) BB3.out
  have q3 : ∀ o, Below w3.heap.size w3 (w3.alloc o) := fun o => (Below.refl w3.heap.size w3).alloc (Nat.le_refl _) o
  refine ⟨_, _, rfl, (by have := B2.out.size; have := blk_lt N2.out; rw [alloc_size]; omega), (by simp only [alloc_size]; omega), acts_litB (w3.alloc _) (setActs hi) [.func (.func g1) #[] cap1, .func (.func g2) #[] cap2, .func (.func g3) #[] cap3] rfl (fun j a V h1 h2 => ?_) (by simp [setActs]) _ rfl (by rw [alloc_size]) rfl, ?_⟩
  · match j, h1, h2 with
    | 0, h1, h2 => cases h1; cases h2; exact HD1.out.mono (Stays.of (btrans q12 (btrans q23 (q3 _)))) (btrans q12 (btrans q23 (q3 _))).size
    | 1, h1, h2 => cases h1; cases h2; exact HD2.out.mono (Stays.of (btrans q23 (q3 _))) (btrans q23 (q3 _)).size
    | 2, h1, h2 => cases h1; cases h2; exact HD3.out.mono (Stays.of (q3 _)) (q3 _).size
    | j + 3, h1, _ => simp [setActs] at h1
  · exact (btrans B2.out (btrans q12 (btrans q23 (q3 _)))).alloc (btrans B2.out (btrans q12 (btrans q23 (q3 _)))).size _

theorem info_act : (Tryz.prog.info? 87).map (fun i => (i.zero, i.size, i.bytes)) = some (some (.agg #[.string ⟨#[]⟩, .int .i64 0, .int .i64 0, .int .i64 0, .int .i64 0, .bool false, .nilFunc]), 7, 64) := by kernel_rfl
theorem stays_grown {W w1 : World} {base : Nat} {v : Value} {xs : List (List Value)} {ok : Nat → Prop} (h : (Kd.raw 7).R 87 W base ok v xs) (hg : W.grownBy w1 v.ownBlock) : Stays W w1 := by
  obtain ⟨inner, ho⟩ := Kd.R_own h
  intro k c t h1 h2 hk
  refine (hg.block k (blk_lt hk) (fun he => ?_)).trans hk
  obtain ⟨cells, hc⟩ := own_typed ho k he.symm
  rw [hk] at hc
  injection hc with hc
  injection hc with _ hc _
  exact h1 hc
theorem acts_snoc {W w1 : World} {base : Nat} {v v1 : Value} {l : List ActS} {a : ActS} {Vs : List Value} {V : Value} (hl : Vs.length = l.length) (hr : (Kd.raw 7).R 87 W base (fun _ => True) v (List.zipWith acells l Vs)) (hd : ∀ (j : Nat) a V, l[j]? = some a → Vs[j]? = some V → DoV W V a.pre a.D) (hV : DoV W V a.pre a.D)
    (h1 : (Kd.raw 7).R 87 w1 base (fun _ => True) v1 (List.zipWith acells l Vs ++ [acells a V])) (hg : W.grownBy w1 v.ownBlock) (hz : W.heap.size ≤ w1.heap.size) : ActsB w1 base v1 (l ++ [a]) := by
  have hs := stays_grown hr hg
  refine ⟨Vs ++ [V], by simp [hl], ?_, fun j a' V' g1 g2 => ?_⟩
  · rw [List.zipWith_append hl.symm]
    exact h1
  · rcases Nat.lt_trichotomy j l.length with h | h | h
    · rw [List.getElem?_append_left h] at g1
      rw [List.getElem?_append_left (by omega)] at g2
      exact (hd j a' V' g1 g2).mono hs hz
    · subst h
      rw [List.getElem?_append_right (Nat.le_refl _)] at g1
      rw [List.getElem?_append_right (by omega), hl] at g2
      simp at g1 g2
      subst g1 g2
      exact hV.mono hs hz
    · rw [List.getElem?_eq_none (by simp; omega)] at g1
      exact absurd g1 (by simp)
def allA : ActS := tellS ⟨#[97, 108, 108]⟩ (fun s => ∀ j, j < s.length → 0 ≤ s.getD j 0 ∧ s.getD j 0 ≤ 15) powS
def rule8 : RuleS := ⟨setActs 15 ++ [allA], ascendingB 15 true, []⟩
theorem find8 (n : Int) (h1 : 1 ≤ n) (h2 : n ≤ 8) : FindsAt 8 n rule8 := by
  intro w
  have B0 := Aside0.mk ((Below.refl w.heap.size w).alloc (Nat.le_refl _) (.cells zeroRule 67 (0, 0)))
  have N0 := Aside0.mk (heap_alloc_new w (.cells zeroRule 67 (0, 0)))
  go_enter Tryz.func36, Tryz.ntmps36
  go_wp2_with (first
    | (go_at_call 47; refine (words_calls 24 900 _).mono ?_; rintro e w1 ⟨V1, rfl, hp, hb⟩; have B1 := Aside0.mk (btrans B0.out hb); have N1 := Aside0.mk ((hb.block _ (blk_lt N0.out)).trans N0.out); obtain ⟨g1, cap1, rfl, _⟩ := hp; clear hb)
    | (go_at_call 58; refine (sets_callsB 15 _).mono ?_; rintro e w2 ⟨v2, bs, rfl, hbs, hbs2, ha, hb⟩; have HA2 := Aside0.mk ha; have HBS := Aside0.mk (show w.heap.size < bs from by have := blk_lt N1.out; omega); have HBS2 := Aside0.mk hbs2; obtain ⟨A2, c2, rfl⟩ := ha.acts.slice; have B2 := Aside0.mk (btrans B1.out hb); have N2 := Aside0.mk ((hb.block _ (blk_lt N1.out)).trans N1.out); clear hb hbs hbs2 ha)
    | (go_at_call 59; refine (tell_calls ⟨#[97, 108, 108]⟩ _ _ _ _ (all_meas _)).mono ?_; rintro e w3 ⟨v3, rfl, ha, hb⟩; obtain ⟨V3, rfl, hp⟩ := ha; have HD3 := Aside0.mk hp; have HA3 := Aside0.mk (HA2.out.below hb); have B3 := Aside0.mk (btrans B2.out hb); have N3 := Aside0.mk ((hb.block _ (blk_lt N2.out)).trans N2.out); have HZ3 := Aside0.mk hb.size; obtain ⟨g3, cap3, rfl, _⟩ := hp; clear hb; obtain ⟨Vs, hVl, hVr, hVd⟩ := HA3.out)
    | ((with_reducible refine gate_builtin (b := .append) (xs := #[.tmp 71, .tmp 73]) rfl ?_); at_builtin; refine Kd.R_append (Kd.raw 7) (w0 := w3) bs rfl (.tmp 71) (.tmp 73) 64 87 (.agg #[.string ⟨#[]⟩, .int .i64 0, .int .i64 0, .int .i64 0, .int .i64 0, .bool false, .nilFunc]) 64 rfl Tryz.underlying64 info_act rfl (by decide) (by omega) _ (List.zipWith acells (setActs 15) Vs) (acells allA (.func (.func g3) #[] cap3)) (acells allA (.func (.func g3) #[] cap3)) (fun _ => True) (fun _ => False) rfl rfl ⟨rfl, rfl, acells_one HD3.out.one⟩ (fun _ hk => hk.elim) (fun _ _ => trivial) hVr (Below.refl _ _) (Nat.le_trans HBS2.out HZ3.out) (by rw [List.length_zipWith, hVl]; simp [setActs]) ?_; intro v4 w4 ho hb hg hat; have HA4 := Aside0.mk (acts_snoc hVl hVr hVd HD3.out ho hg hb.size); have B4 := Aside0.mk (B3.out.trans (hb.mono (Nat.le_of_lt HBS.out))); have N4 := Aside0.mk ((hb.block _ HBS.out).trans N3.out); obtain ⟨A4, c4, rfl⟩ := HA4.out.acts.slice; clear ho hb hg hat)
    | (go_at_call 56; refine (ascending_calls 15 true _).mono ?_; rintro e w5 ⟨V5, rfl, hp, hb⟩; have HP5 := Aside0.mk hp; have HA5 := Aside0.mk (HA4.out.below hb); have B5 := Aside0.mk (btrans B4.out hb); have N5 := Aside0.mk ((hb.block _ (blk_lt N4.out)).trans N4.out); have hfz := (fun j => (row_old N5.out j).1); have hcz := (fun j => (row_old N5.out j).2); unfold zeroRule at hcz; have hz : w.heap.size < w5.heap.size := blk_lt N5.out; obtain ⟨g5, cap5, rfl, _⟩ := hp; clear hb))
  refine bodyPost_ret (v := .tuple #[.agg #[.slice A4 (setActs 15 ++ [allA]).length c4, .func (.func g5) #[] cap5, .slice none 0 0], .bool true]) (by simp [results, Tryz.results36, go_sem, hcz]) rfl ?_
  exact ⟨_, rfl, rule_end N5.out (Nat.le_refl _) B5.out HA5.out.acts HP5.out (own_none _ _) _ _ _⟩
end Go.Proofs.YtiialjmpfeopjaaGreat.Sp

namespace Go.Proofs.YtiialjmpfeopjaaGreat.Sp
open Go.RowKit Go.Sort Go.Proofs.YtiialjmpfeopjaaGreatW.PrintWords Go.Proofs.YtiialjmpfeopjaaGreatW.PrintLast Go.Proofs.YtiialjmpfeopjaaGreatW.PrintMore
set_option linter.unusedVariables false
set_option linter.unusedSimpArgs false
set_option maxHeartbeats 8000000
set_option maxRecDepth 100000
def writeA : ActS := putS ⟨#[119, 114, 105, 116, 101]⟩ (fun _ _ => True) (fun _ x => [x])
def readA : ActS := tellS ⟨#[114, 101, 97, 100]⟩ (fun s => 0 < s.length ∧ 0 ≤ s.getD 0 0 ∧ s.getD 0 0 ≤ 900) (fun s => 1001 * s.getD 0 0 + 1)
def rule10 : RuleS := ⟨[writeA, readA], exactlyB 1 0 900, [0]⟩
theorem ten_acts {w2 w3 W : World} {g2 g3 : Nat} {cap2 cap3 : Array Value} {b : Nat} (h2 : DoV w2 (.func (.func g2) #[] cap2) writeA.pre writeA.D) (h3 : DoV w3 (.func (.func g3) #[] cap3) readA.pre readA.D) (q2 : Below w2.heap.size w2 W) (q3 : Below w3.heap.size w3 W) (hb : b = W.heap.size) :
    ActsV (W.alloc (.cells (List.zipWith acells [writeA, readA] [.func (.func g2) #[] cap2, .func (.func g3) #[] cap3]).flatten.toArray 87 (0, 0))) (.slice (some ⟨b, 0, none⟩) 2 2) rule10.acts := by
  refine acts_lit W [writeA, readA] [.func (.func g2) #[] cap2, .func (.func g3) #[] cap3] rfl (fun j a V g1 g2 => ?_) (by simp) _ rfl hb rfl
  match j, g1, g2 with
  | 0, g1, g2 => cases g1; cases g2; exact h2.mono (Stays.of q2) q2.size
  | 1, g1, g2 => cases g1; cases g2; exact h3.mono (Stays.of q3) q3.size
  | j + 2, g1, _ => simp at g1
theorem find10 (n : Int) (h1 : 1 ≤ n) (h2 : n ≤ 8) : FindsAt 10 n rule10 := by
  intro w
  have B0 := Aside0.mk ((Below.refl w.heap.size w).alloc (Nat.le_refl _) (.cells zeroRule 67 (0, 0)))
  have N0 := Aside0.mk (heap_alloc_new w (.cells zeroRule 67 (0, 0)))
  go_enter Tryz.func36, Tryz.ntmps36
  go_wp2_with (first
    | (go_at_call 47; refine (words_calls 24 900 _).mono ?_; rintro e w1 ⟨V1, rfl, hp, hb⟩; have B1 := Aside0.mk (btrans B0.out hb); have N1 := Aside0.mk ((hb.block _ (blk_lt N0.out)).trans N0.out); obtain ⟨g1, cap1, rfl, _⟩ := hp; clear hb)
    | (go_at_call 48; refine (put_calls ⟨#[119, 114, 105, 116, 101]⟩ 900 _ _ _ _ (write_into _)).mono ?_; rintro e w2 ⟨v2, rfl, ha, hb⟩; obtain ⟨V2, rfl, hp⟩ := ha; have HD2 := Aside0.mk hp; have B2 := Aside0.mk (btrans B1.out hb); have N2 := Aside0.mk ((hb.block _ (blk_lt N1.out)).trans N1.out); obtain ⟨g2, cap2, rfl, _⟩ := hp; clear hb))
  have hcx := fun j : Nat => (Go.Lib.cell_of_heap (heap_alloc_new w2 (.cells #[.string ⟨#[119, 114, 105, 116, 101]⟩, .int .i64 1, .int .i64 0, .int .i64 900, .int .i64 4, .bool false, .func (.func g2) #[] cap2] 87 (0, 0))) j)
  go_region_with (first
    | (go_at_call 59; refine (tell_calls ⟨#[114, 101, 97, 100]⟩ _ _ _ _ (wide_meas _)).mono ?_; rintro e w3 ⟨v3, rfl, ha, hb⟩; obtain ⟨V3, rfl, hp⟩ := ha; have HD3 := Aside0.mk hp; have HB3 := Aside0.mk hb; have N3 := Aside0.mk (show w3.heap[w.heap.size]? = some (.cells zeroRule 67 (0, 0)) from by first | exact (hb.block _ (blk_lt (blk_alloc N2.out _))).trans (blk_alloc N2.out _) | exact (hb.block _ (blk_lt (blk_alloc (blk_alloc N2.out _) _))).trans (blk_alloc (blk_alloc N2.out _) _)); have N7 := Aside0.mk (show w3.heap[w2.heap.size]? = some (.cells #[.string ⟨#[119, 114, 105, 116, 101]⟩, .int .i64 1, .int .i64 0, .int .i64 900, .int .i64 4, .bool false, .func (.func g2) #[] cap2] 87 (0, 0)) from by first | exact (hb.block _ (blk_lt (heap_alloc_new w2 _))).trans (heap_alloc_new w2 _) | exact (hb.block _ (blk_lt (blk_alloc (heap_alloc_new w2 _) _))).trans (blk_alloc (heap_alloc_new w2 _) _)); have hc7 := (fun j : Nat => (row_old N7.out j).2); have Q23 := Aside0.mk (show Below w2.heap.size w2 w3 from Below.trans (by repeat (first | exact al1 w2 _ | exact al2 w2 _ _ | apply pw_below_drewN | apply below_drew1)) (hb.mono (by simp; try omega))); have h23 : w2.heap.size < w3.heap.size := (by have := hb.size; simp at this; omega); obtain ⟨g3, cap3, rfl, _⟩ := hp; clear hb)
    | (go_at_call 64; refine (exactly_calls 1 0 900 _).mono ?_; rintro e w4 ⟨V4, rfl, hp, hb⟩; have HP4 := Aside0.mk hp; have N4 := Aside0.mk (show w4.heap[w.heap.size]? = some (.cells zeroRule 67 (0, 0)) from by first | exact (hb.block _ (blk_lt N3.out)).trans N3.out | exact (hb.block _ (blk_lt (blk_alloc N3.out _))).trans (blk_alloc N3.out _) | exact (hb.block _ (blk_lt (blk_alloc (blk_alloc N3.out _) _))).trans (blk_alloc (blk_alloc N3.out _) _)); have HB4 := Aside0.mk hb; have Q34 := Aside0.mk (show Below w3.heap.size w3 w4 from Below.trans (by repeat (first | exact Below.refl _ _ | exact al1 w3 _ | exact al2 w3 _ _)) (hb.mono (by simp; try omega))); have B4 := Aside0.mk (btrans (btrans B2.out Q23.out) Q34.out); have N74 := Aside0.mk (show w4.heap[w2.heap.size]? = some (.cells #[.string ⟨#[119, 114, 105, 116, 101]⟩, .int .i64 1, .int .i64 0, .int .i64 900, .int .i64 4, .bool false, .func (.func g2) #[] cap2] 87 (0, 0)) from by first | exact (hb.block _ (blk_lt N7.out)).trans N7.out | exact (hb.block _ (blk_lt (blk_alloc N7.out _))).trans (blk_alloc N7.out _) | exact (hb.block _ (blk_lt (blk_alloc (blk_alloc N7.out _) _))).trans (blk_alloc (blk_alloc N7.out _) _)); have hc74 := (fun j : Nat => (row_old N74.out j).2); have h24 : w2.heap.size < w4.heap.size := blk_lt N74.out; have hfz := (fun j => (row_old N4.out j).1); have hcz := (fun j => (row_old N4.out j).2); unfold zeroRule at hcz; have hz : w.heap.size < w4.heap.size := blk_lt N4.out; obtain ⟨g4, cap4, rfl, _⟩ := hp; clear hb))
  all_goals go_wp2
  all_goals have hcy := fun o j => (row_old (blk_alloc N4.out o) j).2
  all_goals have hcy2 := fun o o2 j => (row_old (blk_alloc (blk_alloc N4.out o) o2) j).2
  all_goals unfold zeroRule at hcy hcy2
  all_goals first | rw [past32 hz] | rw [past3 hz] | skip
  all_goals first
    | (refine bodyPost_ret (v := .tuple #[.agg #[.slice (some ⟨w3.heap.size, 0, none⟩) 2 2, .func (.func g4) #[] cap4, .slice (some ⟨w2.heap.size + 1, 0, none⟩) 1 1], .bool true]) ?hr rfl ?_; (case hr => (simp [results, Tryz.results36, go_sem, hcz, hcy, hcy2]; done)))
    | (refine bodyPost_ret (v := .tuple #[.agg #[.slice (some ⟨w4.heap.size, 0, none⟩) 2 2, .func (.func g4) #[] cap4, .slice (some ⟨w2.heap.size + 1, 0, none⟩) 1 1], .bool true]) ?hr rfl ?_; (case hr => (simp [results, Tryz.results36, go_sem, hcz, hcy, hcy2]; done)))
    | (refine bodyPost_ret (v := .tuple #[.agg #[.slice (some ⟨w3.heap.size + 1, 0, none⟩) 2 2, .func (.func g4) #[] cap4, .slice (some ⟨w3.heap.size, 0, none⟩) 1 1], .bool true]) ?hr rfl ?_; (case hr => (simp [results, Tryz.results36, go_sem, hcz, hcy, hcy2]; done)))
    | (refine bodyPost_ret (v := .tuple #[.agg #[.slice (some ⟨w3.heap.size, 0, none⟩) 2 2, .func (.func g4) #[] cap4, .slice (some ⟨w3.heap.size + 1, 0, none⟩) 1 1], .bool true]) ?hr rfl ?_; (case hr => (simp [results, Tryz.results36, go_sem, hcz, hcy, hcy2]; done)))
    | (refine bodyPost_ret (v := .tuple #[.agg #[.slice (some ⟨w4.heap.size, 0, none⟩) 2 2, .func (.func g4) #[] cap4, .slice (some ⟨w3.heap.size, 0, none⟩) 1 1], .bool true]) ?hr rfl ?_; (case hr => (simp [results, Tryz.results36, go_sem, hcz, hcy, hcy2]; done)))
    | (refine bodyPost_ret (v := .tuple #[.agg #[.slice (some ⟨w3.heap.size, 0, none⟩) 2 2, .func (.func g4) #[] cap4, .slice (some ⟨w4.heap.size, 0, none⟩) 1 1], .bool true]) ?hr rfl ?_; (case hr => (simp [results, Tryz.results36, go_sem, hcz, hcy, hcy2]; done)))
    | (refine bodyPost_ret (v := .tuple #[.agg #[.slice (some ⟨w4.heap.size, 0, none⟩) 2 2, .func (.func g4) #[] cap4, .slice (some ⟨w4.heap.size + 1, 0, none⟩) 1 1], .bool true]) ?hr rfl ?_; (case hr => (simp [results, Tryz.results36, go_sem, hcz, hcy, hcy2]; done)))
    | (refine bodyPost_ret (v := .tuple #[.agg #[.slice (some ⟨w4.heap.size + 1, 0, none⟩) 2 2, .func (.func g4) #[] cap4, .slice (some ⟨w4.heap.size, 0, none⟩) 1 1], .bool true]) ?hr rfl ?_; (case hr => (simp [results, Tryz.results36, go_sem, hcz, hcy, hcy2]; done)))
  all_goals exact ⟨_, rfl, rule_end (by repeat (first | exact N4.out | apply blk_alloc)) (Nat.le_refl _) (by repeat (first | exact B4.out | exact btrans B4.out (al1 _ _) | exact btrans B4.out (al2 _ _ _)))
    (by first
      | exact (ten_acts (W := w3) HD2.out HD3.out Q23.out (Below.refl _ _) rfl).below HB4.out
      | exact (ten_acts (W := w3) HD2.out HD3.out Q23.out (Below.refl _ _) rfl).below (btrans HB4.out (al1 _ _))
      | exact (ten_acts (W := w3.alloc _) HD2.out HD3.out (btrans Q23.out (al1 _ _)) (al1 _ _) (by simp)).below HB4.out
      | exact ((ten_acts (W := w3) HD2.out HD3.out Q23.out (Below.refl _ _) rfl).below (al1 _ _)).below HB4.out
      | exact ten_acts (W := w4) HD2.out HD3.out (btrans Q23.out Q34.out) Q34.out rfl
      | exact (ten_acts (W := w4) HD2.out HD3.out (btrans Q23.out Q34.out) Q34.out rfl).below (al1 _ _)
      | exact ten_acts (W := w4.alloc _) HD2.out HD3.out (btrans (btrans Q23.out Q34.out) (al1 _ _)) (btrans Q34.out (al1 _ _)) (by simp))
    (HP4.out.mono (Stays.of (by first | exact Below.refl _ _ | exact al1 _ _ | exact al2 _ _ _)))
    (by first
      | exact start_lit w4 [0] w.heap.size B4.out.size (by simp) _ rfl rfl rfl
      | exact (start_lit w4 [0] w.heap.size B4.out.size (by simp) _ rfl rfl rfl).below (al1 _ _)
      | exact start_lit (w4.alloc _) [0] w.heap.size (btrans B4.out (al1 _ _)).size (by simp) _ rfl (by simp) rfl
      | exact (start_lit w3 [0] w.heap.size (btrans B2.out Q23.out).size (by simp) _ rfl rfl rfl).below HB4.out
      | exact (start_lit w3 [0] w.heap.size (btrans B2.out Q23.out).size (by simp) _ rfl rfl rfl).below (btrans HB4.out (al1 _ _))
      | exact ((start_lit w3 [0] w.heap.size (btrans B2.out Q23.out).size (by simp) _ rfl rfl rfl).below (al1 _ _)).below HB4.out
      | exact (start_lit (w3.alloc _) [0] w.heap.size (btrans (btrans B2.out Q23.out) (al1 _ _)).size (by simp) _ rfl (by simp) rfl).below HB4.out
      | exact (Own.drew_ (start_lit (w2.alloc _) [0] w.heap.size (btrans B2.out (al1 _ _)).size (by simp) _ rfl (by simp) rfl)).below (btrans HB3.out Q34.out)
      | exact (Own.drew_ (start_lit (w2.alloc _) [0] w.heap.size (btrans B2.out (al1 _ _)).size (by simp) _ rfl (by simp) rfl)).below (btrans HB3.out (btrans Q34.out (al1 _ _)))
      | exact (start_lit (w2.alloc _) [0] w.heap.size (btrans B2.out (al1 _ _)).size (by simp) _ rfl (by simp) rfl).below (btrans HB3.out Q34.out)
      | exact (start_lit (w2.alloc _) [0] w.heap.size (btrans B2.out (al1 _ _)).size (by simp) _ rfl (by simp) rfl).below (btrans HB3.out (btrans Q34.out (al1 _ _)))) _ _ _⟩
end Go.Proofs.YtiialjmpfeopjaaGreat.Sp

namespace Go.Proofs.YtiialjmpfeopjaaGreat.Sp
open Go.RowKit Go.Sort Go.Proofs.YtiialjmpfeopjaaGreatW.PrintWords Go.Proofs.YtiialjmpfeopjaaGreatW.PrintLast Go.Proofs.YtiialjmpfeopjaaGreatW.PrintMore
set_option linter.unusedVariables false
set_option linter.unusedSimpArgs false
set_option maxHeartbeats 8000000
set_option maxRecDepth 100000
def noRule : Value := .agg #[.slice none 0 0, .nilFunc, .slice none 0 0]
theorem below_set3 {w X : World} {k : Nat} (hk : w.heap.size ≤ k) (hB : Below w.heap.size w X) (u0 u1 u2 : Value) : Below w.heap.size w (((X.setCell ⟨k, 0, none⟩ u0).setCell ⟨k, 1, none⟩ u1).setCell ⟨k, 2, none⟩ u2) :=
  ((hB.setCell (p := ⟨k, 0, none⟩) hk u0).setCell (p := ⟨k, 1, none⟩) hk u1).setCell (p := ⟨k, 2, none⟩) hk u2
theorem find_far (r n : Int) (h : n < 1 ∨ 8 < n) (w : World) : Calls Tryz.prog 36 #[.int .i64 r, .int .i64 n] w fun e w' => e = .returned (.tuple #[noRule, .bool false]) ∧ Below w.heap.size w w' := by
  have B0 := Aside0.mk ((Below.refl w.heap.size w).alloc (Nat.le_refl _) (.cells zeroRule 67 (0, 0)))
  have hq : (decide (n < 1) || decide (8 < n)) = true := by simpa using h
  clear h
  go_enter Tryz.func36, Tryz.ntmps36
  go_wp2
  all_goals refine bodyPost_ret (v := .tuple #[noRule, .bool false]) (by simp [results, Tryz.results36, go_sem, noRule]) rfl ⟨rfl, B0.out⟩
theorem find_none (r n : Int) (h1 : 1 ≤ n) (h2 : n ≤ 8) (h : r < 1 ∨ 16 < r) (w : World) : Calls Tryz.prog 36 #[.int .i64 r, .int .i64 n] w fun e w' => e = .returned (.tuple #[noRule, .bool false]) ∧ Below w.heap.size w w' := by
  have B0 := Aside0.mk ((Below.refl w.heap.size w).alloc (Nat.le_refl _) (.cells zeroRule 67 (0, 0)))
  have N0 := Aside0.mk (heap_alloc_new w (.cells zeroRule 67 (0, 0)))
  have e1 : r ≠ 1 := by omega
  have e2 : r ≠ 2 := by omega
  have e3 : r ≠ 3 := by omega
  have e4 : r ≠ 4 := by omega
  have e5 : r ≠ 5 := by omega
  have e6 : r ≠ 6 := by omega
  have e7 : r ≠ 7 := by omega
  have e8 : r ≠ 8 := by omega
  have e9 : r ≠ 9 := by omega
  have e10 : r ≠ 10 := by omega
  have e11 : r ≠ 11 := by omega
  have e12 : r ≠ 12 := by omega
  have e13 : r ≠ 13 := by omega
  have e14 : r ≠ 14 := by omega
  have e15 : r ≠ 15 := by omega
  have e16 : r ≠ 16 := by omega
  clear h
  go_enter Tryz.func36, Tryz.ntmps36
  go_wp2_with (go_at_call 47; refine (words_calls 24 900 _).mono ?_; rintro e w1 ⟨V1, rfl, hp, hb⟩; have B1 := Aside0.mk (btrans B0.out hb); have N1 := Aside0.mk ((hb.block _ (blk_lt N0.out)).trans N0.out); have hfz := (fun j => (row_old N1.out j).1); have hcz := (fun j => (row_old N1.out j).2); unfold zeroRule at hcz; have hz : w.heap.size < w1.heap.size := blk_lt N1.out; obtain ⟨g1, cap1, rfl, _⟩ := hp; clear hb)
  refine bodyPost_ret (v := .tuple #[noRule, .bool false]) (by simp [results, Tryz.results36, go_sem, hcz, noRule]) rfl ?_
  exact ⟨rfl, below_set3 (Nat.le_refl _) B1.out _ _ _⟩
def ruleS (r n : Int) : Option RuleS :=
  if n < 1 ∨ 8 < n then none
  else if r = 1 then some rule1
  else if r = 2 then some rule2
  else if r = 3 then some (rule3 n)
  else if r = 4 then some rule4
  else if r = 5 then some rule5
  else if r = 6 then some rule6
  else if r = 7 then some rule7
  else if r = 8 then some rule8
  else if r = 9 then some rule9
  else if r = 10 then some rule10
  else if r = 11 then some rule11
  else if r = 12 then some rule12
  else if r = 13 then some rule13
  else if r = 14 then some rule14
  else if r = 15 then some rule15
  else if r = 16 then some rule16
  else none
theorem find_some {r n : Int} {R : RuleS} (h : ruleS r n = some R) : FindsAt r n R := by
  unfold ruleS at h
  by_cases hn : n < 1 ∨ 8 < n
  · rw [if_pos hn] at h; exact absurd h (by simp)
  rw [if_neg hn] at h
  have h1 : 1 ≤ n := by omega
  have h2 : n ≤ 8 := by omega
  by_cases e1 : r = 1
  · subst e1; simp at h; subst h; exact find1 n h1 h2
  rw [if_neg e1] at h
  by_cases e2 : r = 2
  · subst e2; simp at h; subst h; exact find2 n h1 h2
  rw [if_neg e2] at h
  by_cases e3 : r = 3
  · subst e3; simp at h; subst h; exact find3 n h1 h2
  rw [if_neg e3] at h
  by_cases e4 : r = 4
  · subst e4; simp at h; subst h; exact find4 n h1 h2
  rw [if_neg e4] at h
  by_cases e5 : r = 5
  · subst e5; simp at h; subst h; exact find5 n h1 h2
  rw [if_neg e5] at h
  by_cases e6 : r = 6
  · subst e6; simp at h; subst h; exact find6 n h1 h2
  rw [if_neg e6] at h
  by_cases e7 : r = 7
  · subst e7; simp at h; subst h; exact find7 n h1 h2
  rw [if_neg e7] at h
  by_cases e8 : r = 8
  · subst e8; simp at h; subst h; exact find8 n h1 h2
  rw [if_neg e8] at h
  by_cases e9 : r = 9
  · subst e9; simp at h; subst h; exact find9 n h1 h2
  rw [if_neg e9] at h
  by_cases e10 : r = 10
  · subst e10; simp at h; subst h; exact find10 n h1 h2
  rw [if_neg e10] at h
  by_cases e11 : r = 11
  · subst e11; simp at h; subst h; exact find11 n h1 h2
  rw [if_neg e11] at h
  by_cases e12 : r = 12
  · subst e12; simp at h; subst h; exact find12 n h1 h2
  rw [if_neg e12] at h
  by_cases e13 : r = 13
  · subst e13; simp at h; subst h; exact find13 n h1 h2
  rw [if_neg e13] at h
  by_cases e14 : r = 14
  · subst e14; simp at h; subst h; exact find14 n h1 h2
  rw [if_neg e14] at h
  by_cases e15 : r = 15
  · subst e15; simp at h; subst h; exact find15 n h1 h2
  rw [if_neg e15] at h
  by_cases e16 : r = 16
  · subst e16; simp at h; subst h; exact find16 n h1 h2
  rw [if_neg e16] at h
  exact absurd h (by simp)
theorem find_no {r n : Int} (h : ruleS r n = none) (w : World) : Calls Tryz.prog 36 #[.int .i64 r, .int .i64 n] w fun e w' => e = .returned (.tuple #[noRule, .bool false]) ∧ Below w.heap.size w w' := by
  unfold ruleS at h
  by_cases hn : n < 1 ∨ 8 < n
  · exact find_far r n hn w
  rw [if_neg hn] at h
  by_cases e1 : r = 1
  · subst e1; simp at h
  rw [if_neg e1] at h
  by_cases e2 : r = 2
  · subst e2; simp at h
  rw [if_neg e2] at h
  by_cases e3 : r = 3
  · subst e3; simp at h
  rw [if_neg e3] at h
  by_cases e4 : r = 4
  · subst e4; simp at h
  rw [if_neg e4] at h
  by_cases e5 : r = 5
  · subst e5; simp at h
  rw [if_neg e5] at h
  by_cases e6 : r = 6
  · subst e6; simp at h
  rw [if_neg e6] at h
  by_cases e7 : r = 7
  · subst e7; simp at h
  rw [if_neg e7] at h
  by_cases e8 : r = 8
  · subst e8; simp at h
  rw [if_neg e8] at h
  by_cases e9 : r = 9
  · subst e9; simp at h
  rw [if_neg e9] at h
  by_cases e10 : r = 10
  · subst e10; simp at h
  rw [if_neg e10] at h
  by_cases e11 : r = 11
  · subst e11; simp at h
  rw [if_neg e11] at h
  by_cases e12 : r = 12
  · subst e12; simp at h
  rw [if_neg e12] at h
  by_cases e13 : r = 13
  · subst e13; simp at h
  rw [if_neg e13] at h
  by_cases e14 : r = 14
  · subst e14; simp at h
  rw [if_neg e14] at h
  by_cases e15 : r = 15
  · subst e15; simp at h
  rw [if_neg e15] at h
  by_cases e16 : r = 16
  · subst e16; simp at h
  rw [if_neg e16] at h
  by_cases hr : r < 1 ∨ 16 < r
  · exact find_none r n (by omega) (by omega) hr w
  · omega
end Go.Proofs.YtiialjmpfeopjaaGreat.Sp
