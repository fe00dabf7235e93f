/- made: a manager and its reference, on which acts were done: plain lemmas; no condition. -/
import Derived.Test.YtcfodmnpmjkpbaaF7
namespace Go.Proofs.Ytcfodmnpmjkpbaa.Ep
open Go.RowKit Go.Proofs.YtcfodmnpmjkpbaaW.PrintWords Go.Proofs.YtcfodmnpmjkpbaaW.PrintLast Go.Proofs.YtcfodmnpmjkpbaaW.PrintMore
set_option linter.unusedVariables false
set_option linter.unusedSimpArgs false
set_option maxHeartbeats 8000000
set_option maxRecDepth 100000
theorem i64_low (n : Int) (j : Nat) (hj : j = 2 ∨ j = 10) : bits .and .i64 n (2 ^ j - 1) = n % 2 ^ j := by
  have hm : (BitVec.ofInt 64 ((2 : Int) ^ j - 1)).toNat = 2 ^ j - 1 := by
    rcases hj with h | h <;> subst h <;> decide
  have ht : (BitVec.ofInt 64 n &&& BitVec.ofInt 64 ((2 : Int) ^ j - 1)).toNat = (n % 18446744073709551616).toNat % 2 ^ j := by
    rw [BitVec.toNat_and, hm, Nat.and_two_pow_sub_one_eq_mod, BitVec.toNat_ofInt]; rfl
  show IntKind.i64.wrap (((BitVec.ofInt 64 n &&& BitVec.ofInt 64 ((2 : Int) ^ j - 1)).toNat : Nat) : Int) = n % 2 ^ j
  rw [ht]
  rcases hj with h | h <;> subst h <;> (rw [IntKind.wrap_i64]; omega)
theorem i64_and3 (n : Int) : ∃ q : Nat, q ≤ 3 ∧ bits .and .i64 n 3 = (q : Int) := by
  have := i64_low n 2 (.inl rfl)
  exact ⟨(n % 4).toNat, by omega, by rw [show (3 : Int) = 2 ^ 2 - 1 by decide, this]; omega⟩
theorem i64_and1023 (n : Int) : ∃ q : Nat, q ≤ 1023 ∧ bits .and .i64 n 1023 = (q : Int) := by
  have := i64_low n 10 (.inr rfl)
  exact ⟨(n % 1024).toNat, by omega, by rw [show (1023 : Int) = 2 ^ 10 - 1 by decide, this]; omega⟩
/-- An act: what, thread, hold, address. -/
structure DD where
  d : Int
  t : Int
  k : Int
  a : Int
instance : Inhabited DD := ⟨⟨0, 0, 0, 0⟩⟩
def DeedsAt (w : World) (A : Option Addr) (ds : List DD) : Prop := ∀ j, j < ds.length → ∃ ad, A = some ad ∧ w.cell? (ad.add (j * 4)) = some (.int .i64 ds[j]!.d) ∧ w.cell? (ad.add (j * 4 + 1)) = some (.int .i64 ds[j]!.t) ∧ w.cell? (ad.add (j * 4 + 2)) = some (.int .i64 ds[j]!.k) ∧ w.cell? (ad.add (j * 4 + 3)) = some (.int .i64 ds[j]!.a)
theorem add_field4 (ad : Addr) (m i : Nat) (hi : 0 < i) : ad.add (m + i) = ⟨(ad.add m).block, (ad.add m).off + i, none⟩ := add_field ad m i hi
def step1 (m : EM) (x : DD) : EM × List Int × Int := deed m x.d x.t x.k x.a
def rstep1 (m : RM) (x : DD) : RM × List Int × Int := rdeed m x.d x.t x.k x.a
def playTo (m : EM) (ds : List DD) (k : Nat) : EM := (ds.take k).foldl (fun m x => (step1 m x).1) m
def rplayTo (m : RM) (ds : List DD) (k : Nat) : RM := (ds.take k).foldl (fun m x => (rstep1 m x).1) m
theorem playTo_succ (m : EM) (ds : List DD) (k : Nat) (h : k < ds.length) : playTo m ds (k + 1) = (step1 (playTo m ds k) ds[k]!).1 := by
  unfold playTo
  rw [List.take_succ_eq_append_getElem h, List.foldl_append]
  simp [h]
theorem rplayTo_succ (m : RM) (ds : List DD) (k : Nat) (h : k < ds.length) : rplayTo m ds (k + 1) = (rstep1 (rplayTo m ds k) ds[k]!).1 := by
  unfold rplayTo
  rw [List.take_succ_eq_append_getElem h, List.foldl_append]
  simp [h]
theorem DeedsAt.below {w w' : World} {A : Option Addr} {ds : List DD} (h : DeedsAt w A ds) (hb : Below w.heap.size w w') : DeedsAt w' A ds := by
  intro j hj
  obtain ⟨ad, e, h1, h2, h3, h4⟩ := h j hj
  exact ⟨ad, e, (hb.cell (World.block_lt_of_cell? w _ h1)).trans h1, (hb.cell (World.block_lt_of_cell? w _ h2)).trans h2, (hb.cell (World.block_lt_of_cell? w _ h3)).trans h3, (hb.cell (World.block_lt_of_cell? w _ h4)).trans h4⟩
/-- How far a script goes within its bounds. -/
def Low (m : EM) (k : Nat) : Prop := m.ws.length ≤ k ∧ 0 ≤ m.ep ∧ m.ep ≤ 3 * k
def RLow (m : RM) (k : Nat) : Prop := m.its.length ≤ k ∧ 0 ≤ m.now ∧ m.now ≤ 3 * k
theorem deed_low {m : EM} {j : Nat} (h : Low m j) (d t k a : Int) : Low (deed m d t k a).1 (j + 1) ∧ (deed m d t k a).1.th.length = m.th.length := by
  obtain ⟨h1, h2, h3⟩ := h
  have same : Low m (j + 1) ∧ m.th.length = m.th.length := ⟨⟨by omega, h2, by omega⟩, rfl⟩
  unfold deed
  split
  · unfold inD
    split
    · exact same
    · exact ⟨⟨by show m.ws.length ≤ _; omega, h2, by show m.ep ≤ _; omega⟩, by simp [inned]⟩
  split
  · unfold outD
    split
    · exact same
    · exact ⟨⟨by show m.ws.length ≤ _; omega, h2, by show m.ep ≤ _; omega⟩, by simp [outed]⟩
  split
  · exact same
  split
  · exact same
  split
  · unfold retireD
    split
    · exact same
    split
    · exact same
    · obtain ⟨f1, f2, f3, f4⟩ := tried_facts (lined m a)
      have e1 : (lined m a).ws.length = m.ws.length + 1 := by simp [lined]
      have e2 : (lined m a).ep = m.ep := rfl
      have e3 : (lined m a).th = m.th := rfl
      refine ⟨⟨?_, ?_, ?_⟩, ?_⟩
      · show (tried (lined m a)).ws.length ≤ _; omega
      · show 0 ≤ (tried (lined m a)).ep; omega
      · show (tried (lined m a)).ep ≤ _; omega
      · show (tried (lined m a)).th.length = _; rw [f1, e3]
  split
  · unfold restD rested
    obtain ⟨f1, f2, f3, f4⟩ := tried_facts m
    obtain ⟨f5, f6, f7, f8⟩ := tried_facts (tried m)
    obtain ⟨f9, f10, f11, f12⟩ := tried_facts (tried (tried m))
    refine ⟨⟨?_, ?_, ?_⟩, ?_⟩
    · show (tried (tried (tried m))).ws.length ≤ _; omega
    · show 0 ≤ (tried (tried (tried m))).ep; omega
    · show (tried (tried (tried m))).ep ≤ _; omega
    · show (tried (tried (tried m))).th.length = _; rw [f9, f5, f1]
  · exact same
theorem rdeed_low {m : RM} {j : Nat} (h : RLow m j) (d t k a : Int) : RLow (rdeed m d t k a).1 (j + 1) ∧ (rdeed m d t k a).1.n = m.n := by
  obtain ⟨h1, h2, h3⟩ := h
  have same : RLow m (j + 1) ∧ m.n = m.n := ⟨⟨by omega, h2, by omega⟩, rfl⟩
  unfold rdeed
  split
  · unfold rinD
    split
    · exact same
    · exact ⟨⟨by show m.its.length ≤ _; omega, h2, by show m.now ≤ _; omega⟩, rfl⟩
  split
  · unfold routD
    split
    · exact same
    · exact ⟨⟨by show m.its.length ≤ _; omega, h2, by show m.now ≤ _; omega⟩, rfl⟩
  split
  · exact same
  split
  · exact same
  split
  · unfold rretireD
    split
    · exact same
    split
    · exact same
    · obtain ⟨f1, f2, f3, f4⟩ := rtried_facts (rlined m a t)
      have e1 : (rlined m a t).its.length = m.its.length + 1 := by simp [rlined]
      have e2 : (rlined m a t).now = m.now := rfl
      have e3 : (rlined m a t).n = m.n := rfl
      refine ⟨⟨?_, ?_, ?_⟩, ?_⟩
      · show (rtried (rlined m a t)).its.length ≤ _; omega
      · show 0 ≤ (rtried (rlined m a t)).now; omega
      · show (rtried (rlined m a t)).now ≤ _; omega
      · show (rtried (rlined m a t)).n = _; rw [f1, e3]
  split
  · unfold rrestD
    obtain ⟨f1, f2, f3, f4⟩ := rrestTo_facts m 3
    refine ⟨⟨?_, ?_, ?_⟩, ?_⟩
    · show (rrestTo m 3).1.its.length ≤ _; omega
    · show 0 ≤ (rrestTo m 3).1.now; omega
    · show (rrestTo m 3).1.now ≤ _; omega
    · exact f1
  · exact same
theorem playTo_low (n : Nat) (ds : List DD) : ∀ k, k ≤ ds.length → Low (playTo (newM n) ds k) k ∧ (playTo (newM n) ds k).th.length = n := by
  intro k
  induction k with
  | zero => intro _; exact ⟨⟨Nat.le_refl _, Int.le_refl _, Int.le_refl _⟩, by simp [playTo, newM]⟩
  | succ k ih =>
    intro hk
    obtain ⟨h1, h2⟩ := ih (by omega)
    rw [playTo_succ _ _ _ (by omega)]
    obtain ⟨g1, g2⟩ := deed_low h1 ds[k]!.d ds[k]!.t ds[k]!.k ds[k]!.a
    exact ⟨g1, g2.trans h2⟩
theorem rplayTo_low (n : Nat) (ds : List DD) : ∀ k, k ≤ ds.length → RLow (rplayTo (rnew n) ds k) k ∧ (rplayTo (rnew n) ds k).n = n := by
  intro k
  induction k with
  | zero => intro _; exact ⟨⟨Nat.le_refl _, Int.le_refl _, Int.le_refl _⟩, rfl⟩
  | succ k ih =>
    intro hk
    obtain ⟨h1, h2⟩ := ih (by omega)
    rw [rplayTo_succ _ _ _ (by omega)]
    obtain ⟨g1, g2⟩ := rdeed_low h1 ds[k]!.d ds[k]!.t ds[k]!.k ds[k]!.a
    exact ⟨g1, g2.trans h2⟩
/-- Neither changes the other one. -/
theorem ref_beside {B : Nat} {w w' : World} {g r : Nat} {tv wv iv : Value} {m : EM} {rm : RM} (hm : Man B w g tv wv m) (hr : Ref B w r iv rm) (hk : Kept w w' (foot g tv wv)) : Ref B w' r iv rm := by
  refine ref_keep hr (fun k hf => hk.2 k (hr.foot_lt k hf).2 (fun hq => ?_))
  have tag : ∃ c t, (t = 69 ∨ t = 3 ∨ t = 78) ∧ w.heap[k]? = some (.cells c t (0, 0)) := by
    rcases hq with rfl | hq | hq
    · exact ⟨_, 69, .inl rfl, hm.top⟩
    · obtain ⟨c, hc⟩ := own_tag hm.tow k hq; exact ⟨c, 3, .inr (.inl rfl), hc⟩
    · obtain ⟨c, hc⟩ := own_tag hm.own k hq; exact ⟨c, 78, .inr (.inr rfl), hc⟩
  obtain ⟨c, t, ht, hc⟩ := tag
  rcases hf with rfl | hf
  · obtain ⟨cur, c1, _⟩ := hr.top
    exact ne_of_tag hc c1 (by rcases ht with rfl | rfl | rfl <;> decide) rfl
  · obtain ⟨c2, hc2⟩ := own_tag hr.own k hf
    exact ne_of_tag hc hc2 (by rcases ht with rfl | rfl | rfl <;> decide) rfl
theorem man_beside {B : Nat} {w w' : World} {g r : Nat} {tv wv iv : Value} {m : EM} {rm : RM} (hm : Man B w g tv wv m) (hr : Ref B w r iv rm) (hk : Kept w w' (rfoot r iv)) : Man B w' g tv wv m := by
  refine man_keep hm (fun k hf => hk.2 k (hm.foot_lt k hf).2 (fun hq => ?_))
  have tag : ∃ c t, (t = 69 ∨ t = 3 ∨ t = 78) ∧ w.heap[k]? = some (.cells c t (0, 0)) := by
    rcases hf with rfl | hf | hf
    · exact ⟨_, 69, .inl rfl, hm.top⟩
    · obtain ⟨c, hc⟩ := own_tag hm.tow k hf; exact ⟨c, 3, .inr (.inl rfl), hc⟩
    · obtain ⟨c, hc⟩ := own_tag hm.own k hf; exact ⟨c, 78, .inr (.inr rfl), hc⟩
  obtain ⟨c, t, ht, hc⟩ := tag
  rcases hq with rfl | hq
  · obtain ⟨cur, c1, _⟩ := hr.top
    exact ne_of_tag hc c1 (by rcases ht with rfl | rfl | rfl <;> decide) rfl
  · obtain ⟨c2, hc2⟩ := own_tag hr.own k hq
    exact ne_of_tag hc hc2 (by rcases ht with rfl | rfl | rfl <;> decide) rfl
end Go.Proofs.Ytcfodmnpmjkpbaa.Ep
