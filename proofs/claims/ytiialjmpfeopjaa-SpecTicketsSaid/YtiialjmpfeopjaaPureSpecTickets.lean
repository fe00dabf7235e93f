/- That each ticket is given once, and that none is too far ahead of how many were given: the plain law; no condition. -/
import Derived.Test.YtiialjmpfeopjaaXTi1
import Derived.Test.YtiialjmpfeopjaaPwG
namespace Go.Proofs.Ytiialjmpfeopjaa.Pure
open Go.RowKit Go.Proofs.Ytiialjmpfeopjaa.XTi Go.Proofs.YtiialjmpfeopjaaW.PrintWords Go.Proofs.YtiialjmpfeopjaaW.PrintLast
set_option linter.unusedVariables false
set_option linter.unusedSimpArgs false
set_option maxHeartbeats 1000000
theorem awake_true : locklesslaw18_awake.f = some true := by
  unfold locklesslaw18_awake.f spec_Run.f
  have h : Sp.runS 2 1 (List.map callT [(⟨⟨#[101, 110, 113]⟩, 5, 0⟩ : S27), ⟨⟨#[101, 110, 113]⟩, 6, 0⟩, ⟨⟨#[100, 101, 113]⟩, 0, 0⟩]) = some ([0, 0, 5], [6], 0) := Sp.awake_run
  rw [if_pos ⟨by decide, by decide⟩, h]
  rfl
theorem next_of {s : List Int} {x t res : Int} {q : List Int × Bool × Int} (hl : s.length ≤ 24) (h : Sp.nextS 9 1 s ⟨#[110, 101, 120, 116]⟩ x 0 t res = some q) : spec_Next.f 9 1 s ⟨#[110, 101, 120, 116]⟩ x 0 t res = some q := by
  unfold spec_Next.f
  rw [if_pos ⟨by decide, by omega⟩, h]
theorem results_of {s : List Int} {x t : Int} {q : List Int × Int} (hl : s.length ≤ 24) (h : Sp.resultsS 9 1 s ⟨#[110, 101, 120, 116]⟩ x 0 t = some q) : spec_Results.f 9 1 s ⟨#[110, 101, 120, 116]⟩ x 0 t = some q := by
  unfold spec_Results.f
  rw [if_pos ⟨by decide, by omega⟩, h]
theorem tk_rd {s : List Int} (h : Sp.TkI s) (j : Nat) (hj : j < 13) : ∃ e ∈ Sp.ticketL s (s.length + 13), e.1 = rd ((Sp.ticketL s (s.length + 13)).map (·.1)) (j : Int) ∧ 0 ≤ e.1 ∧ e.1 < (s.length : Int) + 13 ∧ e.1 ∉ s := by
  have hl := Sp.ticket_len h
  have hj2 : j < (Sp.ticketL s (s.length + 13)).length := by rw [hl]; exact hj
  have hm := Sp.ticket_mem (List.getElem_mem hj2)
  refine ⟨_, List.getElem_mem hj2, ?_, hm.1, by have := hm.2.1; push_cast at this; omega, hm.2.2.1⟩
  unfold rd
  rw [Int.toNat_natCast, List.getD_eq_getElem?_getD, List.getElem?_map, List.getElem?_eq_getElem hj2]
  rfl
theorem wrap_add (n c : Nat) (h : n ≤ 1000) (hc : c ≤ 100) : wrap64 ((n : Int) + (c : Int)) = ((n + c : Nat) : Int) := by unfold wrap64; omega
theorem ti_j2 (x0 s s2 L : List Int) (i x m : Int) (k : Nat) (h0 : 0 ≤ i) (h1 : i < (x0.length : Int)) (hm : wrap64 (Int.tmod (IntKind.u64.wrap (rd x0 i)) 13) = m) (hm0 : 0 ≤ m) (hm1 : m < (L.length : Int))
    (hnx : spec_Next.f 9 1 s ⟨#[110, 101, 120, 116]⟩ x 0 (Go.bits .and .i64 i 3) (rd L m) = some (s2, true, 0)) (hag : spec_Next.f 9 1 s2 ⟨#[110, 101, 120, 116]⟩ x 0 0 (rd L m) = some ([], false, 0))
    (hl : (s2.length : Int) = wrap64 ((s.length : Int) + 1)) (hrec : locklesslaw18_SpecTickets.l0 k x0 s2 0 (wrap64 (i + 1)) = some true) :
    locklesslaw18_SpecTickets.j2 (k + 1) x0 s 0 i L false ⟨#[110, 101, 120, 116]⟩ x 0 = some true := by
  simp only [locklesslaw18_SpecTickets.j2]
  rw [if_neg (by decide), if_pos h0, if_pos h1, hm, if_pos hm0, if_pos hm1, hnx, Option.bind_some, hag, Option.bind_some, if_pos rfl, if_pos rfl, if_neg (by decide), if_pos rfl, if_pos hl]
  exact hrec
theorem ti_j1 (x0 s L : List Int) (i x : Int) (k : Nat) (h0 : 0 ≤ i) (h1 : i < (x0.length : Int)) (hx : wrap64 (Int.tmod (IntKind.u64.wrap (rd x0 i)) 901) = x)
    (hres : spec_Results.f 9 1 s ⟨#[110, 101, 120, 116]⟩ x 0 (Go.bits .and .i64 i 3) = some (L, 0)) (hll : (L.length : Int) = 13) (h12 : ¬ rd L 12 > wrap64 ((s.length : Int) + 12)) (hr0 : 0 ≤ rd L 0)
    (hj2 : locklesslaw18_SpecTickets.j2 k x0 s 0 i L false ⟨#[110, 101, 120, 116]⟩ x 0 = some true) : locklesslaw18_SpecTickets.j1 (k + 1) x0 s 0 i true = some true := by
  have hq : decide (rd L 0 < 0) = false := decide_eq_false (by omega)
  simp only [locklesslaw18_SpecTickets.j1]
  rw [if_pos trivial, if_pos h0, if_pos h1, hx, hres, Option.bind_some, if_pos rfl, hll, if_pos rfl, if_pos (by decide), if_neg h12, if_pos (by decide), hq]
  exact hj2
theorem le12 {a b : Int} (h : a < b + 13) : a ≤ b + 12 := by omega
/-- One round's facts, the numbers told apart from what they are made of. -/
theorem ti_facts {s : List Int} (hT : Sp.TkI s) (hl : s.length + 1 ≤ 24) (x t m : Int) (hx : 0 ≤ x ∧ x < 901) (ht : 0 ≤ t ∧ t < 4) (hm : 0 ≤ m ∧ m < 13) :
    ∃ L s2 : List Int, spec_Results.f 9 1 s ⟨#[110, 101, 120, 116]⟩ x 0 t = some (L, 0) ∧ L.length = 13 ∧ rd L 12 ≤ (s.length : Int) + 12 ∧ 0 ≤ rd L 0 ∧ spec_Next.f 9 1 s ⟨#[110, 101, 120, 116]⟩ x 0 t (rd L m) = some (s2, true, 0) ∧ spec_Next.f 9 1 s2 ⟨#[110, 101, 120, 116]⟩ x 0 0 (rd L m) = some ([], false, 0) ∧ s2.length = s.length + 1 ∧ Sp.TkI s2 := by
  obtain ⟨m', hmm⟩ := Int.eq_ofNat_of_zero_le hm.1
  have hm' : m' < 13 := by omega
  have hx' : 0 ≤ x ∧ x ≤ 900 := by omega
  have hl' : s.length ≤ 24 := by omega
  obtain ⟨e0, _, r0, p0, _, _⟩ := tk_rd hT 0 (by decide)
  obtain ⟨e12, _, r12, _, p12, _⟩ := tk_rd hT 12 (by decide)
  obtain ⟨em, hem, rm, pm0, pm1, pm2⟩ := tk_rd hT m' hm'
  rw [← hmm] at rm
  have hT2 := Sp.tk_ins hT pm2 pm0 pm1
  have hl2 : (Sp.insL s em.1).length ≤ 24 := by rw [Sp.insL_len]; exact hl
  refine ⟨_, Sp.insL s em.1, results_of hl' (Sp.results9 hT hl' x t hx' ht), by rw [List.length_map, Sp.ticket_len hT], ?_, ?_, ?_, ?_, Sp.insL_len _ _, hT2⟩
  · rw [show rd ((Sp.ticketL s (s.length + 13)).map (·.1)) 12 = e12.1 from r12.symm]; exact le12 p12
  · rw [show rd ((Sp.ticketL s (s.length + 13)).map (·.1)) 0 = e0.1 from r0.symm]; exact p0
  · rw [← rm]; exact next_of hl' (Sp.next9 hT hl x t em.1 hx' ht ⟨em, hem, rfl⟩)
  · rw [← rm]; exact next_of hl2 (Sp.again9 hT2 hl2 x em.1 hx' (Sp.insL_mem.2 (.inl rfl)))
theorem ti_l0 (x0 : List Int) : ∀ (d : Nat) (i : Nat) (s : List Int), 20 - i ≤ d → s.length = i → i ≤ 20 → Sp.TkI s → ∀ k, 4 * d + 3 ≤ k → locklesslaw18_SpecTickets.l0 k x0 s 0 (i : Int) = some true := by
  intro d
  induction d with
  | zero =>
    intro i s h hs hi hT k hk
    obtain ⟨k, rfl⟩ : ∃ m, k = m + 2 := ⟨k - 2, by omega⟩
    simp only [locklesslaw18_SpecTickets.l0, locklesslaw18_SpecTickets.j1]
    rw [if_neg (show ¬ ((i : Int) < 20) by omega), ite_self]
    rfl
  | succ d ih =>
    intro i s h hs hi hT k hk
    obtain ⟨k, rfl⟩ : ∃ m, k = m + 3 := ⟨k - 3, by omega⟩
    by_cases h1 : (i : Int) < (x0.length : Int)
    · by_cases h2 : (i : Int) < 20
      · have h0 : 0 ≤ (i : Int) := by omega
        have hl24 : s.length + 1 ≤ 24 := by omega
        have ht : 0 ≤ (i : Int) % 4 ∧ (i : Int) % 4 < 4 := by omega
        have e1 : wrap64 ((i : Int) + 1) = ((i + 1 : Nat) : Int) := wrap_add i 1 (by omega) (by decide)
        have e2 : wrap64 ((s.length : Int) + 12) = (s.length : Int) + 12 := wrap_add s.length 12 (by omega) (by decide)
        have e3 : wrap64 ((s.length : Int) + 1) = (s.length : Int) + 1 := wrap_add s.length 1 (by omega) (by decide)
        have g1 : 20 - (i + 1) ≤ d := by omega
        have g2 : i + 1 ≤ 20 := by omega
        have g3 : 4 * d + 3 ≤ k := by omega
        have hx := Sp.word_mod (rd x0 (i : Int)) 901 (by decide) (by decide)
        have hm := Sp.word_mod (rd x0 (i : Int)) 13 (by decide) (by decide)
        obtain ⟨L, s2, hres, hll, h12, hr0, hnx, hag, hs2, hT2⟩ := ti_facts hT hl24 _ _ _ hx ht hm
        rw [← Sp.i64_and3 (i : Int)] at hres hnx
        have hrec := ih (i + 1) s2 g1 (hs2.trans (by rw [hs])) g2 hT2 k g3
        rw [← e1] at hrec
        have hj2 := ti_j2 x0 s s2 L (i : Int) _ _ k h0 h1 rfl hm.1 (by rw [hll]; exact hm.2) hnx hag (by rw [hs2, e3]; rfl) hrec
        have hj1 := ti_j1 x0 s L (i : Int) _ (k + 1) h0 h1 rfl hres (by rw [hll]; rfl) (by rw [e2]; exact Int.not_lt.2 h12) hr0 hj2
        simp only [locklesslaw18_SpecTickets.l0]
        rw [if_pos h1, if_pos h2]
        exact hj1
      · simp only [locklesslaw18_SpecTickets.l0, locklesslaw18_SpecTickets.j1]
        rw [if_pos h1, if_neg h2]
        rfl
    · simp only [locklesslaw18_SpecTickets.l0, locklesslaw18_SpecTickets.j1]
      rw [if_neg h1]
      rfl
theorem SpecTickets : locklesslaw18_SpecTickets.Pure := by
  intro l0 _ _ _
  refine ⟨100, ?_⟩
  unfold locklesslaw18_SpecTickets.f spec_Start.f
  rw [awake_true, Option.bind_some, if_pos rfl, if_neg (by decide), Sp.start9, Option.bind_some]
  exact ti_l0 l0 20 0 [] (by omega) rfl (by omega) ⟨List.Pairwise.nil, by simp⟩ 100 (by omega)
end Go.Proofs.Ytiialjmpfeopjaa.Pure
