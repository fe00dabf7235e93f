/- That move takes a word from the first stack to the second one, as geta and putb would: the plain law; no condition. -/
import Derived.Test.YtiialjmpfeopjaaXTw1
import Derived.Test.YtiialjmpfeopjaaPwH
namespace Go.Proofs.Ytiialjmpfeopjaa.Pure
open Go.RowKit Go.Proofs.Ytiialjmpfeopjaa.XTw Go.Proofs.YtiialjmpfeopjaaW.PrintWords Go.Proofs.YtiialjmpfeopjaaW.PrintLast
set_option linter.unusedVariables false
set_option linter.unusedSimpArgs false
theorem awake_true : locklesslaw18_awake.f = some true := by
  unfold locklesslaw18_awake.f spec_Run.f
  have h : Sp.runS 2 1 (List.map callT [(⟨⟨#[101, 110, 113]⟩, 5, 0⟩ : S27), ⟨⟨#[101, 110, 113]⟩, 6, 0⟩, ⟨⟨#[100, 101, 113]⟩, 0, 0⟩]) = some ([0, 0, 5], [6], 0) := Sp.awake_run
  rw [if_pos (by decide), h]
  rfl
theorem same_l0 (l : List Int) (hl : l.length ≤ 1000) : ∀ (d k i : Nat), l.length - i ≤ d → d < k → i ≤ l.length → locklesslaw18_same.l0 k l l (i : Int) = some true := by
  intro d
  induction d with
  | zero =>
    intro k i h1 h2 h3
    obtain ⟨k, rfl⟩ : ∃ m, k = m + 1 := ⟨k - 1, by omega⟩
    simp only [locklesslaw18_same.l0]
    rw [if_neg (by omega)]
  | succ d ih =>
    intro k i h1 h2 h3
    obtain ⟨k, rfl⟩ : ∃ m, k = m + 1 := ⟨k - 1, by omega⟩
    simp only [locklesslaw18_same.l0]
    by_cases hi : i < l.length
    · have e3 : wrap64 ((i : Int) + 1) = ((i + 1 : Nat) : Int) := by unfold wrap64; omega
      rw [if_pos (by omega), if_pos (by omega), if_pos (by omega), if_pos trivial, e3]
      exact ih k (i + 1) (by omega) (by omega) (by omega)
    · rw [if_neg (by omega)]
theorem same_refl (l : List Int) (hl : l.length ≤ 25) : locklesslaw18_same.f 30 l l = some true := by
  unfold locklesslaw18_same.f
  rw [if_pos rfl]
  exact same_l0 l (by omega) l.length 30 0 (by omega) (by omega) (by omega)
theorem do_of {s : List Int} {op : ByteArray} {x y t : Int} {q : List Int × Int × Int} (hl : s.length ≤ 25) (h : Sp.doS 15 1 s op x y t = some q) : spec_Do.f 15 1 s op x y t = some q := by
  unfold spec_Do.f
  rw [if_pos (by omega), h]
theorem join_len (a b : List Int) : (Sp.joinL a b).length = (a ++ b).length + 1 := by unfold Sp.joinL; simp
theorem SpecTwins : locklesslaw18_SpecTwins.Pure := by
  intro s _ hs _
  refine ⟨31, ?_⟩
  unfold locklesslaw18_SpecTwins.f
  have hv : spec_Valid.f 15 1 s = some (Sp.validS 15 1 s) := by unfold spec_Valid.f; rw [if_pos (by omega)]
  have hw : locklessref18_Valid.f 15 1 s = some (Sp.validS 15 1 s) := by unfold locklessref18_Valid.f; rw [Sp.valid15]
  rw [awake_true]
  simp only [Option.bind_some, if_true]
  rw [hv]
  simp only [Option.bind_some]
  cases hc : Sp.validS 15 1 s with
  | false =>
    rw [hw, hc]
    rfl
  | true =>
    have ht : Sp.twinB s = true := by
      have : Sp.validS 15 1 s = Sp.twinB s := by unfold Sp.validS; rw [Sp.at15]; rfl
      rw [← this, hc]
    obtain ⟨a, b, rfl, hwd, hlen⟩ := Sp.twin_form ht
    rw [if_pos rfl]
    have hjl := join_len a b
    rcases List.eq_nil_or_concat a with rfl | ⟨a', x, rfl⟩
    · have hm := Sp.move15 hwd hlen (by simpa [Sp.popL] using hwd) (by simpa [Sp.popL] using hlen)
      have hg := Sp.geta15 hwd hlen (by simpa [Sp.popL] using hwd) (by simpa [Sp.popL] using hlen)
      have e1 : Sp.popL ([] : List Int) = [] := rfl
      have e2 : Sp.popR ([] : List Int) = -1 := rfl
      rw [e1, e2, if_pos rfl] at hm
      rw [e1, e2] at hg
      rw [do_of (by omega) hm, do_of (by omega) hg]
      simp only [Option.bind_some]
      rw [if_pos trivial, if_pos trivial]
      simp only [locklesslaw18_SpecTwins.j0]
      rw [if_neg (by decide), if_pos (by decide), same_refl _ (by omega)]
      rfl
    · rw [List.concat_eq_append] at *
      have e1 : Sp.popL (a' ++ [x]) = a' := by unfold Sp.popL; simp
      have e2 : Sp.popR (a' ++ [x]) = x := by unfold Sp.popR; simp
      have hne : ¬ (a' ++ [x] = []) := by simp
      have hx : 0 ≤ x ∧ x ≤ 900 := hwd x (by simp)
      have hl1 : (a' ++ (b ++ [x])).length ≤ 24 := by simp only [List.length_append, List.length_singleton] at hlen ⊢; omega
      have hw1 : Sp.Wd (a' ++ (b ++ [x])) := fun y hy => hwd y (by simp at hy ⊢; rcases hy with h | h | h <;> simp [h])
      have hl2 : (a' ++ b).length ≤ 24 := by simp only [List.length_append, List.length_singleton] at hlen ⊢; omega
      have hw2 : Sp.Wd (a' ++ b) := fun y hy => hwd y (by simp at hy ⊢; rcases hy with h | h <;> simp [h])
      have hm := Sp.move15 hwd hlen (by rw [e1, e2, if_neg hne]; exact hw1) (by rw [e1, e2, if_neg hne]; exact hl1)
      have hg := Sp.geta15 hwd hlen (by rw [e1]; exact hw2) (by rw [e1]; exact hl2)
      rw [e1, e2, if_neg hne] at hm
      rw [e1, e2] at hg
      have hp := Sp.putb15 hx hw2 hl2 hw1 hl1
      have f1 : Sp.popL (b ++ [x]) = b := by unfold Sp.popL; simp
      have f2 : Sp.popR (b ++ [x]) = x := by unfold Sp.popR; simp
      have hq := Sp.getb15 hw1 hl1 (by rw [f1]; exact hw2) (by rw [f1]; exact hl2)
      rw [f1, f2] at hq
      have j1 := join_len a' b
      have j2 := join_len a' (b ++ [x])
      rw [do_of (by omega) hm, do_of (by omega) hg]
      simp only [Option.bind_some]
      rw [if_pos trivial, if_pos trivial]
      simp only [locklesslaw18_SpecTwins.j0]
      rw [if_neg (by simp), if_neg (by omega), do_of (by omega) hp, do_of (by omega) hq]
      simp only [Option.bind_some]
      simp only [if_true]
      rw [same_refl _ (by omega)]
      simp only [Option.bind_some, if_true]
      rw [same_refl _ (by omega)]
      rfl
end Go.Proofs.Ytiialjmpfeopjaa.Pure
