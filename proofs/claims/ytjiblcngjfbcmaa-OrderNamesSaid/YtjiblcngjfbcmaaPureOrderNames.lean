/- The names of the orders, both ways, at every number and every string; no condition. -/
import Derived.Test.YtjiblcngjfbcmaaPOrderNamesx2
import Derived.KernelRfl
namespace Go.Proofs.Ytjiblcngjfbcmaa.Pure
open Go.RowKit Go.Proofs.Ytjiblcngjfbcmaa.POrderNames Go.Proofs.YtjiblcngjfbcmaaW.PrintWords Go.Proofs.YtjiblcngjfbcmaaW.PrintLast

theorem isO_out (x : Int) (h : ¬(0 ≤ x ∧ x < 5)) : order_isOrder.f x = some false := by
  unfold order_isOrder.f
  by_cases h0 : 0 ≤ x
  · rw [if_pos h0]; simp; omega
  · rw [if_neg h0]
theorem isO_in (x : Int) (h : 0 ≤ x ∧ x < 5) : order_isOrder.f x = some true := by
  unfold order_isOrder.f
  rw [if_pos h.1]; simp; omega
theorem Is_out (x : Int) (h : ¬(0 ≤ x ∧ x < 5)) : locklessref02_Is.f x = some false := by
  unfold locklessref02_Is.f
  by_cases h0 : 0 ≤ x
  · rw [if_pos h0]; simp; omega
  · rw [if_neg h0]
theorem Is_in (x : Int) (h : 0 ≤ x ∧ x < 5) : locklessref02_Is.f x = some true := by
  unfold locklessref02_Is.f
  rw [if_pos h.1]; simp; omega
theorem five (x : Int) (h : 0 ≤ x ∧ x < 5) : x = 0 ∨ x = 1 ∨ x = 2 ∨ x = 3 ∨ x = 4 := by omega
theorem nm0 : locklessref02_Name.f 0 = some (⟨#[114, 101, 108, 97, 120, 101, 100]⟩ : ByteArray) := by kernel_rfl
theorem on0 : order_Name.f 0 = some ((⟨#[114, 101, 108, 97, 120, 101, 100]⟩ : ByteArray), 0) := by kernel_rfl
theorem ls0 : (⟨#[114, 101, 108, 97, 120, 101, 100]⟩ : ByteArray).toList = [114, 101, 108, 97, 120, 101, 100] := by kernel_rfl
theorem of0 : order_Of.f 38 (⟨#[114, 101, 108, 97, 120, 101, 100]⟩ : ByteArray) = some (0, 0) := by kernel_rfl
theorem step0 (x0 x6 x7 x8 x9 : Int) (x1 x5 : ByteArray) : locklesslaw02_OrderNames.l0 40 x0 x1 x5 x6 x7 x8 x9 0 = locklesslaw02_OrderNames.l0 38 x0 x1 x5 x6 x7 x8 (if ([114, 101, 108, 97, 120, 101, 100] : List UInt8) = x1.toList then 0 else x9) 1 := by
  rw [locklesslaw02_OrderNames.l0, if_pos (by decide), nm0]
  simp only [Option.bind_some, ls0]
  have w : wrap64 1 = 1 := by unfold wrap64; rfl
  split <;> (rw [locklesslaw02_OrderNames.j1, nm0]; simp only [Option.bind_some]; rw [of0]; simp [w])
theorem ofs0 (s : ByteArray) : order_Of.l0 40 s 0 = if ([114, 101, 108, 97, 120, 101, 100] : List UInt8) = s.toList then some (0, 0) else order_Of.l0 39 s 1 := by
  rw [order_Of.l0, if_pos (by decide), on0]
  simp only [Option.bind_some, ls0]
  have w : wrap64 (0 + 1) = 1 := by unfold wrap64; rfl
  rw [w]
theorem nm1 : locklessref02_Name.f 1 = some (⟨#[97, 99, 113, 117, 105, 114, 101]⟩ : ByteArray) := by kernel_rfl
theorem on1 : order_Name.f 1 = some ((⟨#[97, 99, 113, 117, 105, 114, 101]⟩ : ByteArray), 0) := by kernel_rfl
theorem ls1 : (⟨#[97, 99, 113, 117, 105, 114, 101]⟩ : ByteArray).toList = [97, 99, 113, 117, 105, 114, 101] := by kernel_rfl
theorem of1 : order_Of.f 36 (⟨#[97, 99, 113, 117, 105, 114, 101]⟩ : ByteArray) = some (1, 0) := by kernel_rfl
theorem step1 (x0 x6 x7 x8 x9 : Int) (x1 x5 : ByteArray) : locklesslaw02_OrderNames.l0 38 x0 x1 x5 x6 x7 x8 x9 1 = locklesslaw02_OrderNames.l0 36 x0 x1 x5 x6 x7 x8 (if ([97, 99, 113, 117, 105, 114, 101] : List UInt8) = x1.toList then 1 else x9) 2 := by
  rw [locklesslaw02_OrderNames.l0, if_pos (by decide), nm1]
  simp only [Option.bind_some, ls1]
  have w : wrap64 2 = 2 := by unfold wrap64; rfl
  split <;> (rw [locklesslaw02_OrderNames.j1, nm1]; simp only [Option.bind_some]; rw [of1]; simp [w])
theorem ofs1 (s : ByteArray) : order_Of.l0 39 s 1 = if ([97, 99, 113, 117, 105, 114, 101] : List UInt8) = s.toList then some (1, 0) else order_Of.l0 38 s 2 := by
  rw [order_Of.l0, if_pos (by decide), on1]
  simp only [Option.bind_some, ls1]
  have w : wrap64 (1 + 1) = 2 := by unfold wrap64; rfl
  rw [w]
theorem nm2 : locklessref02_Name.f 2 = some (⟨#[114, 101, 108, 101, 97, 115, 101]⟩ : ByteArray) := by kernel_rfl
theorem on2 : order_Name.f 2 = some ((⟨#[114, 101, 108, 101, 97, 115, 101]⟩ : ByteArray), 0) := by kernel_rfl
theorem ls2 : (⟨#[114, 101, 108, 101, 97, 115, 101]⟩ : ByteArray).toList = [114, 101, 108, 101, 97, 115, 101] := by kernel_rfl
theorem of2 : order_Of.f 34 (⟨#[114, 101, 108, 101, 97, 115, 101]⟩ : ByteArray) = some (2, 0) := by kernel_rfl
theorem step2 (x0 x6 x7 x8 x9 : Int) (x1 x5 : ByteArray) : locklesslaw02_OrderNames.l0 36 x0 x1 x5 x6 x7 x8 x9 2 = locklesslaw02_OrderNames.l0 34 x0 x1 x5 x6 x7 x8 (if ([114, 101, 108, 101, 97, 115, 101] : List UInt8) = x1.toList then 2 else x9) 3 := by
  rw [locklesslaw02_OrderNames.l0, if_pos (by decide), nm2]
  simp only [Option.bind_some, ls2]
  have w : wrap64 3 = 3 := by unfold wrap64; rfl
  split <;> (rw [locklesslaw02_OrderNames.j1, nm2]; simp only [Option.bind_some]; rw [of2]; simp [w])
theorem ofs2 (s : ByteArray) : order_Of.l0 38 s 2 = if ([114, 101, 108, 101, 97, 115, 101] : List UInt8) = s.toList then some (2, 0) else order_Of.l0 37 s 3 := by
  rw [order_Of.l0, if_pos (by decide), on2]
  simp only [Option.bind_some, ls2]
  have w : wrap64 (2 + 1) = 3 := by unfold wrap64; rfl
  rw [w]
theorem nm3 : locklessref02_Name.f 3 = some (⟨#[97, 99, 113, 114, 101, 108]⟩ : ByteArray) := by kernel_rfl
theorem on3 : order_Name.f 3 = some ((⟨#[97, 99, 113, 114, 101, 108]⟩ : ByteArray), 0) := by kernel_rfl
theorem ls3 : (⟨#[97, 99, 113, 114, 101, 108]⟩ : ByteArray).toList = [97, 99, 113, 114, 101, 108] := by kernel_rfl
theorem of3 : order_Of.f 32 (⟨#[97, 99, 113, 114, 101, 108]⟩ : ByteArray) = some (3, 0) := by kernel_rfl
theorem step3 (x0 x6 x7 x8 x9 : Int) (x1 x5 : ByteArray) : locklesslaw02_OrderNames.l0 34 x0 x1 x5 x6 x7 x8 x9 3 = locklesslaw02_OrderNames.l0 32 x0 x1 x5 x6 x7 x8 (if ([97, 99, 113, 114, 101, 108] : List UInt8) = x1.toList then 3 else x9) 4 := by
  rw [locklesslaw02_OrderNames.l0, if_pos (by decide), nm3]
  simp only [Option.bind_some, ls3]
  have w : wrap64 4 = 4 := by unfold wrap64; rfl
  split <;> (rw [locklesslaw02_OrderNames.j1, nm3]; simp only [Option.bind_some]; rw [of3]; simp [w])
theorem ofs3 (s : ByteArray) : order_Of.l0 37 s 3 = if ([97, 99, 113, 114, 101, 108] : List UInt8) = s.toList then some (3, 0) else order_Of.l0 36 s 4 := by
  rw [order_Of.l0, if_pos (by decide), on3]
  simp only [Option.bind_some, ls3]
  have w : wrap64 (3 + 1) = 4 := by unfold wrap64; rfl
  rw [w]
theorem nm4 : locklessref02_Name.f 4 = some (⟨#[115, 116, 114, 111, 110, 103]⟩ : ByteArray) := by kernel_rfl
theorem on4 : order_Name.f 4 = some ((⟨#[115, 116, 114, 111, 110, 103]⟩ : ByteArray), 0) := by kernel_rfl
theorem ls4 : (⟨#[115, 116, 114, 111, 110, 103]⟩ : ByteArray).toList = [115, 116, 114, 111, 110, 103] := by kernel_rfl
theorem of4 : order_Of.f 30 (⟨#[115, 116, 114, 111, 110, 103]⟩ : ByteArray) = some (4, 0) := by kernel_rfl
theorem step4 (x0 x6 x7 x8 x9 : Int) (x1 x5 : ByteArray) : locklesslaw02_OrderNames.l0 32 x0 x1 x5 x6 x7 x8 x9 4 = locklesslaw02_OrderNames.l0 30 x0 x1 x5 x6 x7 x8 (if ([115, 116, 114, 111, 110, 103] : List UInt8) = x1.toList then 4 else x9) 5 := by
  rw [locklesslaw02_OrderNames.l0, if_pos (by decide), nm4]
  simp only [Option.bind_some, ls4]
  have w : wrap64 5 = 5 := by unfold wrap64; rfl
  split <;> (rw [locklesslaw02_OrderNames.j1, nm4]; simp only [Option.bind_some]; rw [of4]; simp [w])
theorem ofs4 (s : ByteArray) : order_Of.l0 36 s 4 = if ([115, 116, 114, 111, 110, 103] : List UInt8) = s.toList then some (4, 0) else order_Of.l0 35 s 5 := by
  rw [order_Of.l0, if_pos (by decide), on4]
  simp only [Option.bind_some, ls4]
  have w : wrap64 (4 + 1) = 5 := by unfold wrap64; rfl
  rw [w]
theorem last (x0 x6 x7 x8 x9 : Int) (x1 x5 : ByteArray) (h : (0 ≤ x9 ∧ x7 = x9 ∧ x8 = 0) ∨ (x9 < 0 ∧ x7 = 0 ∧ x8 = 5)) : locklesslaw02_OrderNames.l0 30 x0 x1 x5 x6 x7 x8 x9 5 = locklesslaw02_OrderNames.j2 29 x0 x5 x6 false := by
  rw [locklesslaw02_OrderNames.l0, if_neg (by decide)]
  rcases h with ⟨h, rfl, rfl⟩ | ⟨h, rfl, rfl⟩
  · rw [if_pos h, if_pos rfl, if_pos rfl, if_neg (by omega)]
  · rw [if_neg (by omega), if_pos h, if_pos rfl]
    rfl
theorem endj (x0 : Int) (x5 : ByteArray) (x6 : Int) (h : order_Name.f x0 = some (x5, x6)) : locklesslaw02_OrderNames.j2 29 x0 x5 x6 false = some true := by
  rw [locklesslaw02_OrderNames.j2]
  by_cases hx : 0 ≤ x0 ∧ x0 < 5
  · rw [Is_in x0 hx]
    rcases five x0 hx with rfl | rfl | rfl | rfl | rfl
    · rw [on0] at h
      obtain ⟨rfl, rfl⟩ := Prod.mk.inj (Option.some.inj h)
      simp [nm0]
    · rw [on1] at h
      obtain ⟨rfl, rfl⟩ := Prod.mk.inj (Option.some.inj h)
      simp [nm1]
    · rw [on2] at h
      obtain ⟨rfl, rfl⟩ := Prod.mk.inj (Option.some.inj h)
      simp [nm2]
    · rw [on3] at h
      obtain ⟨rfl, rfl⟩ := Prod.mk.inj (Option.some.inj h)
      simp [nm3]
    · rw [on4] at h
      obtain ⟨rfl, rfl⟩ := Prod.mk.inj (Option.some.inj h)
      simp [nm4]
  · rw [Is_out x0 hx]
    unfold order_Name.f at h
    rw [if_neg (by omega), if_neg (by omega), if_neg (by omega), if_neg (by omega), if_neg (by omega)] at h
    obtain ⟨rfl, rfl⟩ := Prod.mk.inj (Option.some.inj h)
    have e : (⟨#[]⟩ : ByteArray).toList = [] := by kernel_rfl
    simp [e]
theorem name_some (x0 : Int) : ∃ x5 x6, order_Name.f x0 = some (x5, x6) := by
  unfold order_Name.f
  repeat' split
  all_goals exact ⟨_, _, rfl⟩
set_option maxRecDepth 100000 in
theorem OrderNames : locklesslaw02_OrderNames.Pure := by
  intro a0 a1 _ _
  refine ⟨40, ?_⟩
  unfold locklesslaw02_OrderNames.f
  have hw : locklesslaw02_awake.f 40 = some true := by kernel_rfl
  obtain ⟨x5, x6, hn⟩ := name_some a0
  have he : ∀ x7 x8 x9, ((0 ≤ x9 ∧ x7 = x9 ∧ x8 = 0) ∨ (x9 < 0 ∧ x7 = 0 ∧ x8 = 5)) → locklesslaw02_OrderNames.l0 30 a0 a1 x5 x6 x7 x8 x9 5 = some true := fun x7 x8 x9 h => by
    rw [last _ _ _ _ _ _ _ h, endj a0 x5 x6 hn]
  rw [hw, hn]
  simp only [Option.bind_some, if_true, order_Of.f]
  rw [ofs0, ofs1, ofs2, ofs3, ofs4]
  have o5 : order_Of.l0 35 a1 5 = some (0, 5) := by rw [order_Of.l0, if_neg (by decide)]
  rw [o5]
  by_cases h0 : ([114, 101, 108, 97, 120, 101, 100] : List UInt8) = a1.toList
  · rw [if_pos h0]
    simp only [Option.bind_some]
    rw [step0, step1, step2, step3, step4]
    rw [← h0]
    exact he _ _ _ (.inl ⟨by decide, by decide, rfl⟩)
  · rw [if_neg h0]
    by_cases h1 : ([97, 99, 113, 117, 105, 114, 101] : List UInt8) = a1.toList
    · rw [if_pos h1]
      simp only [Option.bind_some]
      rw [step0, step1, step2, step3, step4]
      rw [← h1]
      exact he _ _ _ (.inl ⟨by decide, by decide, rfl⟩)
    · rw [if_neg h1]
      by_cases h2 : ([114, 101, 108, 101, 97, 115, 101] : List UInt8) = a1.toList
      · rw [if_pos h2]
        simp only [Option.bind_some]
        rw [step0, step1, step2, step3, step4]
        rw [← h2]
        exact he _ _ _ (.inl ⟨by decide, by decide, rfl⟩)
      · rw [if_neg h2]
        by_cases h3 : ([97, 99, 113, 114, 101, 108] : List UInt8) = a1.toList
        · rw [if_pos h3]
          simp only [Option.bind_some]
          rw [step0, step1, step2, step3, step4]
          rw [← h3]
          exact he _ _ _ (.inl ⟨by decide, by decide, rfl⟩)
        · rw [if_neg h3]
          by_cases h4 : ([115, 116, 114, 111, 110, 103] : List UInt8) = a1.toList
          · rw [if_pos h4]
            simp only [Option.bind_some]
            rw [step0, step1, step2, step3, step4]
            rw [← h4]
            exact he _ _ _ (.inl ⟨by decide, by decide, rfl⟩)
          · rw [if_neg h4]
            simp only [Option.bind_some]
            rw [step0, step1, step2, step3, step4]
            rw [if_neg h0, if_neg h1, if_neg h2, if_neg h3, if_neg h4]
            exact he _ _ _ (.inr ⟨by decide, rfl, rfl⟩)

end Go.Proofs.Ytjiblcngjfbcmaa.Pure
