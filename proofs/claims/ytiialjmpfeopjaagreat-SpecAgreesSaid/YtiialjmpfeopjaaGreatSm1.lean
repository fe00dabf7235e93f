/- The rules of the specification, walked: rows of whole numbers, tests, acts: plain lemmas; no condition. -/
import Derived.Test.YtiialjmpfeopjaaGreatProg
import Derived.Test.YtiialjmpfeopjaaGreatWWords
import Derived.Test.YtiialjmpfeopjaaGreatWKept
import Derived.Test.YtiialjmpfeopjaaGreatWMore
import Derived.Test.YtiialjmpfeopjaaGreatWLast
import Derived.Test.YtiialjmpfeopjaaGreatShelf
import Derived.Shelf.Abstract
import Derived.KernelRfl
import Derived.Lib.Builder
import Derived.Laws.MakeOwn
import Derived.Laws.EntriesVeiled
import Derived.Lib.SliceRun
import Derived.Sort.OwnSortedInts
import Derived.Deep.QuietTactic
import Derived.Deep.RegionWith
import Derived.Deep.RegionLaw
import Derived.BigQuiet
import Derived.Test.YtiialjmpfeopjaaGreatWRepsOne
namespace Go.Proofs.YtiialjmpfeopjaaGreat.Sp
open Go.RowKit Go.Sort Go.Proofs.YtiialjmpfeopjaaGreatW.PrintWords Go.Proofs.YtiialjmpfeopjaaGreatW.PrintLast Go.Proofs.YtiialjmpfeopjaaGreatW.PrintMore
set_option linter.unusedVariables false
set_option linter.unusedSimpArgs false
set_option maxHeartbeats 8000000
set_option maxRecDepth 100000
/-- A list that the call owns: its row lies in a block from base on. -/
def Own (w : World) (base : Nat) (v : Value) (s : List Int) : Prop := w.ownsRow base 3 1 v s.length (nums .i64 s)
theorem Own.R {w : World} {base : Nat} {v : Value} {s : List Int} (h : Own w base v s) : Kd.R (Kd.int .i64) 3 w base (fun _ => True) v s := Kd.R_of_own h (fun _ _ => trivial)
theorem Own.of_R {w : World} {base : Nat} {v : Value} {s : List Int} {ok : Nat → Prop} (h : Kd.R (Kd.int .i64) 3 w base ok v s) : Own w base v s := Kd.own_of_R h
theorem own_none (w : World) (base : Nat) : Own w base (.slice none 0 0) [] := own_nil _ _ _ _
theorem Own.slice {w : World} {base : Nat} {v : Value} {s : List Int} (h : Own w base v s) : ∃ A c, v = .slice A s.length c := Kd.R_slice h.R
theorem Own.parts {w : World} {base : Nat} {v : Value} {s : List Int} (h : Own w base v s) : (v = .slice none 0 0 ∧ s = []) ∨ ∃ b cap cur, v = .slice (some ⟨b, 0, none⟩) s.length cap ∧ base ≤ b ∧ w.heap[b]? = some (.cells cur 3 (0, 0)) ∧ s.length ≤ cap ∧ cap ≤ maxLen ∧ cur.size = cap ∧ cur.toList.take s.length = nums .i64 s := by
  obtain ⟨h1, ⟨e, hz⟩ | ⟨b, cap, cur, e, h3, h4, h5, h6, h7, h8⟩⟩ := h
  · exact .inl ⟨e, List.eq_nil_of_length_eq_zero hz⟩
  · exact .inr ⟨b, cap, cur, e, h3, h4, h5, h6, by simpa using h7, by simpa using h8⟩
theorem Own.make {w : World} {base b cap : Nat} {cur : Array Value} {s : List Int} (h1 : base ≤ b) (h2 : w.heap[b]? = some (.cells cur 3 (0, 0))) (h3 : s.length ≤ cap) (h4 : cap ≤ maxLen) (h5 : cur.size = cap) (h6 : cur.toList.take s.length = nums .i64 s) : Own w base (.slice (some ⟨b, 0, none⟩) s.length cap) s :=
  ⟨by simp [nums_length], .inr ⟨b, cap, cur, rfl, h1, h2, h3, h4, by simpa using h5, by simpa using h6⟩⟩
theorem Own.below {w w1 : World} {base : Nat} {v : Value} {s : List Int} (h : Own w base v s) (hb : Below w.heap.size w w1) : Own w1 base v s := .of_R (Kd.R_below h.R hb)
theorem Own.lower {w : World} {base base' : Nat} {v : Value} {s : List Int} (h : Own w base v s) (hb : base' ≤ base) : Own w base' v s := .of_R (Kd.R_lower h.R hb)
theorem Own.lt {w : World} {base : Nat} {v : Value} {s : List Int} (h : Own w base v s) (k : Nat) (hk : v.ownBlock = some k) : k < w.heap.size := own_lt h k hk
theorem Own.base_le {w : World} {base : Nat} {v : Value} {s : List Int} (h : Own w base v s) (k : Nat) (hk : v.ownBlock = some k) : base ≤ k := own_base h k hk
theorem Own.max {w : World} {base : Nat} {v : Value} {s : List Int} (h : Own w base v s) : s.length ≤ maxLen := by
  rcases h.parts with ⟨_, e⟩ | ⟨b, cap, cur, _, _, _, h5, h6, _⟩
  · rw [e]; exact Nat.zero_le _
  · exact Nat.le_trans h5 h6
/-- A list that is read. -/
abbrev Rd (w : World) (A : Option Addr) (s : List Int) : Prop := Kd.C (Kd.int .i64) w A s.length s
theorem Own.rd {w : World} {base : Nat} {A : Option Addr} {n c : Nat} {s : List Int} (h : Own w base (.slice A n c) s) : Rd w A s := (Kd.R_reads' h.R).2.2
theorem Own.len {w : World} {base : Nat} {A : Option Addr} {n c : Nat} {s : List Int} (h : Own w base (.slice A n c) s) : n = s.length := (Kd.R_reads' h.R).1
theorem Rd.at {w : World} {A : Option Addr} {s : List Int} (h : Rd w A s) (j : Nat) (hj : j < s.length) : ∃ ad, A = some ad ∧ w.cell? (ad.add j) = some (.int .i64 (s.getD j 0)) := by
  obtain ⟨ad, e, hc⟩ := Kd.at_int h (j : Int) (by omega) (by omega)
  exact ⟨ad, e, by simpa [rd] using hc⟩
theorem Rd.below {w w1 : World} {A : Option Addr} {s : List Int} (h : Rd w A s) (hb : Below w.heap.size w w1) : Rd w1 A s := Kd.C_below h hb
theorem Rd.nil {w : World} {s : List Int} (h : Rd w none s) : s = [] := by
  by_cases hz : s.length = 0
  · exact List.eq_nil_of_length_eq_zero hz
  · obtain ⟨ad, e, _⟩ := h.at 0 (by omega)
    exact absurd e (by simp)
theorem Rd.max {w : World} {A : Option Addr} {s : List Int} (h : Rd w A s) : s.length ≤ 9223372036854775807 := h.2.1
theorem info_int : (Tryz.prog.info? 3).map (fun i => (i.zero, i.size, i.bytes)) = some (some (.int .i64 0), 1, 8) := by kernel_rfl
theorem alloc_size (w : World) (o : Obj) : (w.alloc o).heap.size = w.heap.size + 1 := by show (w.heap.push o).size = _; simp
theorem alloc_old (W : World) (o : Obj) (k : Nat) (h : k < W.heap.size) : (W.alloc o).heap[k]? = W.heap[k]? := Below.heap_alloc W o k h
theorem btrans {w W W' : World} (h : Below w.heap.size w W) (k : Below W.heap.size W W') : Below w.heap.size w W' := h.trans (k.mono h.size)
/-- slices.Clone -/
theorem clone_callsL (A : Option Addr) (c : Nat) (s : List Int) (w : World) (hr : Rd w A s) (hl : s.length ≤ 17592186044416) :
    Calls Tryz.prog 40 #[.slice A s.length c] w fun e w' => ∃ v, e = .returned v ∧ Own w' w.heap.size v s ∧ Below w.heap.size w w' := by
  cases A with
  | none =>
    obtain rfl := hr.nil
    refine (Tryz.slices_Clone_int_nil 0 c w).mono ?_
    rintro e w' ⟨rfl, rfl⟩
    exact ⟨_, rfl, own_none _ _, Below.refl _ _⟩
  | some ad =>
    have hq := fun w => Go.Lib.run_eql_slice_nil (P := Tryz.prog) w 22 3 (some ad) s.length c 0 0 Tryz.underlying22
    simp only [Option.isNone_some] at hq
    have ho : Own (w.alloc (.cells #[] 3 (0, 0))) w.heap.size (.slice (some ⟨w.heap.size, 0, none⟩) 0 0) [] := own_lit w w.heap.size 3 .i64 [] (Nat.le_refl _) (by decide)
    have HR := Aside0.mk (hr.below ((Below.refl w.heap.size w).alloc (Nat.le_refl _) (.cells #[] 3 (0, 0))))
    have HO := Aside0.mk ho.R
    have HB0 := Aside0.mk ((Below.refl w.heap.size w).alloc (Nat.le_refl _) (.cells #[] 3 (0, 0)))
    clear hr ho
    go_enter Tryz.func40, Tryz.ntmps40
    go_wp2_with ((with_reducible refine gate_builtin (b := .append) (xs := #[.tmp 5, .tmp 6]) rfl ?_); at_builtin; refine Kd.R_append_rows (Kd.int .i64) (w0 := w) w.heap.size rfl (.tmp 5) (.tmp 6) 22 3 (.int .i64 0) 8 rfl Tryz.underlying22 info_int rfl (by decide) (by omega) (.slice (some ⟨w.heap.size, 0, none⟩) 0 0) [] s _ _ _ (fun _ => True) (fun _ => False) rfl rfl HO.out HR.out (fun _ _ h => h) (fun _ h => h.elim) (fun _ _ => trivial) HB0.out HB0.out.size (by simp; omega) ?_; intro v1 wn ho hb hg hat; have HN := Aside0.mk ho; have HB := Aside0.mk hb; clear ho hb hg hat)
    go_ret
    exact ⟨_, rfl, .of_R HN.out, HB.out⟩
theorem clone_calls (A : Option Addr) (c : Nat) (s : List Int) (w : World) (hr : Rd w A s) (hl : s.length ≤ 1000000) :
    Calls Tryz.prog 40 #[.slice A s.length c] w fun e w' => ∃ v, e = .returned v ∧ Own w' w.heap.size v s ∧ Below w.heap.size w w' := clone_callsL A c s w hr (Nat.le_trans hl (by decide))
theorem row_cell {w : World} {b : Nat} {cur : Array Value} {s : List Int} (h2 : w.heap[b]? = some (.cells cur 3 (0, 0))) (h6 : cur.toList.take s.length = nums .i64 s) (j : Nat) (hj : j < s.length) : w.cell? ⟨b, j, none⟩ = some (.int .i64 (s.getD j 0)) := by
  rw [Go.Lib.cell_of_heap h2]
  have h : (nums .i64 s)[j]? = some (.int .i64 (s.getD j 0)) := by simp [nums, hj]
  rw [← h6, List.getElem?_take_of_lt hj] at h
  simpa using h
theorem row_holds {w : World} {b : Nat} {cur : Array Value} {s : List Int} (h2 : w.heap[b]? = some (.cells cur 3 (0, 0))) (h6 : cur.toList.take s.length = nums .i64 s) : Holds (Value.int .i64) w b 0 s.toArray := by
  intro j hj
  have hj2 : j < s.length := by simpa using hj
  rw [Nat.zero_add]
  refine ⟨?_, blk_frozen h2 j⟩
  rw [row_cell h2 h6 j hj2]
  simp [hj2]
/-- A part of one's own row, from its head. -/
theorem own_cut {w : World} {base b cap : Nat} {n : Nat} {s : List Int} (h : Own w base (.slice (some ⟨b, 0, none⟩) n cap) s) (m : Nat) (hm : m ≤ s.length) : Own w base (.slice (some ⟨b, 0, none⟩) m cap) (s.take m) := by
  rcases h.parts with ⟨e, _⟩ | ⟨b', cap', cur, e, h1, h2, h3, h4, h5, h6⟩
  · exact absurd e (by simp)
  · injection e with e1 e2 e3
    injection e1 with e1
    injection e1 with e1
    subst e1 e3
    have hl : (s.take m).length = m := by simp; omega
    have := Own.make (s := s.take m) h1 h2 (by omega) h4 h5 (by rw [hl, show (nums .i64 (s.take m)) = (nums .i64 s).take m from by simp [nums, List.map_take], ← h6, List.take_take, Nat.min_eq_left (by omega)])
    rwa [hl] at this
theorem below_put {w : World} {base b q : Nat} (hb : base ≤ b) (d : Array Int) : Below base w (putRow (Value.int .i64) (Sort.ahead w q) b 0 d) := by
  refine ⟨rfl, rfl, rfl, by simp [Sort.ahead], fun k hk => ?_⟩
  have : b ≠ k := by omega
  simp [putRow, mapBlock, Sort.ahead, Array.getElem?_modify, this]
theorem own_put {w : World} {base b cap q : Nat} {cur : Array Value} {s ts : List Int} (h1 : base ≤ b) (h2 : w.heap[b]? = some (.cells cur 3 (0, 0))) (h3 : s.length ≤ cap) (h4 : cap ≤ maxLen) (h5 : cur.size = cap) (hl : ts.length = s.length) :
    Own (putRow (Value.int .i64) (Sort.ahead w q) b 0 ts.toArray) base (.slice (some ⟨b, 0, none⟩) s.length cap) ts := by
  have h := ownsRow_sortedI (n := q) (os := #[]) hl h1 h2 h3 h4 (by simpa using h5)
  rw [grow_empty] at h
  unfold Own
  rw [hl]
  exact h
/-- slices.Delete of one element -/
theorem delete_calls (v : Value) (base : Nat) (s : List Int) (i : Nat) (w : World) (h : Own w base v s) (hi : i < s.length) :
    Calls Tryz.prog 80 #[v, .int .i64 i, .int .i64 (i + 1 : Nat)] w fun e w' => ∃ v', e = .returned v' ∧ Own w' base v' (s.eraseIdx i) ∧ Below base w w' := by
  rcases h.parts with ⟨_, e⟩ | ⟨b, cap, cur, rfl, h1, h2, h3, h4, h5, h6⟩
  · rw [e] at hi; exact absurd hi (by simp)
  · refine (Tryz.slices_Delete_int b 0 cap i (i + 1) s w (row_holds h2 h6) h3 h4 (by omega) (by omega)).mono ?_
    rintro e w' ⟨rfl, q, rfl⟩
    have hl : (s.take i ++ s.drop (i + 1) ++ List.replicate (i + 1 - i) (0 : Int)).length = s.length := by simp; omega
    have ho := own_put (q := q) h1 h2 h3 h4 h5 hl
    have hc := own_cut ho (s.length - (i + 1 - i)) (by omega)
    have he : (s.take i ++ s.drop (i + 1) ++ List.replicate (i + 1 - i) (0 : Int)).take (s.length - (i + 1 - i)) = s.eraseIdx i := by
      rw [List.take_append_of_le_length (by simp; omega), List.take_of_length_le (by simp; omega), List.eraseIdx_eq_take_drop_succ]
    rw [he] at hc
    exact ⟨_, rfl, hc, below_put h1 _⟩
/-- slices.BinarySearch of an ascending list -/
theorem search_calls (v : Value) (base : Nat) (s : List Int) (x : Int) (w : World) (h : Own w base v s) (hs : s.Pairwise (· ≤ ·)) (hl : s.length ≤ 1000000) :
    Calls Tryz.prog 82 #[v, .int .i64 x] w fun e w' => e = .returned (.tuple #[.int .i64 (s.countP (· < x) : Nat), .bool (s.contains x)]) ∧ ∃ q, w' = w.drewN q := by
  rcases h.parts with ⟨rfl, rfl⟩ | ⟨b, cap, cur, rfl, h1, h2, h3, h4, h5, h6⟩
  · refine (Tryz.slices_BinarySearch_int_empty none 0 x w).mono ?_
    rintro e w' ⟨rfl, rfl⟩
    exact ⟨rfl, 0, rfl⟩
  · have := Tryz.slices_BinarySearch_int b 0 s.length cap s x w (Nat.le_refl _) (by omega) (fun j hj => by rw [Nat.zero_add]; exact row_cell h2 h6 j hj) (by rw [List.take_length]; exact hs)
    rwa [List.take_length] at this
/-- slices.Contains -/
theorem contains_calls (v : Value) (base : Nat) (s : List Int) (x : Int) (w : World) (h : Own w base v s) (hl : s.length ≤ 1000000) :
    Calls Tryz.prog 95 #[v, .int .i64 x] w fun e w' => e = .returned (.bool (s.contains x)) ∧ w' = w := by
  rcases h.parts with ⟨rfl, rfl⟩ | ⟨b, cap, cur, rfl, h1, h2, h3, h4, h5, h6⟩
  · exact Tryz.slices_Contains_int_empty none 0 x w
  · have := Tryz.slices_Contains_int b 0 s.length cap s x w (Nat.le_refl _) (by omega) (fun j hj => by rw [Nat.zero_add]; exact row_cell h2 h6 j hj)
    rwa [List.take_length] at this
theorem zero_size (k : Nat) : (Builtin.zeroCells (Value.int .i64 0).cells k).size = k := by simp [Builtin.zeroCells, Value.cells]
theorem lit_one (xs : List Int) : ∀ u ∈ nums .i64 xs, u.oneCell' = true := by
  intro u hu
  simp only [nums, List.mem_map] at hu
  obtain ⟨y, _, rfl⟩ := hu
  rfl
theorem nums_ins (s : List Int) (i : Nat) (x : Int) : nums .i64 (s.take i ++ x :: s.drop i) = (nums .i64 s).take i ++ .int .i64 x :: (nums .i64 s).drop i := by simp [nums, List.map_take, List.map_drop]
theorem ins_len (s : List Int) (i : Nat) (x : Int) (hi : i ≤ s.length) : (s.take i ++ x :: s.drop i).length = s.length + 1 := by simp; omega
theorem below_cells {w W : World} {base b : Nat} (h : Below base w W) (hb : base ≤ b) (o : Nat) (vs : List Value) : Below base w (W.setCells b o vs) := by
  obtain ⟨s1, s2, s3, s4⟩ := setCells_same b vs o W
  exact h.trans ⟨s1, s2, s3, by omega, fun k hk => setCells_far vs o k (by omega)⟩
theorem lit_reads {w : World} {vb : Nat} {x : Int} (hv : w.heap[vb]? = some (.cells #[.int .i64 x] 3 (0, 0))) : ∀ (j : Nat) (u : Value), [Value.int .i64 x][j]? = some u → w.cell? ⟨vb, 0 + j, none⟩ = some u := by
  intro j u hu
  obtain ⟨hj, hu⟩ := List.getElem?_eq_some_iff.1 hu
  have h0 : j = 0 := by simpa using hj
  subst h0
  rw [Go.Lib.cell_of_heap hv]
  simpa using hu
theorem row_reads {w : World} {b : Nat} {cur : Array Value} {s : List Int} (h2 : w.heap[b]? = some (.cells cur 3 (0, 0))) (h6 : cur.toList.take s.length = nums .i64 s) : ∀ (j : Nat) (u : Value), (nums .i64 s)[j]? = some u → w.cell? ⟨b, 0 + j, none⟩ = some u := by
  intro j u hu
  have hj : j < s.length := by
    obtain ⟨hj, _⟩ := List.getElem?_eq_some_iff.1 hu
    simpa [nums] using hj
  rw [Nat.zero_add, row_cell h2 h6 j hj, ← hu]
  simp [nums, hj]
/-- slices.Insert of one element, that lies in a block of its own -/
theorem insert_calls (v : Value) (base vb : Nat) (s : List Int) (i : Nat) (x : Int) (w : World) (h : Own w base v s) (hB : base ≤ w.heap.size) (hi : i ≤ s.length) (hv : w.heap[vb]? = some (.cells #[.int .i64 x] 3 (0, 0))) (hne : v.ownBlock ≠ some vb) (hl : s.length ≤ 1000000) :
    Calls Tryz.prog 83 #[v, .int .i64 i, .slice (some ⟨vb, 0, none⟩) 1 1] w fun e w' => ∃ v', e = .returned v' ∧ Own w' base v' (s.take i ++ x :: s.drop i) ∧ Below base w w' := by
  have hil := ins_len s i x hi
  have grown : ∀ (base' : Option Addr) (c : Nat), i = s.length → s.length ≤ c → c < s.length + 1 → (base' = none → s.length = 0) → (∀ a, base' = some a → ∀ (j : Nat) (u : Value), (nums .i64 s)[j]? = some u → w.cell? (a.add j) = some u) →
      Calls Tryz.prog 83 #[.slice base' s.length c, .int .i64 i, .slice (some ⟨vb, 0, none⟩) 1 1] w fun e w' => ∃ v', e = .returned v' ∧ Own w' base v' (s.take i ++ x :: s.drop i) ∧ Below base w w' := by
    intro base' c hin hc1 hc2 hnil hcs
    subst hin
    refine (Any2.slices_Insert_int_end_grow Tryz.laysInsert base' s.length c vb 0 1 1 (nums .i64 s) [.int .i64 x] w (by omega) hc1 hc2 (by omega) (nums_length _ _) rfl hnil hcs (lit_reads hv) (fun u hu => lit_one [x] u hu)).mono ?_
    rintro e w' ⟨rfl, rfl⟩
    have hge := grownCap_ge w (s.length + 1) c (Tryz.laysInsert_ren.t 3)
    have hle := grownCap_le_maxLen w (s.length + 1) c (Tryz.laysInsert_ren.t 3) (by unfold maxLen; omega)
    generalize grownCap w (s.length + 1) c (Tryz.laysInsert_ren.t 3) = cap at *
    refine ⟨_, rfl, ?_, ((below_drew1 (Below.refl base w)).alloc hB _)⟩
    rw [← hil]
    refine Own.make (cap := cap) hB (heap_alloc_new w.drew _) (by omega) hle (by simp [zero_size, nums]; omega) ?_
    rw [hil, nums_ins]
    have e1 : (nums .i64 s).take s.length = nums .i64 s := List.take_of_length_le (by simp [nums])
    have e2 : (nums .i64 s).drop s.length = [] := List.drop_of_length_le (by simp [nums])
    rw [e1, e2]
    simp only [Array.toList_append, List.toList_toArray]
    rw [List.take_append_of_le_length (by simp [nums]), List.take_of_length_le (by simp [nums])]
  rcases h.parts with ⟨rfl, rfl⟩ | ⟨b, cap, cur, rfl, h1, h2, h3, h4, h5, h6⟩
  · have hi0 : i = 0 := by simpa using hi
    subst hi0
    exact grown none 0 rfl (Nat.le_refl _) (by simp) (fun _ => rfl) (fun a ha => absurd ha (by simp))
  · have hvb : vb ≠ b := fun e => hne (by rw [e]; rfl)
    have hc63 : cap ≤ 9223372036854775807 := h4
    have hcur : ∀ j, j < cur.size → (w.cell? ⟨b, 0 + j, none⟩).isSome = true := fun j hj => by rw [Nat.zero_add, Go.Lib.cell_of_heap h2]; simp [hj]
    have hcurl : cur.toList.length = cap := by rw [Array.length_toList]; exact h5
    by_cases hin : i = s.length
    · by_cases hroom : s.length + 1 ≤ cap
      · subst hin
        refine (Any2.slices_Insert_int_end_room Tryz.laysInsert b 0 s.length cap vb 0 1 1 [.int .i64 x] w (by omega) hroom hc63 rfl (fun j hj => by rw [show 0 + s.length + j = 0 + (s.length + j) by omega]; exact hcur _ (by omega)) (fun j hj => blk_frozen h2 _) (lit_reads hv) (fun u hu => lit_one [x] u hu)).mono ?_
        rintro e w' ⟨rfl, rfl⟩
        obtain ⟨cur', r1, r2, r3⟩ := setCells_row (g := b) (e := 3) [.int .i64 x] (0 + s.length) w cur h2 (by simp; omega)
        refine ⟨_, rfl, ?_, below_cells (Below.refl _ _) h1 _ _⟩
        rw [← hil]
        refine Own.make (cap := cap) h1 r1 (by omega) h4 (by omega) ?_
        rw [hil, nums_ins, r3, Nat.zero_add, h6]
        have e1 : (nums .i64 s).take s.length = nums .i64 s := List.take_of_length_le (by simp [nums])
        have e2 : (nums .i64 s).drop s.length = [] := List.drop_of_length_le (by simp [nums])
        rw [e1, e2, List.take_append_of_le_length (by simp [nums]), List.take_of_length_le (by simp [nums])]
      · exact grown (some ⟨b, 0, none⟩) cap hin h3 (by omega) (fun h => absurd h (by simp)) (fun a ha j u hu => by
          injection ha with ha
          subst ha
          rw [add_plain]
          have := row_reads h2 h6 j u hu
          rwa [Nat.zero_add] at this)
    · by_cases hroom : s.length + 1 ≤ cap
      · refine (Any2.slices_Insert_int_shift Tryz.laysInsert b 0 s.length cap i vb 0 1 1 (nums .i64 s) [.int .i64 x] w (by omega) (by omega) hroom hc63 hvb (nums_length _ _) rfl (row_reads h2 h6) (fun j hj => hcur j (by omega)) (fun j hj => blk_frozen h2 _) (lit_reads hv) (fun u hu => lit_one s u hu) (fun u hu => lit_one [x] u hu)
          3 3 1 cap (by simp [World.shape?, hv]) (by simp [World.shape?, h2, h5]) (by omega) (blk_frozen hv _) (blk_frozen hv _)).mono ?_
        rintro e w' ⟨rfl, rfl⟩
        obtain ⟨c1, r1, r2, r3⟩ := setCells_row (g := b) (e := 3) ((nums .i64 s).drop i) (0 + (i + 1)) w.drew cur h2 (by simp [nums]; omega)
        obtain ⟨c2, q1, q2, q3⟩ := setCells_row (g := b) (e := 3) [.int .i64 x] (0 + i) _ c1 r1 (by simp; omega)
        refine ⟨_, rfl, ?_, below_cells (below_cells (below_drew1 (Below.refl _ _)) h1 _ _) h1 _ _⟩
        rw [← hil]
        refine Own.make (cap := cap) h1 q1 (by omega) h4 (by omega) ?_
        rw [hil, nums_ins, q3, r3]
        simp only [Nat.zero_add]
        have e1 : (cur.toList.take (i + 1) ++ (nums .i64 s).drop i ++ cur.toList.drop (i + 1 + ((nums .i64 s).drop i).length)).take i = (nums .i64 s).take i := by
          rw [List.append_assoc, List.take_append_of_le_length (by rw [List.length_take]; omega), List.take_take, Nat.min_eq_left (by omega), ← h6, List.take_take, Nat.min_eq_left (by omega)]
        have e2 : (cur.toList.take (i + 1) ++ (nums .i64 s).drop i ++ cur.toList.drop (i + 1 + ((nums .i64 s).drop i).length)).drop (i + [Value.int .i64 x].length) = (nums .i64 s).drop i ++ cur.toList.drop (i + 1 + ((nums .i64 s).drop i).length) := by
          rw [List.append_assoc, List.drop_append_of_le_length (by rw [List.length_take]; simp; omega), List.drop_of_length_le (by rw [List.length_take]; simp; omega), List.nil_append]
        rw [e1, e2]
        rw [show (nums .i64 s).take i ++ [Value.int .i64 x] ++ ((nums .i64 s).drop i ++ cur.toList.drop (i + 1 + ((nums .i64 s).drop i).length)) = ((nums .i64 s).take i ++ .int .i64 x :: (nums .i64 s).drop i) ++ cur.toList.drop (i + 1 + ((nums .i64 s).drop i).length) by simp]
        rw [List.take_append_of_le_length (by simp [nums]; omega), List.take_of_length_le (by simp [nums]; omega)]
      · refine (Any2.slices_Insert_int_grow Tryz.laysInsert b 0 s.length cap i vb 0 1 1 (nums .i64 s) [.int .i64 x] w (by omega) (by omega) h3 (by omega) (by omega) (nums_length _ _) rfl (row_reads h2 h6) (lit_reads hv) (fun u hu => lit_one s u hu) (fun u hu => lit_one [x] u hu)).mono ?_
        rintro e w' ⟨rfl, rfl⟩
        have hge := grownCap_ge w (s.length + 1) cap (Tryz.laysInsert_ren.t 3)
        have hle := grownCap_le_maxLen w (s.length + 1) cap (Tryz.laysInsert_ren.t 3) (by unfold maxLen; omega)
        generalize grownCap w (s.length + 1) cap (Tryz.laysInsert_ren.t 3) = cap2 at *
        have g0 := heap_alloc_new w (.cells (((nums .i64 s).take i).toArray ++ Builtin.zeroCells (Value.int .i64 0).cells (s.length + 1 - i) ++ Builtin.zeroCells (Value.int .i64 0).cells (cap2 - (s.length + 1))) 3 (0, 0))
        obtain ⟨c0, hc0⟩ : ∃ c0, c0 = ((nums .i64 s).take i).toArray ++ Builtin.zeroCells (Value.int .i64 0).cells (s.length + 1 - i) ++ Builtin.zeroCells (Value.int .i64 0).cells (cap2 - (s.length + 1)) := ⟨_, rfl⟩
        have hs0 : c0.size = cap2 := by rw [hc0]; simp [zero_size, nums]; omega
        have hb0 : (Below base w (w.alloc (.cells c0 3 (0, 0)))) := (Below.refl base w).alloc hB _
        rw [← hc0] at g0
        show ∃ v', _ ∧ Own ((((w.alloc (.cells (((nums .i64 s).take i).toArray ++ Builtin.zeroCells (Value.int .i64 0).cells (s.length + 1 - i) ++ Builtin.zeroCells (Value.int .i64 0).cells (cap2 - (s.length + 1))) 3 (0, 0))).drew.setCells w.heap.size i _).drew).setCells w.heap.size (i + 1) _) base v' _ ∧ _
        rw [← hc0]
        have ht0 : c0.toList.take i = (nums .i64 s).take i := by
          rw [hc0]
          simp only [Array.toList_append, List.toList_toArray]
          rw [List.append_assoc, List.take_append_of_le_length (by simp [nums]; omega), List.take_take, Nat.min_self]
        obtain ⟨c1, r1, r2, r3⟩ := setCells_row (g := w.heap.size) (e := 3) [.int .i64 x] i (w.alloc (.cells c0 3 (0, 0))).drew c0 g0 (by simp; omega)
        obtain ⟨c2, q1, q2, q3⟩ := setCells_row (g := w.heap.size) (e := 3) ((nums .i64 s).drop i) (i + 1) (((w.alloc (.cells c0 3 (0, 0))).drew.setCells w.heap.size i [.int .i64 x]).drew) c1 r1 (by simp [nums]; omega)
        refine ⟨_, rfl, ?_, below_cells (below_drew1 (below_cells (below_drew1 hb0) hB _ _)) hB _ _⟩
        rw [← hil]
        refine Own.make (cap := cap2) hB q1 (by omega) hle (by omega) ?_
        rw [hil, nums_ins, q3, r3, ht0]
        have hlt : ((nums .i64 s).take i).length = i := by simp [nums]; omega
        have e1 : ((nums .i64 s).take i ++ [Value.int .i64 x] ++ c0.toList.drop (i + [Value.int .i64 x].length)).take (i + 1) = (nums .i64 s).take i ++ [Value.int .i64 x] := by
          rw [List.take_append_of_le_length (by simp [hlt]), List.take_of_length_le (by simp [hlt])]
        rw [e1]
        rw [show (nums .i64 s).take i ++ [Value.int .i64 x] ++ (nums .i64 s).drop i = (nums .i64 s).take i ++ .int .i64 x :: (nums .i64 s).drop i by simp]
        rw [List.take_append_of_le_length (by simp [nums]; omega), List.take_of_length_le (by simp [nums]; omega)]
theorem delete_callsI (v : Value) (base : Nat) (s : List Int) (i : Nat) (w : World) (h : Own w base v s) (hi : i < s.length) :
    Calls Tryz.prog 80 #[v, .int .i64 (i : Int), .int .i64 ((i : Int) + 1)] w fun e w' => ∃ v', e = .returned v' ∧ Own w' base v' (s.eraseIdx i) ∧ Below base w w' := delete_calls v base s i w h hi
end Go.Proofs.YtiialjmpfeopjaaGreat.Sp

namespace Go.Proofs.YtiialjmpfeopjaaGreat.Sp
open Go.RowKit Go.Sort Go.Proofs.YtiialjmpfeopjaaGreatW.PrintWords Go.Proofs.YtiialjmpfeopjaaGreatW.PrintLast Go.Proofs.YtiialjmpfeopjaaGreatW.PrintMore
set_option linter.unusedVariables false
set_option linter.unusedSimpArgs false
set_option maxHeartbeats 8000000
set_option maxRecDepth 100000
/-- Each block stays, but those of acts and rules (the variables of the functions that make them). -/
def Stays (w w1 : World) : Prop := ∀ (k : Nat) (c : Array Value) (t : TypeId), t ≠ 87 → t ≠ 67 → w.heap[k]? = some (.cells c t (0, 0)) → w1.heap[k]? = some (.cells c t (0, 0))
theorem Stays.refl (w : World) : Stays w w := fun _ _ _ _ _ h => h
theorem Stays.trans {w w1 w2 : World} (h : Stays w w1) (k : Stays w1 w2) : Stays w w2 := fun b c t h1 h2 h3 => k b c t h1 h2 (h b c t h1 h2 h3)
theorem Stays.of {w w1 : World} (hb : Below w.heap.size w w1) : Stays w w1 := fun b c t _ _ h => (hb.block b (blk_lt h)).trans h
theorem Stays.set {w : World} {k : Nat} {c : Array Value} {t : TypeId} (h : w.heap[k]? = some (.cells c t (0, 0))) (ht : t = 87 ∨ t = 67) (j : Nat) (v : Value) : Stays w (w.setCell ⟨k, j, none⟩ v) := by
  intro b c' t' h1 h2 h3
  have hne : b ≠ k := by
    rintro rfl
    rw [h] at h3
    injection h3 with h3
    injection h3 with _ h3 _
    rcases ht with ht | ht
    · exact h1 (h3.symm.trans ht)
    · exact h2 (h3.symm.trans ht)
  exact (Below.heap_setCell w ⟨k, j, none⟩ v b hne).trans h3
/-- A test over lists: what it answers at each list, in each later world. -/
def PredV (w : World) (V : Value) (P : List Int → Bool) : Prop := ∃ g cap, V = .func (.func g) #[] cap ∧ (∀ args w, (callFunc g args).run Tryz.prog w = .ok (.enter g args) w) ∧
  ∀ (W : World) (A : Option Addr) (c : Nat) (s : List Int), Stays w W → Rd W A s → s.length ≤ c → s.length ≤ 17592186044416 → Calls Tryz.prog g (#[.slice A s.length c] ++ cap) W fun e W' => e = .returned (.bool (P s)) ∧ Below W.heap.size W W'
theorem PredV.mono {w w1 : World} {V : Value} {P : List Int → Bool} (h : PredV w V P) (hb : Stays w w1) : PredV w1 V P := by
  obtain ⟨g, cap, e, eg, hc⟩ := h
  exact ⟨g, cap, e, eg, fun W A c s hW => hc W A c s (hb.trans hW)⟩
/-- slices.ContainsFunc at a function value that only reads. -/
theorem containsF (p : Int → Bool) (g : Nat) (lb : Array Value) (eg : ∀ args w, (callFunc g args).run Tryz.prog w = .ok (.enter g args) w) (A : Option Addr) (c : Nat) (s : List Int) (w : World)
    (hp : ∀ x, Calls Tryz.prog g (#[.int .i64 x] ++ lb) w fun e W' => e = .returned (.bool (p x)) ∧ W' = w) (hr : Rd w A s) (hl : s.length ≤ 17592186044416) :
    Calls Tryz.prog 121 #[.slice A s.length c, .func (.func g) #[] lb] w fun e w' => e = .returned (.bool (s.any p)) ∧ w' = w := by
  have hcon : Calls Tryz.prog 129 #[.slice A s.length c, .func (.func g) #[] lb] w fun e w' => ∃ r : Int, (e = .returned (.int .i64 r) ∧ w' = w) ∧ decide (0 ≤ r) = s.any p := by
    have HR := Aside0.mk hr
    have HP := Aside0.mk hp
    clear hr hp
    go_enter Tryz.func129, Tryz.ntmps129
    go_wp2
    go_loopg [5, 8] s.length (fun gg _ s8 wr => ∃ kk : Nat, kk ≤ s.length ∧ s.length - kk ≤ gg ∧ s8 = .int .i64 kk ∧ w = wr ∧ Aside0 (∀ j : Nat, j < kk → p (s.getD j 0) = false))
    case atStart => exact ⟨0, Nat.zero_le _, by omega, rfl, rfl, ⟨fun j hj => absurd hj (Nat.not_lt_zero _)⟩⟩
    case round =>
      obtain ⟨kk, hkk, hg, rfl, rfl, B⟩ := hrel
      by_cases hlt : kk < s.length
      · obtain ⟨ad, rfl, hc⟩ := HR.out.at kk hlt
        obtain ⟨y, hy⟩ : ∃ y, y = s.getD kk 0 := ⟨_, rfl⟩
        have HY := Aside0.mk hy
        rw [← hy] at hc
        clear hy
        have hcall := HP.out y
        cases hq : p y with
        | true =>
          rw [hq] at hcall
          go_wp2_with (go_at_fn g; refine hcall.mono ?_; rintro e w' ⟨rfl, rfl⟩)
          go_ret
          refine ⟨_, ⟨rfl, rfl⟩, ?_⟩
          have : s.any p = true := by
            rw [List.any_eq_true]
            refine ⟨y, ?_, hq⟩
            rw [HY.out]
            simp [hlt]
          rw [this]
          simp
        | false =>
          rw [hq] at hcall
          go_wp2_with (go_at_fn g; refine hcall.mono ?_; rintro e w' ⟨rfl, rfl⟩)
          go_roundg (s.length - (kk + 1))
          case measure => omega
          case rel =>
            refine ⟨kk + 1, by omega, by omega, by go_num, rfl, ⟨fun j hj => ?_⟩⟩
            by_cases e : j = kk
            · subst e
              rw [← HY.out]; exact hq
            · exact B.out j (by omega)
      · have : kk = s.length := by omega
        subst this
        go_wp2
        go_ret
        refine ⟨-1, ⟨rfl, rfl⟩, ?_⟩
        have : s.any p = false := by
          rw [List.any_eq_false]
          intro y hy
          obtain ⟨j, hj, rfl⟩ := List.mem_iff_getElem.1 hy
          have := B.out j hj
          simpa [hj] using this
        rw [this]
        rfl
  clear hr hp
  generalize s.any p = b at hcon ⊢
  go_enter Tryz.func121, Tryz.ntmps121
  go_wp2_with (go_at_call 129; refine hcon.mono ?_; rintro e w' ⟨r, ⟨rfl, rfl⟩, hr⟩)
  go_ret
  exact ⟨by rw [← hr]; rfl, rfl⟩
theorem in1_calls (lo hi x : Int) (a b : Nat) (w : World) (h1 : w.cell? ⟨a, 0, none⟩ = some (.int .i64 lo)) (h2 : w.cell? ⟨b, 0, none⟩ = some (.int .i64 hi)) :
    Calls Tryz.prog 122 #[.int .i64 x, .pointer (some ⟨a, 0, none⟩), .pointer (some ⟨b, 0, none⟩)] w fun e w' => e = .returned (.bool (decide (x < lo) || decide (hi < x))) ∧ w' = w := by
  by_cases h : x < lo
  · have e : (decide (x < lo) || decide (hi < x)) = true := by simp [h]
    rw [e]
    go_enter Tryz.func122, Tryz.ntmps122
    go_wp2
    go_ret
    exact ⟨rfl, rfl⟩
  · have e : (decide (x < lo) || decide (hi < x)) = decide (hi < x) := by simp [h]
    rw [e]
    go_enter Tryz.func122, Tryz.ntmps122
    go_wp2
    go_ret
    exact ⟨rfl, rfl⟩
def inB (lo hi : Int) (s : List Int) : Bool := s.all fun x => decide (lo ≤ x) && decide (x ≤ hi)
theorem inB_any (lo hi : Int) (s : List Int) : (!(s.any fun x => decide (x < lo) || decide (hi < x))) = inB lo hi s := by
  unfold inB
  induction s with
  | nil => rfl
  | cons x r ih =>
    simp only [List.any_cons, List.all_cons, Bool.not_or, ih]
    congr 1
    by_cases h1 : x < lo <;> by_cases h2 : hi < x <;> simp [h1, h2] <;> omega
theorem in_calls (A : Option Addr) (c : Nat) (s : List Int) (lo hi : Int) (w : World) (hr : Rd w A s) (hl : s.length ≤ 17592186044416) :
    Calls Tryz.prog 76 #[.slice A s.length c, .int .i64 lo, .int .i64 hi] w fun e w' => e = .returned (.bool (inB lo hi s)) ∧ Below w.heap.size w w' := by
  have b1 := (Below.refl w.heap.size w).alloc (Nat.le_refl _) (.cells #[.int .i64 lo] 3 (0, 0))
  have s1 := alloc_size w (.cells #[.int .i64 lo] 3 (0, 0))
  have n1 := heap_alloc_new w (.cells #[.int .i64 lo] 3 (0, 0))
  have b2 := b1.alloc b1.size (.cells #[.int .i64 hi] 3 (0, 0))
  have n2 := heap_alloc_new (w.alloc (.cells #[.int .i64 lo] 3 (0, 0))) (.cells #[.int .i64 hi] 3 (0, 0))
  have o2 := alloc_old (w.alloc (.cells #[.int .i64 lo] 3 (0, 0))) (.cells #[.int .i64 hi] 3 (0, 0)) w.heap.size (by omega)
  rw [s1] at n2
  rw [n1] at o2
  have eg : ∀ args w, (callFunc 122 args).run Tryz.prog w = .ok (.enter 122 args) w := enters_of Tryz.func122 (by kernel_rfl) rfl
  have hc := containsF (fun x => decide (x < lo) || decide (hi < x)) 122 #[.pointer (some ⟨w.heap.size, 0, none⟩), .pointer (some ⟨w.heap.size + 1, 0, none⟩)] eg A c s _ (fun x => in1_calls lo hi x w.heap.size (w.heap.size + 1) _ (by rw [Go.Lib.cell_of_heap o2]; rfl) (by rw [Go.Lib.cell_of_heap n2]; rfl)) (hr.below b2) hl
  have hb := inB_any lo hi s
  generalize (s.any fun x => decide (x < lo) || decide (hi < x)) = q at hc hb
  generalize inB lo hi s = r at hb ⊢
  subst hb
  have B2 := Aside0.mk b2
  clear b1 n1 b2 n2 o2 hr s1
  go_enter Tryz.func76, Tryz.ntmps76
  go_wp2_with (go_at_call 121; refine hc.mono ?_; rintro e w' ⟨rfl, rfl⟩)
  go_ret
  exact ⟨rfl, B2.out⟩
end Go.Proofs.YtiialjmpfeopjaaGreat.Sp

namespace Go.Proofs.YtiialjmpfeopjaaGreat.Sp
open Go.RowKit Go.Sort Go.Proofs.YtiialjmpfeopjaaGreatW.PrintWords Go.Proofs.YtiialjmpfeopjaaGreatW.PrintLast Go.Proofs.YtiialjmpfeopjaaGreatW.PrintMore
set_option linter.unusedVariables false
set_option linter.unusedSimpArgs false
set_option maxHeartbeats 8000000
set_option maxRecDepth 100000
def wordsB (most hi : Int) (s : List Int) : Bool := decide ((s.length : Int) ≤ most) && inB 0 hi s
def exactlyB (n lo hi : Int) (s : List Int) : Bool := decide ((s.length : Int) = n) && inB lo hi s
def diffB : List Int → Bool
  | a :: b :: r => (a != b) && diffB (b :: r)
  | _ => true
def ascB : List Int → Bool
  | a :: b :: r => decide (a ≤ b) && ascB (b :: r)
  | _ => true
def ascendingB (hi : Int) (different : Bool) (s : List Int) : Bool := (!different || diffB s) && (wordsB 24 hi s && ascB s)
/-- Two boxes that are made one behind the other. -/
theorem two_boxes (w : World) (x y : Value) (t u : TypeId) : Below w.heap.size w ((w.alloc (.cells #[x] t (0, 0))).alloc (.cells #[y] u (0, 0))) ∧
    ((w.alloc (.cells #[x] t (0, 0))).alloc (.cells #[y] u (0, 0))).heap[w.heap.size]? = some (.cells #[x] t (0, 0)) ∧ ((w.alloc (.cells #[x] t (0, 0))).alloc (.cells #[y] u (0, 0))).heap[w.heap.size + 1]? = some (.cells #[y] u (0, 0)) := by
  have b1 := (Below.refl w.heap.size w).alloc (Nat.le_refl _) (.cells #[x] t (0, 0))
  have s1 := alloc_size w (.cells #[x] t (0, 0))
  have n1 := heap_alloc_new w (.cells #[x] t (0, 0))
  have b2 := b1.alloc b1.size (.cells #[y] u (0, 0))
  have n2 := heap_alloc_new (w.alloc (.cells #[x] t (0, 0))) (.cells #[y] u (0, 0))
  have o2 := alloc_old (w.alloc (.cells #[x] t (0, 0))) (.cells #[y] u (0, 0)) w.heap.size (by omega)
  rw [s1] at n2
  exact ⟨b2, o2.trans n1, n2⟩
theorem one_cell {w : World} {b : Nat} {x : Value} {t : TypeId} (h : w.heap[b]? = some (.cells #[x] t (0, 0))) : w.cell? ⟨b, 0, none⟩ = some x := by
  rw [Go.Lib.cell_of_heap h]; rfl
theorem words1_calls (most hi : Int) (a b : Nat) (A : Option Addr) (c : Nat) (s : List Int) (w : World) (h1 : w.cell? ⟨a, 0, none⟩ = some (.int .i64 most)) (h2 : w.cell? ⟨b, 0, none⟩ = some (.int .i64 hi)) (hr : Rd w A s) (hl : s.length ≤ 17592186044416) :
    Calls Tryz.prog 75 #[.slice A s.length c, .pointer (some ⟨a, 0, none⟩), .pointer (some ⟨b, 0, none⟩)] w fun e w' => e = .returned (.bool (wordsB most hi s)) ∧ Below w.heap.size w w' := by
  have hi_ := Aside0.mk (in_calls A c s 0 hi w hr hl)
  have hb := Below.refl w.heap.size w
  by_cases h : (s.length : Int) ≤ most
  · have e : wordsB most hi s = inB 0 hi s := by unfold wordsB; rw [decide_eq_true h]; rfl
    rw [e]
    generalize inB 0 hi s = q at hi_ ⊢
    clear hr e
    go_enter Tryz.func75, Tryz.ntmps75
    go_wp2_with (go_at_call 76; refine (hi_.out).mono ?_; rintro e w' ⟨rfl, hb2⟩; have HB := Aside0.mk hb2; clear hb2)
    go_ret
    exact ⟨rfl, HB.out⟩
  · have e : wordsB most hi s = false := by unfold wordsB; rw [decide_eq_false h]; rfl
    rw [e]
    have hd : decide ((s.length : Int) ≤ most) = false := decide_eq_false h
    clear hr e hi_ h
    go_enter Tryz.func75, Tryz.ntmps75
    go_wp2
    go_ret
    exact ⟨rfl, hb⟩
theorem words_calls (most hi : Int) (w : World) : Calls Tryz.prog 47 #[.int .i64 most, .int .i64 hi] w fun e w' => ∃ V, e = .returned V ∧ PredV w' V (wordsB most hi) ∧ Below w.heap.size w w' := by
  obtain ⟨hb, c1, c2⟩ := two_boxes w (.int .i64 most) (.int .i64 hi) 3 3
  have HB := Aside0.mk hb
  have C1 := Aside0.mk c1
  have C2 := Aside0.mk c2
  clear hb c1 c2
  go_enter Tryz.func47, Tryz.ntmps47
  go_wp2
  go_ret
  refine ⟨_, rfl, ⟨75, _, rfl, enters_of Tryz.func75 (by kernel_rfl) rfl, fun W A c s hW hr hc hl => ?_⟩, HB.out⟩
  exact words1_calls most hi w.heap.size (w.heap.size + 1) A c s W (one_cell (hW _ _ _ (by decide) (by decide) C1.out)) (one_cell (hW _ _ _ (by decide) (by decide) C2.out)) hr hl
theorem exactly1_calls (n lo hi : Int) (a b d : Nat) (A : Option Addr) (c : Nat) (s : List Int) (w : World) (h1 : w.cell? ⟨a, 0, none⟩ = some (.int .i64 n)) (h2 : w.cell? ⟨b, 0, none⟩ = some (.int .i64 lo)) (h3 : w.cell? ⟨d, 0, none⟩ = some (.int .i64 hi)) (hr : Rd w A s) (hl : s.length ≤ 17592186044416) :
    Calls Tryz.prog 96 #[.slice A s.length c, .pointer (some ⟨a, 0, none⟩), .pointer (some ⟨b, 0, none⟩), .pointer (some ⟨d, 0, none⟩)] w fun e w' => e = .returned (.bool (exactlyB n lo hi s)) ∧ Below w.heap.size w w' := by
  have hi_ := Aside0.mk (in_calls A c s lo hi w hr hl)
  have hb := Below.refl w.heap.size w
  by_cases h : (s.length : Int) = n
  · have e : exactlyB n lo hi s = inB lo hi s := by unfold exactlyB; rw [decide_eq_true h]; rfl
    rw [e]
    have hd : ((s.length : Int) == n) = true := by simp [h]
    generalize inB lo hi s = q at hi_ ⊢
    clear hr e h
    go_enter Tryz.func96, Tryz.ntmps96
    go_wp2_with (go_at_call 76; refine (hi_.out).mono ?_; rintro e w' ⟨rfl, hb2⟩; have HB := Aside0.mk hb2; clear hb2)
    go_ret
    exact ⟨rfl, HB.out⟩
  · have e : exactlyB n lo hi s = false := by unfold exactlyB; rw [decide_eq_false h]; rfl
    rw [e]
    have hd : ((s.length : Int) == n) = false := by simp [h]
    clear hr e hi_ h
    go_enter Tryz.func96, Tryz.ntmps96
    go_wp2
    go_ret
    exact ⟨rfl, hb⟩
theorem exactly_calls (n lo hi : Int) (w : World) : Calls Tryz.prog 64 #[.int .i64 n, .int .i64 lo, .int .i64 hi] w fun e w' => ∃ V, e = .returned V ∧ PredV w' V (exactlyB n lo hi) ∧ Below w.heap.size w w' := by
  obtain ⟨hb, c1, c2⟩ := two_boxes w (.int .i64 n) (.int .i64 lo) 3 3
  have hs : ((w.alloc (.cells #[.int .i64 n] 3 (0, 0))).alloc (.cells #[.int .i64 lo] 3 (0, 0))).heap.size = w.heap.size + 2 := by rw [alloc_size, alloc_size]
  have c3 := heap_alloc_new ((w.alloc (.cells #[.int .i64 n] 3 (0, 0))).alloc (.cells #[.int .i64 lo] 3 (0, 0))) (.cells #[.int .i64 hi] 3 (0, 0))
  have hb3 := hb.alloc hb.size (.cells #[.int .i64 hi] 3 (0, 0))
  have o1 := (alloc_old _ (.cells #[.int .i64 hi] 3 (0, 0)) w.heap.size (blk_lt c1)).trans c1
  have o2 := (alloc_old _ (.cells #[.int .i64 hi] 3 (0, 0)) (w.heap.size + 1) (blk_lt c2)).trans c2
  rw [hs] at c3
  have HB := Aside0.mk hb3
  have C1 := Aside0.mk o1
  have C2 := Aside0.mk o2
  have C3 := Aside0.mk c3
  clear hb c1 c2 hs c3 hb3 o1 o2
  go_enter Tryz.func64, Tryz.ntmps64
  go_wp2
  go_ret
  refine ⟨_, rfl, ⟨96, _, rfl, enters_of Tryz.func96 (by kernel_rfl) rfl, fun W A c s hW hr hc hl => ?_⟩, HB.out⟩
  exact exactly1_calls n lo hi w.heap.size (w.heap.size + 1) (w.heap.size + 2) A c s W (one_cell (hW _ _ _ (by decide) (by decide) C1.out)) (one_cell (hW _ _ _ (by decide) (by decide) C2.out)) (one_cell (hW _ _ _ (by decide) (by decide) C3.out)) hr hl
theorem ascB_iff : ∀ s : List Int, ascB s = true ↔ ∀ j, 0 < j → j < s.length → s.getD (j - 1) 0 ≤ s.getD j 0
  | [] => by simp [ascB]
  | [a] => by simp [ascB]; omega
  | a :: b :: r => by
    unfold ascB
    rw [Bool.and_eq_true, decide_eq_true_eq, ascB_iff (b :: r)]
    constructor
    · rintro ⟨h1, h2⟩ j hj hlt
      by_cases h : j = 1
      · subst h; simpa using h1
      · obtain ⟨k, rfl⟩ : ∃ k, j = k + 2 := ⟨j - 2, by omega⟩
        have := h2 (k + 1) (by omega) (by simp at hlt ⊢; omega)
        simpa using this
    · intro h
      refine ⟨by have := h 1 (by omega) (by simp); simpa using this, fun j hj hlt => ?_⟩
      have := h (j + 1) (by omega) (by simp at hlt ⊢; omega)
      obtain ⟨k, rfl⟩ : ∃ k, j = k + 1 := ⟨j - 1, by omega⟩
      simpa using this
/-- slices.IsSorted -/
theorem sorted_calls (A : Option Addr) (c : Nat) (s : List Int) (w : World) (hr : Rd w A s) (hl : s.length ≤ 17592186044416) :
    Calls Tryz.prog 86 #[.slice A s.length c] w fun e w' => e = .returned (.bool (ascB s)) ∧ Below w.heap.size w w' := by
  have HR := Aside0.mk hr
  have HB0 := Aside0.mk (Below.refl w.heap.size w)
  have HI := Aside0.mk (ascB_iff s)
  clear hr
  go_enter Tryz.func86, Tryz.ntmps86
  go_wp2
  go_loopg [3] s.length (fun gg s3 wr => ∃ kk : Nat, kk ≤ s.length ∧ kk ≤ gg ∧ s3 = .int .i64 ((kk : Int) - 1) ∧ Aside0 (Below w.heap.size w wr) ∧ Aside0 (∀ j : Nat, kk ≤ j → 0 < j → j < s.length → s.getD (j - 1) 0 ≤ s.getD j 0))
  case atStart => exact ⟨s.length, Nat.le_refl _, by omega, rfl, HB0, ⟨fun j h1 _ h2 => by omega⟩⟩
  case round =>
    clear HB0
    obtain ⟨kk, hkk, hg, rfl, HB, B⟩ := hrel
    by_cases hlt : 1 < kk
    · obtain ⟨K, hK⟩ : ∃ K, K = kk - 1 := ⟨_, rfl⟩
      obtain ⟨m, hm⟩ : ∃ m, m = kk - 2 := ⟨_, rfl⟩
      have hz1 : (kk : Int) - 1 = (K : Int) := by omega
      rw [hz1]
      have hKl : K < s.length := by omega
      have hml : m < s.length := by omega
      have hK0 : 0 < K := by omega
      obtain ⟨ad, rfl, hc1⟩ := (HR.out.below HB.out).at K hKl
      obtain ⟨ad2, e2, hc2⟩ := (HR.out.below HB.out).at m hml
      injection e2 with e2
      subst e2
      obtain ⟨x, hx⟩ : ∃ x, x = s.getD K 0 := ⟨_, rfl⟩
      obtain ⟨y, hy⟩ : ∃ y, y = s.getD m 0 := ⟨_, rfl⟩
      rw [← hx] at hc1
      rw [← hy] at hc2
      have HX := Aside0.mk hx
      have HY := Aside0.mk hy
      have HKm := Aside0.mk (show K = m + 1 ∧ kk = m + 2 by omega)
      have i1 : IntKind.i64.wrap ((K : Int) - 1) = (m : Int) := by rw [show (K : Int) - 1 = (m : Int) by omega]; exact IntWalk.i64_in _ (by omega)
      clear hx hy hz1 hK hm
      have hls := fun w => Tryz.cmp_Less_int2 x y w
      by_cases hq : x < y
      · have hd : decide (x < y) = true := decide_eq_true hq
        rw [hd] at hls
        have HL := Aside0.mk hls
        clear hls hd
        go_wp2
        go_quiet ((go_at_call 123; exact Calls.quiet_of_same (HL.out _)))
        go_wp2
        go_ret
        have : ascB s = false := by
          rw [Bool.eq_false_iff]
          intro h
          have h2 := (HI.out.1 h) K (by omega) hKl
          rw [show K - 1 = m by have := HKm.out; omega, ← HX.out, ← HY.out] at h2
          omega
        rw [this]
        exact ⟨rfl, pw_below_drewN HB.out _⟩
      · have hd : decide (x < y) = false := decide_eq_false hq
        rw [hd] at hls
        have HL := Aside0.mk hls
        clear hls hd
        go_wp2
        go_quiet ((go_at_call 123; exact Calls.quiet_of_same (HL.out _)))
        go_wp2
        go_roundg K
        case measure => have := HKm.out; omega
        case rel =>
          refine ⟨K, by omega, by omega, by have h := HKm.out; have e : ((K : Int) - 1) = (m : Int) := (by omega); first | rfl | (rw [e]) | (simp [e]), ⟨pw_below_drewN HB.out _⟩, ⟨fun j hj h0 h2 => ?_⟩⟩
          by_cases e : j = K
          · subst e
            rw [show j - 1 = m by have := HKm.out; omega, ← HX.out, ← HY.out]; omega
          · exact B.out j (by have := HKm.out; omega) h0 h2
    · have h0 : decide (0 < (kk : Int) - 1) = false := decide_eq_false (by omega)
      go_wp2
      go_ret
      have : ascB s = true := HI.out.2 (fun j h1 h2 => B.out j (by omega) h1 h2)
      rw [this]
      exact ⟨rfl, HB.out⟩
theorem diffB_iff : ∀ s : List Int, diffB s = true ↔ ∀ j, 0 < j → j < s.length → s.getD j 0 ≠ s.getD (j - 1) 0
  | [] => by simp [diffB]
  | [a] => by simp [diffB]; omega
  | a :: b :: r => by
    unfold diffB
    rw [Bool.and_eq_true, bne_iff_ne, diffB_iff (b :: r)]
    constructor
    · rintro ⟨h1, h2⟩ j hj hlt
      by_cases h : j = 1
      · subst h; simpa using fun e => h1 e.symm
      · obtain ⟨k, rfl⟩ : ∃ k, j = k + 2 := ⟨j - 2, by omega⟩
        have := h2 (k + 1) (by omega) (by simp at hlt ⊢; omega)
        simpa using this
    · intro h
      refine ⟨by have := h 1 (by omega) (by simp); simpa using fun e => this e.symm, fun j hj hlt => ?_⟩
      have := h (j + 1) (by omega) (by simp at hlt ⊢; omega)
      obtain ⟨k, rfl⟩ : ∃ k, j = k + 1 := ⟨j - 1, by omega⟩
      simpa using this
theorem compact_len (s : List Int) : ((Go.Lib.compact s).length = s.length) ↔ diffB s = true := by
  rw [diffB_iff]
  have hl : (Go.Lib.compact s).length = ((List.range s.length).filter (Go.Lib.keeps s.toArray)).length := by simp [Go.Lib.compact, Go.Lib.compactUpTo]
  rw [hl]
  have hr : s.length = (List.range s.length).length := by simp
  have key : (((List.range s.length).filter (Go.Lib.keeps s.toArray)).length = s.length) ↔ ∀ j ∈ List.range s.length, Go.Lib.keeps s.toArray j = true := by
    conv => lhs; rhs; rw [hr]
    exact List.length_filter_eq_length_iff
  rw [key]
  constructor
  · intro h j h0 hj
    have := h j (List.mem_range.2 hj)
    simp only [Go.Lib.keeps, Bool.or_eq_true, decide_eq_true_eq] at this
    rcases this with h1 | h1
    · omega
    · intro e
      apply h1
      have hj1 : j - 1 < s.length := by omega
      simpa [hj, hj1] using e
  · intro h j hj
    have hj := List.mem_range.1 hj
    by_cases h0 : j = 0
    · subst h0; exact Go.Lib.keeps_lt_one _ 0 (by omega)
    · refine Go.Lib.keeps_pos ?_
      have := h j (by omega) hj
      have hj1 : j - 1 < s.length := by omega
      simpa [hj, hj1] using this
/-- slices.Compact: how long its answer is -/
theorem compact_calls (v : Value) (base : Nat) (s : List Int) (w : World) (h : Own w base v s) (hl : s.length ≤ 17592186044416) :
    Calls Tryz.prog 85 #[v] w fun e w' => ∃ A' n' c', e = .returned (.slice A' n' c') ∧ (((n' : Int) != (s.length : Int)) = !(diffB s)) ∧ Below base w w' := by
  rcases h.parts with ⟨rfl, rfl⟩ | ⟨b, cap, cur, rfl, h1, h2, h3, h4, h5, h6⟩
  · refine (Tryz.slices_Compact_int_empty none 0 w).mono ?_
    rintro e w' ⟨rfl, rfl⟩
    exact ⟨_, _, _, rfl, rfl, Below.refl _ _⟩
  · refine (Tryz.slices_Compact_int b 0 cap s w (row_holds h2 h6) (by omega) h3).mono ?_
    rintro e w' ⟨rfl, q, rfl⟩
    refine ⟨_, _, _, rfl, ?_, below_put h1 _⟩
    have := compact_len s
    cases hd : diffB s with
    | true =>
      rw [this.2 hd]
      simp
    | false =>
      have hne : (Go.Lib.compact s).length ≠ s.length := fun e => by rw [this.1 e] at hd; exact absurd hd (by decide)
      simp only [Bool.not_false, bne_iff_ne, ne_eq]
      omega
theorem ascending1_calls (hi : Int) (df : Bool) (a b : Nat) (A : Option Addr) (c : Nat) (s : List Int) (w : World) (h1 : w.cell? ⟨a, 0, none⟩ = some (.bool df)) (h2 : w.cell? ⟨b, 0, none⟩ = some (.int .i64 hi)) (hr : Rd w A s) (hc : s.length ≤ c) (hl : s.length ≤ 17592186044416) :
    Calls Tryz.prog 84 #[.slice A s.length c, .pointer (some ⟨a, 0, none⟩), .pointer (some ⟨b, 0, none⟩)] w fun e w' => e = .returned (.bool (ascendingB hi df s)) ∧ Below w.heap.size w w' := by
  have hcl := Aside0.mk (clone_callsL A c s w hr hl)
  have hwd := Aside0.mk (words_calls 24 hi)
  have HR := Aside0.mk hr
  have HB0 := Aside0.mk (Below.refl w.heap.size w)
  have lt2 := World.block_lt_of_cell? w _ h2
  have C2 := Aside0.mk h2
  have L2 := Aside0.mk lt2
  have HHC := Aside0.mk hc
  clear hr lt2 hc
  have tail : ∀ W, Below w.heap.size w W → Calls Tryz.prog 86 #[.slice A s.length c] W fun e w' => e = .returned (.bool (ascB s)) ∧ Below W.heap.size W w' := fun W hW => sorted_calls A c s W (HR.out.below hW) hl
  have HT := Aside0.mk tail
  clear tail
  unfold ascendingB
  have hsplit : (df = false ∧ (!df || diffB s) = true) ∨ (df = true ∧ diffB s = true ∧ (!df || diffB s) = true) ∨ (df = true ∧ diffB s = false ∧ (!df || diffB s) = false) := by
    cases df <;> cases diffB s <;> simp
  rcases hsplit with ⟨rfl, e⟩ | ⟨rfl, hd, e⟩ | ⟨rfl, hd, e⟩
  · rw [e, Bool.true_and]
    cases hq : wordsB 24 hi s with
    | false =>
      rw [Bool.false_and]
      have HQ := Aside0.mk hq
      clear hq e
      go_enter Tryz.func84, Tryz.ntmps84
      go_wp2_with (first
        | (go_at_call 47; refine ((hwd.out) _).mono ?_; rintro e w1 ⟨V, rfl, hp, hb⟩; obtain ⟨g, cap, rfl, eg, hpc⟩ := hp; have HP := Aside0.mk (hpc w1 A c s (Stays.refl _) (HR.out.below hb) HHC.out hl); have B1 := Aside0.mk hb; clear hpc hb)
        | (go_at_fn g; refine (HP.out).mono ?_; rw [HQ.out]; rintro e w2 ⟨rfl, hb⟩; have B2 := Aside0.mk (btrans B1.out hb); clear hb))
      go_ret
      exact ⟨rfl, B2.out⟩
    | true =>
      rw [Bool.true_and]
      have HQ := Aside0.mk hq
      clear hq e
      generalize ascB s = r at HT ⊢
      go_enter Tryz.func84, Tryz.ntmps84
      go_wp2_with (first
        | (go_at_call 47; refine ((hwd.out) _).mono ?_; rintro e w1 ⟨V, rfl, hp, hb⟩; obtain ⟨g, cap, rfl, eg, hpc⟩ := hp; have HP := Aside0.mk (hpc w1 A c s (Stays.refl _) (HR.out.below hb) HHC.out hl); have B1 := Aside0.mk hb; clear hpc hb)
        | (go_at_fn g; refine (HP.out).mono ?_; rw [HQ.out]; rintro e w2 ⟨rfl, hb⟩; have B2 := Aside0.mk (btrans B1.out hb); clear hb)
        | (go_at_call 86; refine ((HT.out) _ B2.out).mono ?_; rintro e w3 ⟨rfl, hb⟩; have B3 := Aside0.mk (btrans B2.out hb); clear hb))
      go_ret
      exact ⟨rfl, B3.out⟩
  · rw [e, Bool.true_and]
    have hdd := Aside0.mk hd
    cases hq : wordsB 24 hi s with
    | false =>
      rw [Bool.false_and]
      have HQ := Aside0.mk hq
      clear hq e hd h2
      go_enter Tryz.func84, Tryz.ntmps84
      go_wp2_with (first
        | (go_at_call 40; refine (hcl.out).mono ?_; rintro e wa ⟨va, rfl, ho, hb⟩; have HOA := Aside0.mk ho; have BA := Aside0.mk hb; clear ho hb)
        | (go_at_call 85; refine (compact_calls va _ s wa HOA.out hl).mono ?_; rintro e wb ⟨A1, n1, c1, rfl, ht, hb⟩; rw [hdd.out] at ht; have BC := Aside0.mk (BA.out.trans hb); have C2b := (BC.out.cell (p := ⟨b, 0, none⟩) L2.out).trans C2.out; clear hb)
        | (go_at_call 47; refine ((hwd.out) _).mono ?_; rintro e w1 ⟨V, rfl, hp, hb⟩; obtain ⟨g, cap, rfl, eg, hpc⟩ := hp; have HP := Aside0.mk (hpc w1 A c s (Stays.refl _) (HR.out.below (btrans BC.out hb)) HHC.out hl); have B1 := Aside0.mk (btrans BC.out hb); clear hpc hb)
        | (go_at_fn g; refine (HP.out).mono ?_; rw [HQ.out]; rintro e w2 ⟨rfl, hb⟩; have B2 := Aside0.mk (btrans B1.out hb); clear hb))
      go_ret
      exact ⟨rfl, B2.out⟩
    | true =>
      rw [Bool.true_and]
      have HQ := Aside0.mk hq
      clear hq e hd h2
      generalize ascB s = r at HT ⊢
      go_enter Tryz.func84, Tryz.ntmps84
      go_wp2_with (first
        | (go_at_call 40; refine (hcl.out).mono ?_; rintro e wa ⟨va, rfl, ho, hb⟩; have HOA := Aside0.mk ho; have BA := Aside0.mk hb; clear ho hb)
        | (go_at_call 85; refine (compact_calls va _ s wa HOA.out hl).mono ?_; rintro e wb ⟨A1, n1, c1, rfl, ht, hb⟩; rw [hdd.out] at ht; have BC := Aside0.mk (BA.out.trans hb); have C2b := (BC.out.cell (p := ⟨b, 0, none⟩) L2.out).trans C2.out; clear hb)
        | (go_at_call 47; refine ((hwd.out) _).mono ?_; rintro e w1 ⟨V, rfl, hp, hb⟩; obtain ⟨g, cap, rfl, eg, hpc⟩ := hp; have HP := Aside0.mk (hpc w1 A c s (Stays.refl _) (HR.out.below (btrans BC.out hb)) HHC.out hl); have B1 := Aside0.mk (btrans BC.out hb); clear hpc hb)
        | (go_at_fn g; refine (HP.out).mono ?_; rw [HQ.out]; rintro e w2 ⟨rfl, hb⟩; have B2 := Aside0.mk (btrans B1.out hb); clear hb)
        | (go_at_call 86; refine ((HT.out) _ B2.out).mono ?_; rintro e w3 ⟨rfl, hb⟩; have B3 := Aside0.mk (btrans B2.out hb); clear hb))
      go_ret
      exact ⟨rfl, B3.out⟩
  · rw [e, Bool.false_and]
    have hdd := Aside0.mk hd
    clear e hd h2
    go_enter Tryz.func84, Tryz.ntmps84
    go_wp2_with (first
      | (go_at_call 40; refine (hcl.out).mono ?_; rintro e wa ⟨va, rfl, ho, hb⟩; have HOA := Aside0.mk ho; have BA := Aside0.mk hb; clear ho hb)
      | (go_at_call 85; refine (compact_calls va _ s wa HOA.out hl).mono ?_; rintro e wb ⟨A1, n1, c1, rfl, ht, hb⟩; rw [hdd.out] at ht; have BC := Aside0.mk (BA.out.trans hb); have C2b := (BC.out.cell (p := ⟨b, 0, none⟩) L2.out).trans C2.out; clear hb))
    go_ret
    exact ⟨rfl, BC.out⟩
theorem ascending_calls (hi : Int) (df : Bool) (w : World) : Calls Tryz.prog 56 #[.int .i64 hi, .bool df] w fun e w' => ∃ V, e = .returned V ∧ PredV w' V (ascendingB hi df) ∧ Below w.heap.size w w' := by
  obtain ⟨hb, c1, c2⟩ := two_boxes w (.int .i64 hi) (.bool df) 3 4
  have HB := Aside0.mk hb
  have C1 := Aside0.mk c1
  have C2 := Aside0.mk c2
  clear hb c1 c2
  go_enter Tryz.func56, Tryz.ntmps56
  go_wp2
  go_ret
  refine ⟨_, rfl, ⟨84, _, rfl, enters_of Tryz.func84 (by kernel_rfl) rfl, fun W A c s hW hr hc hl => ?_⟩, HB.out⟩
  exact ascending1_calls hi df (w.heap.size + 1) w.heap.size A c s W (one_cell (hW _ _ _ (by decide) (by decide) C2.out)) (one_cell (hW _ _ _ (by decide) (by decide) C1.out)) hr hc hl
end Go.Proofs.YtiialjmpfeopjaaGreat.Sp

namespace Go.Proofs.YtiialjmpfeopjaaGreat.Sp
open Go.RowKit Go.Sort Go.Proofs.YtiialjmpfeopjaaGreatW.PrintWords Go.Proofs.YtiialjmpfeopjaaGreatW.PrintLast Go.Proofs.YtiialjmpfeopjaaGreatW.PrintMore
set_option linter.unusedVariables false
set_option linter.unusedSimpArgs false
set_option maxHeartbeats 8000000
set_option maxRecDepth 100000
def leastB (s : List Int) (i : Nat) : Bool := decide (s.getD i 0 ≤ (i : Int)) && (s.getD (s.getD i 0).toNat 0 == s.getD i 0)
def unitedB (s : List Int) : Bool := exactlyB 8 0 7 s && (List.range s.length).all (leastB s)
def twinB (s : List Int) : Bool := decide (1 ≤ s.length) && decide (0 ≤ s.getD 0 0) && decide (s.getD 0 0 < s.length) && wordsB 24 900 (s.drop 1)
theorem inB_at {lo hi : Int} {s : List Int} (h : inB lo hi s = true) (j : Nat) (hj : j < s.length) : lo ≤ s.getD j 0 ∧ s.getD j 0 ≤ hi := by
  have := List.all_eq_true.1 h s[j] (List.getElem_mem hj)
  simp only [Bool.and_eq_true, decide_eq_true_eq] at this
  simpa [hj] using this
theorem united_calls (A : Option Addr) (c : Nat) (s : List Int) (w : World) (hr : Rd w A s) (hc : s.length ≤ c) (hl : s.length ≤ 17592186044416) :
    Calls Tryz.prog 67 #[.slice A s.length c] w fun e w' => e = .returned (.bool (unitedB s)) ∧ Below w.heap.size w w' := by
  have hex := Aside0.mk (exactly_calls 8 0 7 w)
  have HR := Aside0.mk hr
  have HC := Aside0.mk hc
  clear hr hc
  unfold unitedB
  cases hq : exactlyB 8 0 7 s with
  | false =>
    rw [Bool.false_and]
    have HQ := Aside0.mk hq
    clear hq
    go_enter Tryz.func67, Tryz.ntmps67
    go_wp2_with (first
      | (go_at_call 64; refine (hex.out).mono ?_; rintro e w1 ⟨V, rfl, hp, hb⟩; obtain ⟨g, cap, rfl, eg, hpc⟩ := hp; have HP := Aside0.mk (hpc w1 A c s (Stays.refl _) (HR.out.below hb) HC.out hl); have B1 := Aside0.mk hb; clear hpc hb)
      | (go_at_fn g; refine (HP.out).mono ?_; rw [HQ.out]; rintro e w2 ⟨rfl, hb⟩; have B2 := Aside0.mk (btrans B1.out hb); clear hb))
    go_ret
    exact ⟨rfl, B2.out⟩
  | true =>
    rw [Bool.true_and]
    have h8 : s.length = 8 ∧ inB 0 7 s = true := by
      unfold exactlyB at hq
      rw [Bool.and_eq_true, decide_eq_true_eq] at hq
      exact ⟨by omega, hq.2⟩
    have HIN := Aside0.mk (fun j hj => inB_at h8.2 j hj)
    have HL8 := Aside0.mk h8.1
    have HQ := Aside0.mk hq
    clear hq h8
    go_enter Tryz.func67, Tryz.ntmps67
    go_wp2_with (first
      | (go_at_call 64; refine (hex.out).mono ?_; rintro e w1 ⟨V, rfl, hp, hb⟩; obtain ⟨g, cap, rfl, eg, hpc⟩ := hp; have HP := Aside0.mk (hpc w1 A c s (Stays.refl _) (HR.out.below hb) HC.out hl); have B1 := Aside0.mk hb; clear hpc hb)
      | (go_at_fn g; refine (HP.out).mono ?_; rw [HQ.out]; rintro e w2 ⟨rfl, hb⟩; have B2 := Aside0.mk (btrans B1.out hb); clear hb))
    go_loopg [11] s.length (fun gg v11 wr => ∃ kk : Nat, kk ≤ s.length ∧ s.length - kk ≤ gg ∧ v11 = .int .i64 kk ∧ Aside0 (Below w.heap.size w wr) ∧ Aside0 (∀ j : Nat, j < kk → leastB s j = true))
    case atStart => exact ⟨0, Nat.zero_le _, by omega, rfl, B2, ⟨fun j hj => absurd hj (Nat.not_lt_zero _)⟩⟩
    case round =>
      clear B2
      obtain ⟨kk, hkk, hg, rfl, HB, B⟩ := hrel
      by_cases hlt : kk < s.length
      · obtain ⟨ad, rfl, hc1⟩ := (HR.out.below HB.out).at kk hlt
        obtain ⟨r1, r2⟩ := HIN.out kk hlt
        have h8 := HL8.out
        obtain ⟨y, hy⟩ : ∃ y, y = s.getD kk 0 := ⟨_, rfl⟩
        have hle : leastB s kk = (decide (y ≤ (kk : Int)) && (s.getD y.toNat 0 == y)) := by unfold leastB; rw [← hy]
        rw [← hy] at hc1 r1 r2
        have HLE := Aside0.mk hle
        obtain ⟨m, rfl⟩ := Int.eq_ofNat_of_zero_le r1
        have hml : m < s.length := by omega
        obtain ⟨ad2, e2, hc2⟩ := (HR.out.below HB.out).at m hml
        injection e2 with e2
        subst e2
        obtain ⟨z, hz⟩ : ∃ z, z = s.getD m 0 := ⟨_, rfl⟩
        rw [← hz] at hc2
        have HZ := Aside0.mk hz
        clear hy hle hz r1 r2 h8
        by_cases h1 : (m : Int) ≤ (kk : Int)
        · have hd1 : decide (kk < m) = false := decide_eq_false (by omega)
          cases hq : (z == (m : Int)) with
          | true =>
            have hne : (z != (m : Int)) = false := by rw [bne, hq]; rfl
            have HQ2 := Aside0.mk hq
            have H1 := Aside0.mk h1
            clear hq h1
            go_wp2
            go_roundg (s.length - (kk + 1))
            case measure => omega
            case rel =>
              refine ⟨kk + 1, by omega, by omega, by go_num, HB, ⟨fun j hj => ?_⟩⟩
              by_cases e : j = kk
              · subst e
                rw [HLE.out, Int.toNat_natCast, ← HZ.out, HQ2.out, decide_eq_true H1.out]; rfl
              · exact B.out j (by omega)
          | false =>
            have hne : (z != (m : Int)) = true := by rw [bne, hq]; rfl
            have HQ2 := Aside0.mk hq
            clear hq h1
            go_wp2
            go_ret
            have : ((List.range s.length).all (leastB s)) = false := by
              rw [Bool.eq_false_iff]
              intro h
              have := List.all_eq_true.1 h kk (List.mem_range.2 hlt)
              rw [HLE.out, Int.toNat_natCast, ← HZ.out, HQ2.out, Bool.and_false] at this
              exact absurd this (by decide)
            rw [this]
            exact ⟨rfl, HB.out⟩
        · have hd1 : decide (kk < m) = true := decide_eq_true (by omega)
          have H1 := Aside0.mk (show ¬ (m : Int) ≤ (kk : Int) from h1)
          clear h1
          go_wp2
          go_ret
          have : ((List.range s.length).all (leastB s)) = false := by
            rw [Bool.eq_false_iff]
            intro h
            have := List.all_eq_true.1 h kk (List.mem_range.2 hlt)
            rw [HLE.out, decide_eq_false (by have := H1.out; omega), Bool.false_and] at this
            exact absurd this (by decide)
          rw [this]
          exact ⟨rfl, HB.out⟩
      · go_wp2
        go_ret
        have : ((List.range s.length).all (leastB s)) = true := by
          rw [List.all_eq_true]
          intro j hj
          exact B.out j (by have := List.mem_range.1 hj; omega)
        rw [this]
        exact ⟨rfl, HB.out⟩
theorem rest_run (A : Option Addr) (c : Nat) (s : List Int) (j : Nat) (hj : j ≤ s.length) (hc : s.length ≤ c) :
    ∃ A' : Option Addr, (∀ W : World, (Instr.slice 22 (.slice A s.length c) (some (.int .i64 j)) none none).run Tryz.prog W = .ok (.slice A' (s.drop j).length (c - j)) W) ∧ (∀ w : World, Rd w A s → Rd w A' (s.drop j)) ∧ (s.drop j).length ≤ c - j := by
  obtain ⟨i0, hi, hz⟩ := Option.map_eq_some_iff.1 info_int
  simp only [Prod.mk.injEq] at hz
  refine ⟨if c = j then A else A.map (·.add (j * 1)), fun W => ?_, fun w h => Kd.C_drop (c := c) h hj hc, by rw [List.length_drop]; omega⟩
  have := cut_from 22 3 .i64 Tryz.underlying22 hi 1 hz.2.1 A s.length c (j : Int) (by omega) (by omega) W
  rw [Int.toNat_natCast] at this
  rw [this, List.length_drop]
theorem twin_calls (A : Option Addr) (c : Nat) (s : List Int) (w : World) (hr : Rd w A s) (hc : s.length ≤ c) (hl : s.length ≤ 17592186044416) :
    Calls Tryz.prog 72 #[.slice A s.length c] w fun e w' => e = .returned (.bool (twinB s)) ∧ Below w.heap.size w w' := by
  unfold twinB
  have HB0 := Aside0.mk (Below.refl w.heap.size w)
  by_cases h1 : 1 ≤ s.length
  · rw [decide_eq_true h1, Bool.true_and]
    obtain ⟨ad, rfl, hc0⟩ := hr.at 0 h1
    obtain ⟨x, hx⟩ : ∃ x, x = s.getD 0 0 := ⟨_, rfl⟩
    rw [← hx] at hc0 ⊢
    have ha : ad.add 0 = ad := by simp [Addr.add]
    rw [ha] at hc0
    by_cases h2 : 0 ≤ x
    · rw [decide_eq_true h2, Bool.true_and]
      by_cases h3 : x < (s.length : Int)
      · rw [decide_eq_true h3, Bool.true_and]
        obtain ⟨A', hrun, hrd, hdc⟩ := rest_run (some ad) c s 1 h1 hc
        replace hrun : ∀ W : World, (Instr.slice 22 (.slice (some ad) s.length c) (some (.int .i64 1)) none none).run Tryz.prog W = .ok (.slice A' (s.drop 1).length (c - 1)) W := hrun
        have hwd := Aside0.mk (words_calls 24 900)
        have HR := Aside0.mk hr
        have HRD := Aside0.mk hrd
        have HDC := Aside0.mk hdc
        have hdl : (s.drop 1).length ≤ 17592186044416 := by rw [List.length_drop]; omega
        have HDL := Aside0.mk hdl
        have g1 : decide (1 ≤ (s.length : Int)) = true := decide_eq_true (by omega)
        have g2 : decide (0 ≤ x) = true := decide_eq_true h2
        have g3 : decide (x < (s.length : Int)) = true := decide_eq_true h3
        clear hr hrd hdc hx ha hdl
        generalize s.drop 1 = d at *
        generalize hq : wordsB 24 900 d = q
        have HQ := Aside0.mk hq
        clear hq
        go_enter Tryz.func72, Tryz.ntmps72
        go_wp2
        go_region_with (first
          | (go_at_call 47; refine ((hwd.out) _).mono ?_; rintro e w1 ⟨V, rfl, hp, hb⟩; obtain ⟨g, cap, rfl, eg, hpc⟩ := hp; have HPC := Aside0.mk hpc; have B1 := Aside0.mk (show Below w.heap.size w w1 from (pw_below_drewN (Below.refl _ _) _).trans hb); clear hpc hb)
          | (go_at_fn g; refine (HPC.out _ A' (c - 1) d (Stays.of (by repeat (first | exact Below.refl _ _ | apply pw_below_drewN | apply below_drew1))) (HRD.out _ (HR.out.below (by repeat (first | exact B1.out | apply pw_below_drewN | apply below_drew1)))) HDC.out HDL.out).mono ?_; rw [HQ.out]; rintro e w2 ⟨rfl, hb⟩; have B2 := Aside0.mk (show Below w.heap.size w w2 from btrans B1.out hb); clear hb))
        all_goals go_wp2
        all_goals go_ret
        all_goals exact ⟨rfl, by repeat (first | exact B2.out | apply pw_below_drewN | apply below_drew1)⟩
      · have g1 : decide (1 ≤ (s.length : Int)) = true := decide_eq_true (by omega)
        have g2 : decide (0 ≤ x) = true := decide_eq_true h2
        have g3 : decide (x < (s.length : Int)) = false := decide_eq_false h3
        rw [decide_eq_false h3]
        clear hr hx ha
        go_enter Tryz.func72, Tryz.ntmps72
        go_wp2
        go_quiet (fail)
        all_goals go_wp2
        all_goals go_ret
        all_goals exact ⟨rfl, by repeat (first | exact HB0.out | apply pw_below_drewN | apply below_drew1)⟩
    · have g1 : decide (1 ≤ (s.length : Int)) = true := decide_eq_true (by omega)
      have g2 : decide (0 ≤ x) = false := decide_eq_false h2
      rw [decide_eq_false h2]
      clear hr hx ha
      go_enter Tryz.func72, Tryz.ntmps72
      go_wp2
      go_quiet (fail)
      all_goals go_wp2
      all_goals go_ret
      all_goals exact ⟨rfl, by repeat (first | exact HB0.out | apply pw_below_drewN | apply below_drew1)⟩
  · have g1 : decide (1 ≤ (s.length : Int)) = false := decide_eq_false (by omega)
    rw [decide_eq_false h1]
    clear hr
    go_enter Tryz.func72, Tryz.ntmps72
    go_wp2
    go_quiet (fail)
    all_goals go_wp2
    all_goals go_ret
    all_goals exact ⟨rfl, by repeat (first | exact HB0.out | apply pw_below_drewN | apply below_drew1)⟩
end Go.Proofs.YtiialjmpfeopjaaGreat.Sp

namespace Go.Proofs.YtiialjmpfeopjaaGreat.Sp
open Go.RowKit Go.Sort Go.Proofs.YtiialjmpfeopjaaGreatW.PrintWords Go.Proofs.YtiialjmpfeopjaaGreatW.PrintLast Go.Proofs.YtiialjmpfeopjaaGreatW.PrintMore
set_option linter.unusedVariables false
set_option linter.unusedSimpArgs false
set_option maxHeartbeats 8000000
set_option maxRecDepth 100000
abbrev Eff := Int × List Int
/-- An effect: a result, and the state behind it. -/
def kE : Kd Eff := Kd.pair (Kd.int .i64) (Kd.slice 3 (Kd.int .i64))
/-- A list of effects that the call owns. -/
def Effs (w : World) (base : Nat) (v : Value) (l : List Eff) : Prop := kE.R 72 w base (fun _ => True) v l
theorem Effs.below {w w1 : World} {base : Nat} {v : Value} {l : List Eff} (h : Effs w base v l) (hb : Below w.heap.size w w1) : Effs w1 base v l := Kd.R_below h hb
theorem Effs.lower {w : World} {base base' : Nat} {v : Value} {l : List Eff} (h : Effs w base v l) (hb : base' ≤ base) : Effs w base' v l := Kd.R_lower h hb
/-- The function values that an act holds: what they do in each later world, with a list of the call's own. -/
def Into (w : World) (V : Value) (pre : List Int → Int → Prop) (F : List Int → Int → List Int) : Prop := ∃ g cap, V = .func (.func g) #[] cap ∧ (∀ args w, (callFunc g args).run Tryz.prog w = .ok (.enter g args) w) ∧
  ∀ (W : World) (base : Nat) (v : Value) (s : List Int) (x : Int), Stays w W → w.heap.size ≤ base → base ≤ W.heap.size → Own W base v s → s.length ≤ 1000 → pre s x →
    Calls Tryz.prog g (#[v, .int .i64 x] ++ cap) W fun e W' => ∃ v', e = .returned v' ∧ Own W' base v' (F s x) ∧ Below base W W'
def Meas (w : World) (V : Value) (pre : List Int → Prop) (F : List Int → Int) : Prop := ∃ g cap, V = .func (.func g) #[] cap ∧ (∀ args w, (callFunc g args).run Tryz.prog w = .ok (.enter g args) w) ∧
  ∀ (W : World) (base : Nat) (v : Value) (s : List Int), Stays w W → w.heap.size ≤ base → base ≤ W.heap.size → Own W base v s → s.length ≤ 1000 → pre s →
    Calls Tryz.prog g (#[v] ++ cap) W fun e W' => e = .returned (.int .i64 (F s)) ∧ Below W.heap.size W W'
abbrev Deed := List Int → Int → Int → Int → List Eff
def DoV (w : World) (V : Value) (pre : List Int → Int → Int → Int → Prop) (D : Deed) : Prop := ∃ g cap, V = .func (.func g) #[] cap ∧ (∀ args w, (callFunc g args).run Tryz.prog w = .ok (.enter g args) w) ∧
  ∀ (W : World) (base : Nat) (v : Value) (s : List Int) (op : ByteArray) (x y t : Int), Stays w W → w.heap.size ≤ base → base ≤ W.heap.size → Own W base v s → s.length ≤ 1000 → pre s x y t →
    Calls Tryz.prog g (#[v, .agg #[.string op, .int .i64 x, .int .i64 y], .int .i64 t] ++ cap) W fun e W' => ∃ v', e = .returned v' ∧ Effs W' base v' (D s x y t) ∧ Below base W W'
theorem Into.mono {w w1 : World} {V : Value} {pre : List Int → Int → Prop} {F : List Int → Int → List Int} (h : Into w V pre F) (hb : Stays w w1) (hz : w.heap.size ≤ w1.heap.size) : Into w1 V pre F := by
  obtain ⟨g, cap, e, eg, hc⟩ := h
  exact ⟨g, cap, e, eg, fun W base v s x hW h1 => hc W base v s x (hb.trans hW) (Nat.le_trans hz h1)⟩
theorem Meas.mono {w w1 : World} {V : Value} {pre : List Int → Prop} {F : List Int → Int} (h : Meas w V pre F) (hb : Stays w w1) (hz : w.heap.size ≤ w1.heap.size) : Meas w1 V pre F := by
  obtain ⟨g, cap, e, eg, hc⟩ := h
  exact ⟨g, cap, e, eg, fun W base v s hW h1 => hc W base v s (hb.trans hW) (Nat.le_trans hz h1)⟩
theorem DoV.mono {w w1 : World} {V : Value} {pre : List Int → Int → Int → Int → Prop} {D : Deed} (h : DoV w V pre D) (hb : Stays w w1) (hz : w.heap.size ≤ w1.heap.size) : DoV w1 V pre D := by
  obtain ⟨g, cap, e, eg, hc⟩ := h
  exact ⟨g, cap, e, eg, fun W base v s op x y t hW h1 => hc W base v s op x y t (hb.trans hW) (Nat.le_trans hz h1)⟩
theorem DoV.weaken {w : World} {V : Value} {pre pre' : List Int → Int → Int → Int → Prop} {D D' : Deed} (h : DoV w V pre D) (hp : ∀ s x y t, pre' s x y t → pre s x y t) (hd : ∀ s x y t, pre' s x y t → D s x y t = D' s x y t) : DoV w V pre' D' := by
  obtain ⟨g, cap, e, eg, hc⟩ := h
  refine ⟨g, cap, e, eg, fun W base v s op x y t hW h1 h2 h3 h4 h5 => ?_⟩
  rw [← hd s x y t h5]
  exact hc W base v s op x y t hW h1 h2 h3 h4 (hp _ _ _ _ h5)
/-- An act: its name, the ranges of its arguments, how many threads may do it, whether it only reads, when it may be done, and what it does. -/
structure ActS where
  name : ByteArray
  args : Int
  lo : Int
  hi : Int
  thr : Int
  rd : Bool
  pre : List Int → Int → Int → Int → Prop
  D : Deed
def ActV (w : World) (v : Value) (a : ActS) : Prop := ∃ V, v = .agg #[.string a.name, .int .i64 a.args, .int .i64 a.lo, .int .i64 a.hi, .int .i64 a.thr, .bool a.rd, V] ∧ DoV w V a.pre a.D
theorem ActV.mono {w w1 : World} {v : Value} {a : ActS} (h : ActV w v a) (hb : Stays w w1) (hz : w.heap.size ≤ w1.heap.size) : ActV w1 v a := by
  obtain ⟨V, e, hd⟩ := h
  exact ⟨V, e, hd.mono hb hz⟩
/-- One effect, laid. -/
theorem effs_one {w : World} {base : Nat} {v : Value} {s : List Int} (r : Int) (h : Own w base v s) (hb : base ≤ w.heap.size) : Effs (w.alloc (.cells #[.int .i64 r, v] 72 (0, 0))) base (.slice (some ⟨w.heap.size, 0, none⟩) 1 1) [(r, s)] := by
  refine ⟨fun _ _ => trivial, ?_⟩
  have hm : kE.M (w.alloc (.cells #[.int .i64 r, v] 72 (0, 0))) base (fun k => True ∧ some k ≠ (Value.slice (some ⟨w.heap.size, 0, none⟩) 1 1).ownBlock) (r, s) [.int .i64 r, v] := by
    refine ⟨[.int .i64 r], [v], rfl, rfl, v, rfl, ?_⟩
    have h2 := Kd.R_below h.R ((Below.refl w.heap.size w).alloc (Nat.le_refl _) (.cells #[.int .i64 r, v] 72 (0, 0)))
    have hh := Kd.R_bound h.R
    refine Kd.R_mono (Kd.R_below hh ((Below.refl w.heap.size w).alloc (Nat.le_refl _) (.cells #[.int .i64 r, v] 72 (0, 0)))) (fun k hk => ⟨trivial, fun e => ?_⟩)
    have : k = w.heap.size := by simpa [Value.ownBlock] using e
    have := hk.2.2.1
    omega
  exact OwnRow.lit w base (inner := [.int .i64 r, v]) (Reps.front hm rfl (Reps.none _ _) rfl) hb (by simp)
theorem one_calls (r : Int) (v : Value) (base : Nat) (s : List Int) (w : World) (h : Own w base v s) (hb : base ≤ w.heap.size) :
    Calls Tryz.prog 78 #[.int .i64 r, v] w fun e w' => ∃ v', e = .returned v' ∧ Effs w' base v' [(r, s)] ∧ Below w.heap.size w w' := by
  have HE := Aside0.mk (effs_one r h hb)
  have HB := Aside0.mk ((Below.refl w.heap.size w).alloc (Nat.le_refl _) (.cells #[.int .i64 r, v] 72 (0, 0)))
  obtain ⟨A, c, rfl⟩ := h.slice
  clear h
  go_enter Tryz.func78, Tryz.ntmps78
  go_wp2
  go_ret
  exact ⟨_, rfl, HE.out, HB.out⟩
theorem behind_calls (v : Value) (base : Nat) (s : List Int) (x : Int) (w : World) (h : Own w base v s) (hb : base ≤ w.heap.size) (hl : s.length ≤ 100000) :
    Calls Tryz.prog 49 #[v, .int .i64 x] w fun e w' => ∃ v', e = .returned v' ∧ Own w' base v' (s ++ [x]) ∧ Below base w w' := by
  have HO := Aside0.mk h.R
  obtain ⟨A, c, rfl⟩ := h.slice
  clear h
  go_enter Tryz.func49, Tryz.ntmps49
  go_wp2_with ((with_reducible refine gate_builtin (b := .append) (xs := #[.tmp 5, .tmp 7]) rfl ?_); at_builtin; refine Kd.R_append (Kd.int .i64) (w0 := w) base rfl (.tmp 5) (.tmp 7) 22 3 (.int .i64 0) 8 rfl Tryz.underlying22 info_int rfl (by decide) (by omega) _ s x [.int .i64 x] (fun _ => True) (fun _ => False) rfl rfl ?aP (fun _ hk => hk.elim) (fun _ _ => trivial) HO.out (Below.refl _ _) hb (by omega) ?_; (case aP => exact rfl); intro v1 wn ho hb hg hat; have HN := Aside0.mk ho; have HB := Aside0.mk hb; clear ho hb hg hat)
  go_ret
  exact ⟨_, rfl, .of_R HN.out, HB.out⟩
def insL (s : List Int) (x : Int) : List Int := s.take (s.countP (· < x)) ++ x :: s.drop (s.countP (· < x))
theorem sortedI_calls (v : Value) (base : Nat) (s : List Int) (x : Int) (w : World) (h : Own w base v s) (hb : base ≤ w.heap.size) (hl : s.length ≤ 100000) (hs : s.Pairwise (· ≤ ·)) :
    Calls Tryz.prog 55 #[v, .int .i64 x] w fun e w' => ∃ v', e = .returned v' ∧ Own w' base v' (insL s x) ∧ Below base w w' := by
  have hse := Aside0.mk (search_calls v base s x w h hs (by omega))
  have hcn : s.countP (· < x) ≤ s.length := List.countP_le_length
  have hin := Aside0.mk (fun W (hW : Below w.heap.size w W) => insert_calls v base W.heap.size s (s.countP (· < x)) x (W.alloc (.cells #[.int .i64 x] 3 (0, 0))) ((h.below hW).below ((Below.refl _ _).alloc (Nat.le_refl _) _)) (Nat.le_trans hb (Nat.le_trans hW.size (by rw [alloc_size]; omega))) hcn (heap_alloc_new _ _) (fun e => by have := h.lt _ e; have := hW.size; omega) (by omega))
  obtain ⟨A, c, rfl⟩ := h.slice
  unfold insL
  generalize s.countP (· < x) = i at *
  generalize s.contains x = q at *
  clear h hs hcn
  go_enter Tryz.func55, Tryz.ntmps55
  go_wp2_with (first
    | (go_at_call 82; refine (hse.out).mono ?_; rintro e w1 ⟨rfl, n1, rfl⟩)
    | (go_at_call 83; refine (hin.out _ (by repeat (first | exact Below.refl _ _ | apply pw_below_drewN))).mono ?_; rintro e w2 ⟨v2, rfl, ho, hb2⟩; have HN := Aside0.mk ho; have HB := Aside0.mk (show Below base w w2 from ((pw_below_drewN (Below.refl base w) _).alloc hb _).trans hb2); clear ho hb2))
  go_ret
  exact ⟨_, rfl, HN.out, HB.out⟩
end Go.Proofs.YtiialjmpfeopjaaGreat.Sp

namespace Go.Proofs.YtiialjmpfeopjaaGreat.Sp
open Go.RowKit Go.Sort Go.Proofs.YtiialjmpfeopjaaGreatW.PrintWords Go.Proofs.YtiialjmpfeopjaaGreatW.PrintLast Go.Proofs.YtiialjmpfeopjaaGreatW.PrintMore
set_option linter.unusedVariables false
set_option linter.unusedSimpArgs false
set_option maxHeartbeats 8000000
set_option maxRecDepth 100000
def putD (F : List Int → Int → List Int) : Deed := fun s x _ _ => [(0, F s x)]
def ofInto (pre : List Int → Int → Prop) : List Int → Int → Int → Int → Prop := fun s x _ _ => pre s x
/-- A box with a function value. -/
theorem into_at {w w1 : World} {g : Nat} {cap : Array Value} {t : TypeId} {b : Nat} (h : w.heap[b]? = some (.cells #[.func (.func g) #[] cap] t (0, 0))) (hb : Stays w w1) (h1 : t ≠ 87) (h2 : t ≠ 67) : w1.cell? ⟨b, 0, none⟩ = some (.func (.func g) #[] cap) := one_cell (hb _ _ _ h1 h2 h)
theorem put1_calls {w : World} {V : Value} {pre : List Int → Int → Prop} {F : List Int → Int → List Int} (hI : Into w V pre F) {b : Nat} (hbox : w.heap[b]? = some (.cells #[V] 76 (0, 0))) : DoV w (.func (.func 77) #[] #[.pointer (some ⟨b, 0, none⟩)]) (ofInto pre) (putD F) := by
  refine ⟨77, _, rfl, enters_of Tryz.func77 (by kernel_rfl) rfl, fun W base v s op x y t hW hb1 hb2 ho hl hp => ?_⟩
  obtain ⟨g, cap, rfl, eg, hc⟩ := hI
  have ba := (Below.refl W.heap.size W).alloc (Nat.le_refl _) (.cells #[.string op, .int .i64 x, .int .i64 y] 24 (0, 0))
  have hcall := Aside0.mk (hc (W.alloc (.cells #[.string op, .int .i64 x, .int .i64 y] 24 (0, 0))) base v s x (hW.trans (Stays.of ba)) hb1 (Nat.le_trans hb2 ba.size) (ho.below ba) hl hp)
  have cb := into_at hbox (hW.trans (Stays.of ba)) (by decide) (by decide)
  have BA := Aside0.mk ba
  obtain ⟨A, c, rfl⟩ := ho.slice
  clear hc hbox hW ho hp ba
  show Calls _ _ _ _ fun e W' => ∃ v', e = .returned v' ∧ Effs W' base v' [(0, F s x)] ∧ Below base W W'
  go_enter Tryz.func77, Tryz.ntmps77
  go_wp2_with (first
    | (go_at_fn g; refine (hcall.out).mono ?_; rintro e w1 ⟨v1, rfl, ho1, hb⟩; obtain ⟨A1, c1, rfl⟩ := ho1.slice; have HO := Aside0.mk ho1; have B1 := Aside0.mk (show Below base W w1 from (BA.out.mono hb2).trans hb); clear ho1 hb)
    | (go_at_call 78; refine (one_calls 0 _ base _ _ HO.out (Nat.le_trans hb2 B1.out.size)).mono ?_; rintro e w2 ⟨v2, rfl, he, hb⟩; have HE := Aside0.mk he; have B2 := Aside0.mk (B1.out.trans (hb.mono (Nat.le_trans hb2 B1.out.size))); clear he hb))
  go_ret
  exact ⟨_, rfl, HE.out, B2.out⟩
theorem put_calls (nm : ByteArray) (hi : Int) (V : Value) (pre : List Int → Int → Prop) (F : List Int → Int → List Int) (w : World) (hI : Into w V pre F) :
    Calls Tryz.prog 48 #[.string nm, .int .i64 hi, V] w fun e w' => ∃ v, e = .returned v ∧ ActV w' v ⟨nm, 1, 0, hi, 4, false, ofInto pre, putD F⟩ ∧ Below w.heap.size w w' := by
  have b1 := (Below.refl w.heap.size w).alloc (Nat.le_refl _) (.cells #[V] 76 (0, 0))
  have n1 := heap_alloc_new w (.cells #[V] 76 (0, 0))
  have hd := put1_calls (hI.mono (Stays.of b1) b1.size) n1
  have HD := Aside0.mk hd
  have B1 := Aside0.mk b1
  obtain ⟨g, cap, rfl, eg, hc⟩ := hI
  clear b1 n1 hd hc
  go_enter Tryz.func48, Tryz.ntmps48
  go_wp2
  refine bodyPost_ret (v := .agg #[.string nm, .int .i64 1, .int .i64 0, .int .i64 hi, .int .i64 4, .bool false, .func (.func 77) #[] #[.pointer (some ⟨w.heap.size, 0, none⟩)]]) (by simp [results, Tryz.results48, go_sem]) rfl ⟨_, rfl, ⟨_, rfl, HD.out.mono (Stays.of ((Below.refl _ _).alloc (Nat.le_refl _) _)) (by simp only [alloc_size]; omega)⟩, B1.out.alloc B1.out.size _⟩
def takeD (P : List Int → Int) : Deed := fun s _ _ _ => if s = [] then [(-1, [])] else [(s.getD (P s).toNat 0, s.eraseIdx (P s).toNat)]
theorem take1_calls {w : World} {V : Value} {P : List Int → Int} (hM : Meas w V (fun s => s ≠ []) P) (hP : ∀ s, s ≠ [] → 0 ≤ P s ∧ P s < s.length) {b : Nat} (hbox : w.heap[b]? = some (.cells #[V] 98 (0, 0))) :
    DoV w (.func (.func 79) #[] #[.pointer (some ⟨b, 0, none⟩)]) (fun _ _ _ _ => True) (takeD P) := by
  refine ⟨79, _, rfl, enters_of Tryz.func79 (by kernel_rfl) rfl, fun W base v s op x y t hW hb1 hb2 ho hl hp => ?_⟩
  obtain ⟨g, cap, rfl, eg, hc⟩ := hM
  have ba := (Below.refl W.heap.size W).alloc (Nat.le_refl _) (.cells #[.string op, .int .i64 x, .int .i64 y] 24 (0, 0))
  by_cases hz : s = []
  · have e : takeD P s x y t = [(-1, [])] := by unfold takeD; rw [if_pos hz]
    rw [e]
    subst hz
    obtain ⟨A, c, rfl⟩ := ho.slice
    have BA := Aside0.mk ba
    have h0 : (([] : List Int).length : Int) = 0 := rfl
    clear hc hbox hW ho hp ba e
    go_enter Tryz.func79, Tryz.ntmps79
    go_wp2_with (go_at_call 78; refine (one_calls (-1) _ base [] _ (own_none _ _) (Nat.le_trans hb2 BA.out.size)).mono ?_; rintro e w2 ⟨v2, rfl, he, hb⟩; have HE := Aside0.mk he; have B2 := Aside0.mk ((BA.out.mono hb2).trans (hb.mono (Nat.le_trans hb2 BA.out.size))); clear he hb)
    go_ret
    exact ⟨_, rfl, HE.out, B2.out⟩
  · have e : takeD P s x y t = [(s.getD (P s).toNat 0, s.eraseIdx (P s).toNat)] := by unfold takeD; rw [if_neg hz]
    rw [e]
    obtain ⟨hp1, hp2⟩ := hP s hz
    have hcall := hc (W.alloc (.cells #[.string op, .int .i64 x, .int .i64 y] 24 (0, 0))) base v s (hW.trans (Stays.of ba)) hb1 (Nat.le_trans hb2 ba.size) (ho.below ba) hl hz
    obtain ⟨k, hk⟩ := Int.eq_ofNat_of_zero_le hp1
    rw [hk] at hcall hp2 ⊢
    rw [Int.toNat_natCast]
    have hkl : k < s.length := by omega
    have HC := Aside0.mk hcall
    have cb := into_at hbox (hW.trans (Stays.of ba)) (by decide) (by decide)
    have BA := Aside0.mk ba
    have HO := Aside0.mk ho
    have hz0 : ((s.length : Int) == 0) = false := by
      have : 0 < s.length := by omega
      simp; omega
    rcases ho.parts with ⟨_, e2⟩ | ⟨bv, cp, cur, rfl, h1, h2, h3, h4, h5, h6⟩
    · exact absurd e2 hz
    · have ck := row_cell h2 h6 k hkl
      have CK := Aside0.mk ck
      have LK := Aside0.mk (blk_lt h2)
      have hwr : IntKind.i64.wrap ((k : Int) + 1) = (k : Int) + 1 := IntWalk.i64_in _ (by omega)
      have hwr0 : 0 ≤ (k : Int) := by omega
      generalize s.getD k 0 = xk at *
      clear hc hcall hbox hW ho hp ba e hz hp1 hp2 hk h1 h2 h3 h4 h5 h6 ck
      go_enter Tryz.func79, Tryz.ntmps79
      go_wp2_with (go_at_fn g; refine (HC.out).mono ?_; rintro e w1 ⟨rfl, hb⟩; have B1 := Aside0.mk (btrans BA.out hb); have ck1 : w1.cell? ⟨bv, k, none⟩ = some (.int .i64 xk) := (B1.out.cell (p := ⟨bv, k, none⟩) LK.out).trans CK.out; clear hb)
      have hl2 : s.length ≤ 1000000 := by omega
      have hWb : base ≤ w1.heap.size := Nat.le_trans hb2 B1.out.size
      go_region_with (first
        | (go_at_call 40; refine (clone_calls (some ⟨bv, 0, none⟩) cp s _ (HO.out.rd.below (by repeat (first | exact B1.out | apply pw_below_drewN | apply below_drew1))) hl2).mono ?_; rintro e w2 ⟨v2, rfl, ho2, hb⟩; have HO2 := Aside0.mk (show Own w2 w1.heap.size v2 s from ho2); have B2 := Aside0.mk (show Below W.heap.size W w2 from btrans (by repeat (first | exact B1.out | apply pw_below_drewN | apply below_drew1)) hb); have ck2 : w2.cell? ⟨bv, k, none⟩ = some (.int .i64 xk) := (B2.out.cell (p := ⟨bv, k, none⟩) LK.out).trans CK.out; obtain ⟨A2, c2, rfl⟩ := ho2.slice; clear ho2 hb)
        | (go_at_call 80; refine (delete_callsI _ w1.heap.size s k _ (HO2.out.below (by repeat (first | exact Below.refl _ _ | apply pw_below_drewN | apply below_drew1))) hkl).mono ?_; rintro e w3 ⟨v3, rfl, ho3, hb⟩; have HO3 := Aside0.mk (ho3.lower hWb); have B3 := Aside0.mk (show Below W.heap.size W w3 from Below.trans (by repeat (first | exact B2.out | apply pw_below_drewN | apply below_drew1)) (hb.mono B1.out.size)); have ck3 : w3.cell? ⟨bv, k, none⟩ = some (.int .i64 xk) := (B3.out.cell (p := ⟨bv, k, none⟩) LK.out).trans CK.out; obtain ⟨A3, c3, rfl⟩ := ho3.slice; clear ho3 hb)
        | (go_at_call 78; refine (one_calls xk _ base _ _ (HO3.out.below (by repeat (first | exact Below.refl _ _ | apply pw_below_drewN | apply below_drew1))) (Nat.le_trans hb2 B3.out.size)).mono ?_; rintro e w4 ⟨v4, rfl, he, hb⟩; have HE := Aside0.mk he; have B4 := Aside0.mk (show Below base W w4 from Below.trans (Below.mono (by repeat (first | exact B3.out | apply pw_below_drewN | apply below_drew1)) hb2) (hb.mono (Nat.le_trans hb2 B3.out.size))); clear he hb))
      all_goals go_wp2
      all_goals go_ret
      all_goals exact ⟨_, rfl, Effs.below HE.out (by repeat (first | exact Below.refl _ _ | apply pw_below_drewN | apply below_drew1)), by repeat (first | exact B4.out | apply pw_below_drewN | apply below_drew1)⟩
theorem take_calls (nm : ByteArray) (V : Value) (P : List Int → Int) (w : World) (hM : Meas w V (fun s => s ≠ []) P) (hP : ∀ s, s ≠ [] → 0 ≤ P s ∧ P s < s.length) :
    Calls Tryz.prog 50 #[.string nm, V] w fun e w' => ∃ v, e = .returned v ∧ ActV w' v ⟨nm, 0, 0, 0, 4, false, fun _ _ _ _ => True, takeD P⟩ ∧ Below w.heap.size w w' := by
  have b1 := (Below.refl w.heap.size w).alloc (Nat.le_refl _) (.cells #[V] 98 (0, 0))
  have n1 := heap_alloc_new w (.cells #[V] 98 (0, 0))
  have hd := take1_calls (hM.mono (Stays.of b1) b1.size) hP n1
  have HD := Aside0.mk hd
  have B1 := Aside0.mk b1
  obtain ⟨g, cap, rfl, eg, hc⟩ := hM
  clear b1 n1 hd hc
  go_enter Tryz.func50, Tryz.ntmps50
  go_wp2
  refine bodyPost_ret (v := .agg #[.string nm, .int .i64 0, .int .i64 0, .int .i64 0, .int .i64 4, .bool false, .func (.func 79) #[] #[.pointer (some ⟨w.heap.size, 0, none⟩)]]) (by simp [results, Tryz.results50, go_sem]) rfl ⟨_, rfl, ⟨_, rfl, HD.out.mono (Stays.of ((Below.refl _ _).alloc (Nat.le_refl _) _)) (by simp only [alloc_size]; omega)⟩, B1.out.alloc B1.out.size _⟩
def tellD (M : List Int → Int) : Deed := fun s _ _ _ => [(M s, s)]
theorem tell1_calls {w : World} {V : Value} {pre : List Int → Prop} {M : List Int → Int} (hM : Meas w V pre M) {b : Nat} (hbox : w.heap[b]? = some (.cells #[V] 98 (0, 0))) :
    DoV w (.func (.func 93) #[] #[.pointer (some ⟨b, 0, none⟩)]) (fun s _ _ _ => pre s) (tellD M) := by
  refine ⟨93, _, rfl, enters_of Tryz.func93 (by kernel_rfl) rfl, fun W base v s op x y t hW hb1 hb2 ho hl hp => ?_⟩
  obtain ⟨g, cap, rfl, eg, hc⟩ := hM
  have ba := (Below.refl W.heap.size W).alloc (Nat.le_refl _) (.cells #[.string op, .int .i64 x, .int .i64 y] 24 (0, 0))
  have hcall := Aside0.mk (hc (W.alloc (.cells #[.string op, .int .i64 x, .int .i64 y] 24 (0, 0))) base v s (hW.trans (Stays.of ba)) hb1 (Nat.le_trans hb2 ba.size) (ho.below ba) hl hp)
  have cb := into_at hbox (hW.trans (Stays.of ba)) (by decide) (by decide)
  have BA := Aside0.mk ba
  have HO := Aside0.mk ho
  obtain ⟨A, c, rfl⟩ := ho.slice
  unfold tellD
  generalize M s = r at *
  clear hc hbox hW ho hp ba
  go_enter Tryz.func93, Tryz.ntmps93
  go_wp2_with (first
    | (go_at_fn g; refine (hcall.out).mono ?_; rintro e w1 ⟨rfl, hb⟩; have B1 := Aside0.mk (btrans BA.out hb); clear hb)
    | (go_at_call 78; refine (one_calls r _ base s _ (HO.out.below B1.out) (Nat.le_trans hb2 B1.out.size)).mono ?_; rintro e w2 ⟨v2, rfl, he, hb⟩; have HE := Aside0.mk he; have B2 := Aside0.mk ((B1.out.mono hb2).trans (hb.mono (Nat.le_trans hb2 B1.out.size))); clear he hb))
  go_ret
  exact ⟨_, rfl, HE.out, B2.out⟩
theorem tell_calls (nm : ByteArray) (V : Value) (pre : List Int → Prop) (M : List Int → Int) (w : World) (hM : Meas w V pre M) :
    Calls Tryz.prog 59 #[.string nm, V] w fun e w' => ∃ v, e = .returned v ∧ ActV w' v ⟨nm, 0, 0, 0, 4, true, fun s _ _ _ => pre s, tellD M⟩ ∧ Below w.heap.size w w' := by
  have b1 := (Below.refl w.heap.size w).alloc (Nat.le_refl _) (.cells #[V] 98 (0, 0))
  have n1 := heap_alloc_new w (.cells #[V] 98 (0, 0))
  have hd := tell1_calls (hM.mono (Stays.of b1) b1.size) n1
  have HD := Aside0.mk hd
  have B1 := Aside0.mk b1
  obtain ⟨g, cap, rfl, eg, hc⟩ := hM
  clear b1 n1 hd hc
  go_enter Tryz.func59, Tryz.ntmps59
  go_wp2
  refine bodyPost_ret (v := .agg #[.string nm, .int .i64 0, .int .i64 0, .int .i64 0, .int .i64 4, .bool true, .func (.func 93) #[] #[.pointer (some ⟨w.heap.size, 0, none⟩)]]) (by simp [results, Tryz.results59, go_sem]) rfl ⟨_, rfl, ⟨_, rfl, HD.out.mono (Stays.of ((Below.refl _ _).alloc (Nat.le_refl _) _)) (by simp only [alloc_size]; omega)⟩, B1.out.alloc B1.out.size _⟩
theorem by_calls (n : Int) (v : Value) (a : ActS) (w : World) (hA : ActV w v a) :
    Calls Tryz.prog 54 #[.int .i64 n, v] w fun e w' => ∃ v', e = .returned v' ∧ ActV w' v' { a with thr := n } ∧ Below w.heap.size w w' := by
  obtain ⟨V, rfl, hd⟩ := hA
  have HD := Aside0.mk hd
  obtain ⟨g, cap, rfl, eg, hc⟩ := hd
  clear hc
  obtain ⟨nm, ar, lo, hi, th, rd, pre, D⟩ := a
  simp only at HD ⊢
  go_enter Tryz.func54, Tryz.ntmps54
  go_wp2
  refine bodyPost_ret (v := .agg #[.string nm, .int .i64 ar, .int .i64 lo, .int .i64 hi, .int .i64 n, .bool rd, .func (.func g) #[] cap]) (by simp [results, Tryz.results54, go_sem]) rfl ?_
  have hb := ((Below.refl w.heap.size w).alloc (Nat.le_refl _) (.cells #[.string nm, .int .i64 ar, .int .i64 lo, .int .i64 hi, .int .i64 n, .bool rd, .func (.func g) #[] cap] 87 (0, 0)))
  have hb2 := hb.alloc hb.size (.cells #[.string nm, .int .i64 ar, .int .i64 lo, .int .i64 hi, .int .i64 n, .bool rd, .func (.func g) #[] cap] 87 (0, 0))
  exact ⟨_, rfl, ⟨_, rfl, HD.out.mono (Stays.of hb2) hb2.size⟩, hb2⟩
def limD (n : Int) (D : Deed) : Deed := fun s x y t => if (s.length : Int) = n then [(-2, s)] else D s x y t
theorem limited1_calls {w : World} {V : Value} {pre : List Int → Int → Int → Int → Prop} {D : Deed} (n : Int) (hD : DoV w V pre D) {a b : Nat} (hn : w.heap[a]? = some (.cells #[.int .i64 n] 3 (0, 0))) (hbox : w.heap[b]? = some (.cells #[V] 85 (0, 0))) :
    DoV w (.func (.func 81) #[] #[.pointer (some ⟨a, 0, none⟩), .pointer (some ⟨b, 0, none⟩)]) pre (limD n D) := by
  refine ⟨81, _, rfl, enters_of Tryz.func81 (by kernel_rfl) rfl, fun W base v s op x y t hW hb1 hb2 ho hl hp => ?_⟩
  obtain ⟨g, cap, rfl, eg, hc⟩ := hD
  have ba := (Below.refl W.heap.size W).alloc (Nat.le_refl _) (.cells #[.string op, .int .i64 x, .int .i64 y] 24 (0, 0))
  have hcall := Aside0.mk (hc (W.alloc (.cells #[.string op, .int .i64 x, .int .i64 y] 24 (0, 0))) base v s op x y t (hW.trans (Stays.of ba)) hb1 (Nat.le_trans hb2 ba.size) (ho.below ba) hl hp)
  have cb := into_at hbox (hW.trans (Stays.of ba)) (by decide) (by decide)
  have cn : (W.alloc (.cells #[.string op, .int .i64 x, .int .i64 y] 24 (0, 0))).cell? ⟨a, 0, none⟩ = some (.int .i64 n) := one_cell ((hW.trans (Stays.of ba)) _ _ _ (by decide) (by decide) hn)
  have BA := Aside0.mk ba
  have HO := Aside0.mk ho
  obtain ⟨A, c, rfl⟩ := ho.slice
  unfold limD
  by_cases hq : (s.length : Int) = n
  · rw [if_pos hq]
    have hd : ((s.length : Int) == n) = true := by simp [hq]
    clear hc hbox hW ho hp ba hcall hn hq
    go_enter Tryz.func81, Tryz.ntmps81
    go_wp2_with (go_at_call 78; refine (one_calls (-2) _ base s _ (HO.out.below BA.out) (Nat.le_trans hb2 BA.out.size)).mono ?_; rintro e w2 ⟨v2, rfl, he, hb⟩; have HE := Aside0.mk he; have B2 := Aside0.mk ((BA.out.mono hb2).trans (hb.mono (Nat.le_trans hb2 BA.out.size))); clear he hb)
    go_ret
    exact ⟨_, rfl, HE.out, B2.out⟩
  · rw [if_neg hq]
    have hd : ((s.length : Int) == n) = false := by simp [hq]
    clear hc hbox hW ho hp ba hn hq
    go_enter Tryz.func81, Tryz.ntmps81
    go_wp2_with (go_at_fn g; refine (hcall.out).mono ?_; rintro e w2 ⟨v2, rfl, he, hb⟩; have HE := Aside0.mk he; have B2 := Aside0.mk ((BA.out.mono hb2).trans hb); clear he hb)
    go_ret
    exact ⟨_, rfl, HE.out, B2.out⟩
end Go.Proofs.YtiialjmpfeopjaaGreat.Sp
