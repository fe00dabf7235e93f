/- The document's form of a call, walked, rule by rule: plain lemmas; no condition. -/
import Derived.Test.YtiialjmpfeopjaaGreatRfA
namespace Go.Proofs.YtiialjmpfeopjaaGreat.Sp
open Go.RowKit Go.Sort Go.Proofs.YtiialjmpfeopjaaGreatW.PrintWords Go.Proofs.YtiialjmpfeopjaaGreatW.PrintLast Go.Proofs.YtiialjmpfeopjaaGreatW.PrintMore
set_option linter.unusedVariables false
set_option linter.unusedSimpArgs false
set_option maxHeartbeats 8000000
set_option maxRecDepth 100000
abbrev FormT := Int × Int × Int × Int
def isN (op : ByteArray) (nm : List UInt8) : Bool := op.toList == nm
def formV (f : FormT) : Value := .agg #[.int .i64 f.1, .int .i64 f.2.1, .int .i64 f.2.2.1, .int .i64 f.2.2.2]
def formOf (l : List (List UInt8 × FormT)) (op : ByteArray) : FormT := match l.find? (fun p => isN op p.1) with | some p => p.2 | none => (-1, 0, 0, 0)
theorem form_hit {l : List (List UInt8 × FormT)} {op : ByteArray} {nm : List UInt8} {f : FormT} (h : isN op nm = true) : formOf ((nm, f) :: l) op = f := by
  unfold formOf; rw [List.find?_cons, h]
theorem form_pass {l : List (List UInt8 × FormT)} {op : ByteArray} {nm : List UInt8} {f : FormT} (h : isN op nm = false) : formOf ((nm, f) :: l) op = formOf l op := by
  unfold formOf; rw [List.find?_cons, h]
theorem form_nil (op : ByteArray) : formOf [] op = (-1, 0, 0, 0) := rfl
def ShapeAt (r : Int) (op : ByteArray) (f : FormT) (w : World) : Prop :=
  Calls Tryz.prog 35 #[.int .i64 r, .string op] w fun e w' => e = .returned (formV f) ∧ Below w.heap.size w w'
theorem shape_below (w : World) (o0 o1 o2 o3 : Obj) : Below w.heap.size w ((((w.alloc o0).alloc o1).alloc o2).alloc o3) :=
  ((((Below.refl w.heap.size w).alloc (Nat.le_refl _) o0).alloc (by rw [alloc_size]; omega) o1).alloc (by rw [alloc_size, alloc_size]; omega) o2).alloc (by rw [alloc_size, alloc_size, alloc_size]; omega) o3
def forms1 : List (List UInt8 × FormT) := [([112, 117, 115, 104], (1, 0, 900, 4)), ([112, 111, 112], (0, 0, 0, 4))]
theorem shape_1 (op : ByteArray) (w : World) : ShapeAt 1 op (formOf forms1 op) w := by
  unfold ShapeAt forms1
  cases h0 : isN op [112, 117, 115, 104] with
  | true =>
    rw [form_hit h0]
    unfold isN at *
    go_enter Tryz.func35, Tryz.ntmps35
    go_wp2
    refine bodyPost_ret (v := .agg #[.int .i64 1, .int .i64 0, .int .i64 900, .int .i64 4]) (by simp [results, Tryz.results35, go_sem]) rfl ⟨rfl, ?_⟩
    exact shape_below w _ _ _ _
  | false =>
    rw [form_pass h0]
    cases h1 : isN op [112, 111, 112] with
    | true =>
      rw [form_hit h1]
      unfold isN at *
      go_enter Tryz.func35, Tryz.ntmps35
      go_wp2
      refine bodyPost_ret (v := .agg #[.int .i64 0, .int .i64 0, .int .i64 0, .int .i64 4]) (by simp [results, Tryz.results35, go_sem]) rfl ⟨rfl, ?_⟩
      exact shape_below w _ _ _ _
    | false =>
      rw [form_pass h1]
      rw [form_nil]
      unfold isN at *
      go_enter Tryz.func35, Tryz.ntmps35
      go_wp2
      refine bodyPost_ret (v := .agg #[.int .i64 (-1), .int .i64 0, .int .i64 0, .int .i64 0]) (by simp [results, Tryz.results35, go_sem]) rfl ⟨rfl, ?_⟩
      exact shape_below w _ _ _ _
def forms2 : List (List UInt8 × FormT) := [([101, 110, 113], (1, 0, 900, 4)), ([100, 101, 113], (0, 0, 0, 4))]
theorem shape_2 (op : ByteArray) (w : World) : ShapeAt 2 op (formOf forms2 op) w := by
  unfold ShapeAt forms2
  cases h0 : isN op [101, 110, 113] with
  | true =>
    rw [form_hit h0]
    unfold isN at *
    go_enter Tryz.func35, Tryz.ntmps35
    go_wp2
    refine bodyPost_ret (v := .agg #[.int .i64 1, .int .i64 0, .int .i64 900, .int .i64 4]) (by simp [results, Tryz.results35, go_sem]) rfl ⟨rfl, ?_⟩
    exact shape_below w _ _ _ _
  | false =>
    rw [form_pass h0]
    cases h1 : isN op [100, 101, 113] with
    | true =>
      rw [form_hit h1]
      unfold isN at *
      go_enter Tryz.func35, Tryz.ntmps35
      go_wp2
      refine bodyPost_ret (v := .agg #[.int .i64 0, .int .i64 0, .int .i64 0, .int .i64 4]) (by simp [results, Tryz.results35, go_sem]) rfl ⟨rfl, ?_⟩
      exact shape_below w _ _ _ _
    | false =>
      rw [form_pass h1]
      rw [form_nil]
      unfold isN at *
      go_enter Tryz.func35, Tryz.ntmps35
      go_wp2
      refine bodyPost_ret (v := .agg #[.int .i64 (-1), .int .i64 0, .int .i64 0, .int .i64 0]) (by simp [results, Tryz.results35, go_sem]) rfl ⟨rfl, ?_⟩
      exact shape_below w _ _ _ _
def forms3 : List (List UInt8 × FormT) := [([101, 110, 113], (1, 0, 900, 4)), ([100, 101, 113], (0, 0, 0, 4))]
theorem shape_3 (op : ByteArray) (w : World) : ShapeAt 3 op (formOf forms3 op) w := by
  unfold ShapeAt forms3
  cases h0 : isN op [101, 110, 113] with
  | true =>
    rw [form_hit h0]
    unfold isN at *
    go_enter Tryz.func35, Tryz.ntmps35
    go_wp2
    refine bodyPost_ret (v := .agg #[.int .i64 1, .int .i64 0, .int .i64 900, .int .i64 4]) (by simp [results, Tryz.results35, go_sem]) rfl ⟨rfl, ?_⟩
    exact shape_below w _ _ _ _
  | false =>
    rw [form_pass h0]
    cases h1 : isN op [100, 101, 113] with
    | true =>
      rw [form_hit h1]
      unfold isN at *
      go_enter Tryz.func35, Tryz.ntmps35
      go_wp2
      refine bodyPost_ret (v := .agg #[.int .i64 0, .int .i64 0, .int .i64 0, .int .i64 4]) (by simp [results, Tryz.results35, go_sem]) rfl ⟨rfl, ?_⟩
      exact shape_below w _ _ _ _
    | false =>
      rw [form_pass h1]
      rw [form_nil]
      unfold isN at *
      go_enter Tryz.func35, Tryz.ntmps35
      go_wp2
      refine bodyPost_ret (v := .agg #[.int .i64 (-1), .int .i64 0, .int .i64 0, .int .i64 0]) (by simp [results, Tryz.results35, go_sem]) rfl ⟨rfl, ?_⟩
      exact shape_below w _ _ _ _
def forms4 : List (List UInt8 × FormT) := [([112, 117, 115, 104], (1, 0, 900, 1)), ([112, 111, 112], (0, 0, 0, 1)), ([115, 116, 101, 97, 108], (0, 0, 0, 4))]
theorem shape_4 (op : ByteArray) (w : World) : ShapeAt 4 op (formOf forms4 op) w := by
  unfold ShapeAt forms4
  cases h0 : isN op [112, 117, 115, 104] with
  | true =>
    rw [form_hit h0]
    unfold isN at *
    go_enter Tryz.func35, Tryz.ntmps35
    go_wp2
    refine bodyPost_ret (v := .agg #[.int .i64 1, .int .i64 0, .int .i64 900, .int .i64 1]) (by simp [results, Tryz.results35, go_sem]) rfl ⟨rfl, ?_⟩
    exact shape_below w _ _ _ _
  | false =>
    rw [form_pass h0]
    cases h1 : isN op [112, 111, 112] with
    | true =>
      rw [form_hit h1]
      unfold isN at *
      go_enter Tryz.func35, Tryz.ntmps35
      go_wp2
      refine bodyPost_ret (v := .agg #[.int .i64 0, .int .i64 0, .int .i64 0, .int .i64 1]) (by simp [results, Tryz.results35, go_sem]) rfl ⟨rfl, ?_⟩
      exact shape_below w _ _ _ _
    | false =>
      rw [form_pass h1]
      cases h2 : isN op [115, 116, 101, 97, 108] with
      | true =>
        rw [form_hit h2]
        unfold isN at *
        go_enter Tryz.func35, Tryz.ntmps35
        go_wp2
        refine bodyPost_ret (v := .agg #[.int .i64 0, .int .i64 0, .int .i64 0, .int .i64 4]) (by simp [results, Tryz.results35, go_sem]) rfl ⟨rfl, ?_⟩
        exact shape_below w _ _ _ _
      | false =>
        rw [form_pass h2]
        rw [form_nil]
        unfold isN at *
        go_enter Tryz.func35, Tryz.ntmps35
        go_wp2
        refine bodyPost_ret (v := .agg #[.int .i64 (-1), .int .i64 0, .int .i64 0, .int .i64 0]) (by simp [results, Tryz.results35, go_sem]) rfl ⟨rfl, ?_⟩
        exact shape_below w _ _ _ _
def forms5 : List (List UInt8 × FormT) := [([112, 117, 116], (1, 0, 900, 4)), ([116, 97, 107, 101], (0, 0, 0, 4))]
theorem shape_5 (op : ByteArray) (w : World) : ShapeAt 5 op (formOf forms5 op) w := by
  unfold ShapeAt forms5
  cases h0 : isN op [112, 117, 116] with
  | true =>
    rw [form_hit h0]
    unfold isN at *
    go_enter Tryz.func35, Tryz.ntmps35
    go_wp2
    refine bodyPost_ret (v := .agg #[.int .i64 1, .int .i64 0, .int .i64 900, .int .i64 4]) (by simp [results, Tryz.results35, go_sem]) rfl ⟨rfl, ?_⟩
    exact shape_below w _ _ _ _
  | false =>
    rw [form_pass h0]
    cases h1 : isN op [116, 97, 107, 101] with
    | true =>
      rw [form_hit h1]
      unfold isN at *
      go_enter Tryz.func35, Tryz.ntmps35
      go_wp2
      refine bodyPost_ret (v := .agg #[.int .i64 0, .int .i64 0, .int .i64 0, .int .i64 4]) (by simp [results, Tryz.results35, go_sem]) rfl ⟨rfl, ?_⟩
      exact shape_below w _ _ _ _
    | false =>
      rw [form_pass h1]
      rw [form_nil]
      unfold isN at *
      go_enter Tryz.func35, Tryz.ntmps35
      go_wp2
      refine bodyPost_ret (v := .agg #[.int .i64 (-1), .int .i64 0, .int .i64 0, .int .i64 0]) (by simp [results, Tryz.results35, go_sem]) rfl ⟨rfl, ?_⟩
      exact shape_below w _ _ _ _
def forms6 : List (List UInt8 × FormT) := [([112, 117, 116], (1, 0, 900, 4)), ([103, 101, 116], (0, 0, 0, 4))]
theorem shape_6 (op : ByteArray) (w : World) : ShapeAt 6 op (formOf forms6 op) w := by
  unfold ShapeAt forms6
  cases h0 : isN op [112, 117, 116] with
  | true =>
    rw [form_hit h0]
    unfold isN at *
    go_enter Tryz.func35, Tryz.ntmps35
    go_wp2
    refine bodyPost_ret (v := .agg #[.int .i64 1, .int .i64 0, .int .i64 900, .int .i64 4]) (by simp [results, Tryz.results35, go_sem]) rfl ⟨rfl, ?_⟩
    exact shape_below w _ _ _ _
  | false =>
    rw [form_pass h0]
    cases h1 : isN op [103, 101, 116] with
    | true =>
      rw [form_hit h1]
      unfold isN at *
      go_enter Tryz.func35, Tryz.ntmps35
      go_wp2
      refine bodyPost_ret (v := .agg #[.int .i64 0, .int .i64 0, .int .i64 0, .int .i64 4]) (by simp [results, Tryz.results35, go_sem]) rfl ⟨rfl, ?_⟩
      exact shape_below w _ _ _ _
    | false =>
      rw [form_pass h1]
      rw [form_nil]
      unfold isN at *
      go_enter Tryz.func35, Tryz.ntmps35
      go_wp2
      refine bodyPost_ret (v := .agg #[.int .i64 (-1), .int .i64 0, .int .i64 0, .int .i64 0]) (by simp [results, Tryz.results35, go_sem]) rfl ⟨rfl, ?_⟩
      exact shape_below w _ _ _ _
def forms7 : List (List UInt8 × FormT) := [([97, 100, 100], (1, 0, 900, 4)), ([114, 101, 109], (1, 0, 900, 4)), ([104, 97, 115], (1, 0, 900, 4))]
theorem shape_7 (op : ByteArray) (w : World) : ShapeAt 7 op (formOf forms7 op) w := by
  unfold ShapeAt forms7
  cases h0 : isN op [97, 100, 100] with
  | true =>
    rw [form_hit h0]
    unfold isN at *
    go_enter Tryz.func35, Tryz.ntmps35
    go_wp2
    refine bodyPost_ret (v := .agg #[.int .i64 1, .int .i64 0, .int .i64 900, .int .i64 4]) (by simp [results, Tryz.results35, go_sem]) rfl ⟨rfl, ?_⟩
    exact shape_below w _ _ _ _
  | false =>
    rw [form_pass h0]
    cases h1 : isN op [114, 101, 109] with
    | true =>
      rw [form_hit h1]
      unfold isN at *
      go_enter Tryz.func35, Tryz.ntmps35
      go_wp2
      refine bodyPost_ret (v := .agg #[.int .i64 1, .int .i64 0, .int .i64 900, .int .i64 4]) (by simp [results, Tryz.results35, go_sem]) rfl ⟨rfl, ?_⟩
      exact shape_below w _ _ _ _
    | false =>
      rw [form_pass h1]
      cases h2 : isN op [104, 97, 115] with
      | true =>
        rw [form_hit h2]
        unfold isN at *
        go_enter Tryz.func35, Tryz.ntmps35
        go_wp2
        refine bodyPost_ret (v := .agg #[.int .i64 1, .int .i64 0, .int .i64 900, .int .i64 4]) (by simp [results, Tryz.results35, go_sem]) rfl ⟨rfl, ?_⟩
        exact shape_below w _ _ _ _
      | false =>
        rw [form_pass h2]
        rw [form_nil]
        have hx0 : (isN op [97, 108, 108] && false) = false := Bool.and_false _
        cases hy0 : isN op [97, 108, 108] with
        | true =>
          unfold isN at *
          go_enter Tryz.func35, Tryz.ntmps35
          go_wp2
          refine bodyPost_ret (v := .agg #[.int .i64 (-1), .int .i64 0, .int .i64 0, .int .i64 0]) (by simp [results, Tryz.results35, go_sem]) rfl ⟨rfl, ?_⟩
          exact shape_below w _ _ _ _
        | false =>
          unfold isN at *
          go_enter Tryz.func35, Tryz.ntmps35
          go_wp2
          refine bodyPost_ret (v := .agg #[.int .i64 (-1), .int .i64 0, .int .i64 0, .int .i64 0]) (by simp [results, Tryz.results35, go_sem]) rfl ⟨rfl, ?_⟩
          exact shape_below w _ _ _ _
def forms8 : List (List UInt8 × FormT) := [([97, 100, 100], (1, 0, 15, 4)), ([114, 101, 109], (1, 0, 15, 4)), ([104, 97, 115], (1, 0, 15, 4)), ([97, 108, 108], (0, 0, 0, 4))]
theorem shape_8 (op : ByteArray) (w : World) : ShapeAt 8 op (formOf forms8 op) w := by
  unfold ShapeAt forms8
  cases h0 : isN op [97, 100, 100] with
  | true =>
    rw [form_hit h0]
    unfold isN at *
    go_enter Tryz.func35, Tryz.ntmps35
    go_wp2
    refine bodyPost_ret (v := .agg #[.int .i64 1, .int .i64 0, .int .i64 15, .int .i64 4]) (by simp [results, Tryz.results35, go_sem]) rfl ⟨rfl, ?_⟩
    exact shape_below w _ _ _ _
  | false =>
    rw [form_pass h0]
    cases h1 : isN op [114, 101, 109] with
    | true =>
      rw [form_hit h1]
      unfold isN at *
      go_enter Tryz.func35, Tryz.ntmps35
      go_wp2
      refine bodyPost_ret (v := .agg #[.int .i64 1, .int .i64 0, .int .i64 15, .int .i64 4]) (by simp [results, Tryz.results35, go_sem]) rfl ⟨rfl, ?_⟩
      exact shape_below w _ _ _ _
    | false =>
      rw [form_pass h1]
      cases h2 : isN op [104, 97, 115] with
      | true =>
        rw [form_hit h2]
        unfold isN at *
        go_enter Tryz.func35, Tryz.ntmps35
        go_wp2
        refine bodyPost_ret (v := .agg #[.int .i64 1, .int .i64 0, .int .i64 15, .int .i64 4]) (by simp [results, Tryz.results35, go_sem]) rfl ⟨rfl, ?_⟩
        exact shape_below w _ _ _ _
      | false =>
        rw [form_pass h2]
        cases h3 : isN op [97, 108, 108] with
        | true =>
          rw [form_hit h3]
          unfold isN at *
          go_enter Tryz.func35, Tryz.ntmps35
          go_wp2
          refine bodyPost_ret (v := .agg #[.int .i64 0, .int .i64 0, .int .i64 0, .int .i64 4]) (by simp [results, Tryz.results35, go_sem]) rfl ⟨rfl, ?_⟩
          exact shape_below w _ _ _ _
        | false =>
          rw [form_pass h3]
          rw [form_nil]
          unfold isN at *
          go_enter Tryz.func35, Tryz.ntmps35
          go_wp2
          refine bodyPost_ret (v := .agg #[.int .i64 (-1), .int .i64 0, .int .i64 0, .int .i64 0]) (by simp [results, Tryz.results35, go_sem]) rfl ⟨rfl, ?_⟩
          exact shape_below w _ _ _ _
def forms9 : List (List UInt8 × FormT) := [([110, 101, 120, 116], (1, 0, 900, 4))]
theorem shape_9 (op : ByteArray) (w : World) : ShapeAt 9 op (formOf forms9 op) w := by
  unfold ShapeAt forms9
  cases h0 : isN op [110, 101, 120, 116] with
  | true =>
    rw [form_hit h0]
    unfold isN at *
    go_enter Tryz.func35, Tryz.ntmps35
    go_wp2
    refine bodyPost_ret (v := .agg #[.int .i64 1, .int .i64 0, .int .i64 900, .int .i64 4]) (by simp [results, Tryz.results35, go_sem]) rfl ⟨rfl, ?_⟩
    exact shape_below w _ _ _ _
  | false =>
    rw [form_pass h0]
    rw [form_nil]
    unfold isN at *
    go_enter Tryz.func35, Tryz.ntmps35
    go_wp2
    refine bodyPost_ret (v := .agg #[.int .i64 (-1), .int .i64 0, .int .i64 0, .int .i64 0]) (by simp [results, Tryz.results35, go_sem]) rfl ⟨rfl, ?_⟩
    exact shape_below w _ _ _ _
def forms10 : List (List UInt8 × FormT) := [([119, 114, 105, 116, 101], (1, 0, 900, 4)), ([114, 101, 97, 100], (0, 0, 0, 4))]
theorem shape_10 (op : ByteArray) (w : World) : ShapeAt 10 op (formOf forms10 op) w := by
  unfold ShapeAt forms10
  cases h0 : isN op [119, 114, 105, 116, 101] with
  | true =>
    rw [form_hit h0]
    unfold isN at *
    go_enter Tryz.func35, Tryz.ntmps35
    go_wp2
    refine bodyPost_ret (v := .agg #[.int .i64 1, .int .i64 0, .int .i64 900, .int .i64 4]) (by simp [results, Tryz.results35, go_sem]) rfl ⟨rfl, ?_⟩
    exact shape_below w _ _ _ _
  | false =>
    rw [form_pass h0]
    cases h1 : isN op [114, 101, 97, 100] with
    | true =>
      rw [form_hit h1]
      unfold isN at *
      go_enter Tryz.func35, Tryz.ntmps35
      go_wp2
      refine bodyPost_ret (v := .agg #[.int .i64 0, .int .i64 0, .int .i64 0, .int .i64 4]) (by simp [results, Tryz.results35, go_sem]) rfl ⟨rfl, ?_⟩
      exact shape_below w _ _ _ _
    | false =>
      rw [form_pass h1]
      rw [form_nil]
      unfold isN at *
      go_enter Tryz.func35, Tryz.ntmps35
      go_wp2
      refine bodyPost_ret (v := .agg #[.int .i64 (-1), .int .i64 0, .int .i64 0, .int .i64 0]) (by simp [results, Tryz.results35, go_sem]) rfl ⟨rfl, ?_⟩
      exact shape_below w _ _ _ _
def forms11 : List (List UInt8 × FormT) := [([117, 112, 100, 97, 116, 101], (1, 0, 900, 2)), ([115, 99, 97, 110], (0, 0, 0, 4))]
theorem shape_11 (op : ByteArray) (w : World) : ShapeAt 11 op (formOf forms11 op) w := by
  unfold ShapeAt forms11
  cases h0 : isN op [117, 112, 100, 97, 116, 101] with
  | true =>
    rw [form_hit h0]
    unfold isN at *
    go_enter Tryz.func35, Tryz.ntmps35
    go_wp2
    refine bodyPost_ret (v := .agg #[.int .i64 1, .int .i64 0, .int .i64 900, .int .i64 2]) (by simp [results, Tryz.results35, go_sem]) rfl ⟨rfl, ?_⟩
    exact shape_below w _ _ _ _
  | false =>
    rw [form_pass h0]
    cases h1 : isN op [115, 99, 97, 110] with
    | true =>
      rw [form_hit h1]
      unfold isN at *
      go_enter Tryz.func35, Tryz.ntmps35
      go_wp2
      refine bodyPost_ret (v := .agg #[.int .i64 0, .int .i64 0, .int .i64 0, .int .i64 4]) (by simp [results, Tryz.results35, go_sem]) rfl ⟨rfl, ?_⟩
      exact shape_below w _ _ _ _
    | false =>
      rw [form_pass h1]
      rw [form_nil]
      unfold isN at *
      go_enter Tryz.func35, Tryz.ntmps35
      go_wp2
      refine bodyPost_ret (v := .agg #[.int .i64 (-1), .int .i64 0, .int .i64 0, .int .i64 0]) (by simp [results, Tryz.results35, go_sem]) rfl ⟨rfl, ?_⟩
      exact shape_below w _ _ _ _
def forms12 : List (List UInt8 × FormT) := [([117, 110, 105, 116, 101], (2, 0, 7, 4)), ([115, 97, 109, 101], (2, 0, 7, 4))]
theorem shape_12 (op : ByteArray) (w : World) : ShapeAt 12 op (formOf forms12 op) w := by
  unfold ShapeAt forms12
  cases h0 : isN op [117, 110, 105, 116, 101] with
  | true =>
    rw [form_hit h0]
    unfold isN at *
    go_enter Tryz.func35, Tryz.ntmps35
    go_wp2
    refine bodyPost_ret (v := .agg #[.int .i64 2, .int .i64 0, .int .i64 7, .int .i64 4]) (by simp [results, Tryz.results35, go_sem]) rfl ⟨rfl, ?_⟩
    exact shape_below w _ _ _ _
  | false =>
    rw [form_pass h0]
    cases h1 : isN op [115, 97, 109, 101] with
    | true =>
      rw [form_hit h1]
      unfold isN at *
      go_enter Tryz.func35, Tryz.ntmps35
      go_wp2
      refine bodyPost_ret (v := .agg #[.int .i64 2, .int .i64 0, .int .i64 7, .int .i64 4]) (by simp [results, Tryz.results35, go_sem]) rfl ⟨rfl, ?_⟩
      exact shape_below w _ _ _ _
    | false =>
      rw [form_pass h1]
      rw [form_nil]
      unfold isN at *
      go_enter Tryz.func35, Tryz.ntmps35
      go_wp2
      refine bodyPost_ret (v := .agg #[.int .i64 (-1), .int .i64 0, .int .i64 0, .int .i64 0]) (by simp [results, Tryz.results35, go_sem]) rfl ⟨rfl, ?_⟩
      exact shape_below w _ _ _ _
def forms13 : List (List UInt8 × FormT) := [([112, 117, 116], (1, 0, 99, 4)), ([109, 111, 118, 101], (1, 0, 99, 4)), ([98, 111, 116, 104], (0, 0, 0, 4))]
theorem shape_13 (op : ByteArray) (w : World) : ShapeAt 13 op (formOf forms13 op) w := by
  unfold ShapeAt forms13
  cases h0 : isN op [112, 117, 116] with
  | true =>
    rw [form_hit h0]
    unfold isN at *
    go_enter Tryz.func35, Tryz.ntmps35
    go_wp2
    refine bodyPost_ret (v := .agg #[.int .i64 1, .int .i64 0, .int .i64 99, .int .i64 4]) (by simp [results, Tryz.results35, go_sem]) rfl ⟨rfl, ?_⟩
    exact shape_below w _ _ _ _
  | false =>
    rw [form_pass h0]
    cases h1 : isN op [109, 111, 118, 101] with
    | true =>
      rw [form_hit h1]
      unfold isN at *
      go_enter Tryz.func35, Tryz.ntmps35
      go_wp2
      refine bodyPost_ret (v := .agg #[.int .i64 1, .int .i64 0, .int .i64 99, .int .i64 4]) (by simp [results, Tryz.results35, go_sem]) rfl ⟨rfl, ?_⟩
      exact shape_below w _ _ _ _
    | false =>
      rw [form_pass h1]
      cases h2 : isN op [98, 111, 116, 104] with
      | true =>
        rw [form_hit h2]
        unfold isN at *
        go_enter Tryz.func35, Tryz.ntmps35
        go_wp2
        refine bodyPost_ret (v := .agg #[.int .i64 0, .int .i64 0, .int .i64 0, .int .i64 4]) (by simp [results, Tryz.results35, go_sem]) rfl ⟨rfl, ?_⟩
        exact shape_below w _ _ _ _
      | false =>
        rw [form_pass h2]
        rw [form_nil]
        unfold isN at *
        go_enter Tryz.func35, Tryz.ntmps35
        go_wp2
        refine bodyPost_ret (v := .agg #[.int .i64 (-1), .int .i64 0, .int .i64 0, .int .i64 0]) (by simp [results, Tryz.results35, go_sem]) rfl ⟨rfl, ?_⟩
        exact shape_below w _ _ _ _
def forms14 : List (List UInt8 × FormT) := [([97, 100, 100], (1, 1, 99, 3)), ([103, 101, 116], (0, 0, 0, 4))]
theorem shape_14 (op : ByteArray) (w : World) : ShapeAt 14 op (formOf forms14 op) w := by
  unfold ShapeAt forms14
  cases h0 : isN op [97, 100, 100] with
  | true =>
    rw [form_hit h0]
    unfold isN at *
    go_enter Tryz.func35, Tryz.ntmps35
    go_wp2
    refine bodyPost_ret (v := .agg #[.int .i64 1, .int .i64 1, .int .i64 99, .int .i64 3]) (by simp [results, Tryz.results35, go_sem]) rfl ⟨rfl, ?_⟩
    exact shape_below w _ _ _ _
  | false =>
    rw [form_pass h0]
    cases h1 : isN op [103, 101, 116] with
    | true =>
      rw [form_hit h1]
      unfold isN at *
      go_enter Tryz.func35, Tryz.ntmps35
      go_wp2
      refine bodyPost_ret (v := .agg #[.int .i64 0, .int .i64 0, .int .i64 0, .int .i64 4]) (by simp [results, Tryz.results35, go_sem]) rfl ⟨rfl, ?_⟩
      exact shape_below w _ _ _ _
    | false =>
      rw [form_pass h1]
      rw [form_nil]
      unfold isN at *
      go_enter Tryz.func35, Tryz.ntmps35
      go_wp2
      refine bodyPost_ret (v := .agg #[.int .i64 (-1), .int .i64 0, .int .i64 0, .int .i64 0]) (by simp [results, Tryz.results35, go_sem]) rfl ⟨rfl, ?_⟩
      exact shape_below w _ _ _ _
def forms15 : List (List UInt8 × FormT) := [([112, 117, 116, 97], (1, 0, 900, 4)), ([112, 117, 116, 98], (1, 0, 900, 4)), ([103, 101, 116, 97], (0, 0, 0, 4)), ([103, 101, 116, 98], (0, 0, 0, 4)), ([109, 111, 118, 101], (0, 0, 0, 4))]
theorem shape_15 (op : ByteArray) (w : World) : ShapeAt 15 op (formOf forms15 op) w := by
  unfold ShapeAt forms15
  cases h0 : isN op [112, 117, 116, 97] with
  | true =>
    rw [form_hit h0]
    unfold isN at *
    go_enter Tryz.func35, Tryz.ntmps35
    go_wp2
    refine bodyPost_ret (v := .agg #[.int .i64 1, .int .i64 0, .int .i64 900, .int .i64 4]) (by simp [results, Tryz.results35, go_sem]) rfl ⟨rfl, ?_⟩
    exact shape_below w _ _ _ _
  | false =>
    rw [form_pass h0]
    cases h1 : isN op [112, 117, 116, 98] with
    | true =>
      rw [form_hit h1]
      unfold isN at *
      go_enter Tryz.func35, Tryz.ntmps35
      go_wp2
      refine bodyPost_ret (v := .agg #[.int .i64 1, .int .i64 0, .int .i64 900, .int .i64 4]) (by simp [results, Tryz.results35, go_sem]) rfl ⟨rfl, ?_⟩
      exact shape_below w _ _ _ _
    | false =>
      rw [form_pass h1]
      cases h2 : isN op [103, 101, 116, 97] with
      | true =>
        rw [form_hit h2]
        unfold isN at *
        go_enter Tryz.func35, Tryz.ntmps35
        go_wp2
        refine bodyPost_ret (v := .agg #[.int .i64 0, .int .i64 0, .int .i64 0, .int .i64 4]) (by simp [results, Tryz.results35, go_sem]) rfl ⟨rfl, ?_⟩
        exact shape_below w _ _ _ _
      | false =>
        rw [form_pass h2]
        cases h3 : isN op [103, 101, 116, 98] with
        | true =>
          rw [form_hit h3]
          unfold isN at *
          go_enter Tryz.func35, Tryz.ntmps35
          go_wp2
          refine bodyPost_ret (v := .agg #[.int .i64 0, .int .i64 0, .int .i64 0, .int .i64 4]) (by simp [results, Tryz.results35, go_sem]) rfl ⟨rfl, ?_⟩
          exact shape_below w _ _ _ _
        | false =>
          rw [form_pass h3]
          cases h4 : isN op [109, 111, 118, 101] with
          | true =>
            rw [form_hit h4]
            unfold isN at *
            go_enter Tryz.func35, Tryz.ntmps35
            go_wp2
            refine bodyPost_ret (v := .agg #[.int .i64 0, .int .i64 0, .int .i64 0, .int .i64 4]) (by simp [results, Tryz.results35, go_sem]) rfl ⟨rfl, ?_⟩
            exact shape_below w _ _ _ _
          | false =>
            rw [form_pass h4]
            rw [form_nil]
            unfold isN at *
            go_enter Tryz.func35, Tryz.ntmps35
            go_wp2
            refine bodyPost_ret (v := .agg #[.int .i64 (-1), .int .i64 0, .int .i64 0, .int .i64 0]) (by simp [results, Tryz.results35, go_sem]) rfl ⟨rfl, ?_⟩
            exact shape_below w _ _ _ _
def forms16 : List (List UInt8 × FormT) := [([97, 100, 100], (1, (-900), 900, 4)), ([103, 101, 116], (0, 0, 0, 4))]
theorem shape_16 (op : ByteArray) (w : World) : ShapeAt 16 op (formOf forms16 op) w := by
  unfold ShapeAt forms16
  cases h0 : isN op [97, 100, 100] with
  | true =>
    rw [form_hit h0]
    unfold isN at *
    go_enter Tryz.func35, Tryz.ntmps35
    go_wp2
    refine bodyPost_ret (v := .agg #[.int .i64 1, .int .i64 (-900), .int .i64 900, .int .i64 4]) (by simp [results, Tryz.results35, go_sem]) rfl ⟨rfl, ?_⟩
    exact shape_below w _ _ _ _
  | false =>
    rw [form_pass h0]
    cases h1 : isN op [103, 101, 116] with
    | true =>
      rw [form_hit h1]
      unfold isN at *
      go_enter Tryz.func35, Tryz.ntmps35
      go_wp2
      refine bodyPost_ret (v := .agg #[.int .i64 0, .int .i64 0, .int .i64 0, .int .i64 4]) (by simp [results, Tryz.results35, go_sem]) rfl ⟨rfl, ?_⟩
      exact shape_below w _ _ _ _
    | false =>
      rw [form_pass h1]
      rw [form_nil]
      unfold isN at *
      go_enter Tryz.func35, Tryz.ntmps35
      go_wp2
      refine bodyPost_ret (v := .agg #[.int .i64 (-1), .int .i64 0, .int .i64 0, .int .i64 0]) (by simp [results, Tryz.results35, go_sem]) rfl ⟨rfl, ?_⟩
      exact shape_below w _ _ _ _
def formsR (r : Int) : List (List UInt8 × FormT) :=
  if r = 1 then forms1
  else if r = 2 then forms2
  else if r = 3 then forms3
  else if r = 4 then forms4
  else if r = 5 then forms5
  else if r = 6 then forms6
  else if r = 7 then forms7
  else if r = 8 then forms8
  else if r = 9 then forms9
  else if r = 10 then forms10
  else if r = 11 then forms11
  else if r = 12 then forms12
  else if r = 13 then forms13
  else if r = 14 then forms14
  else if r = 15 then forms15
  else if r = 16 then forms16
  else []
theorem shape_0 (r : Int) (op : ByteArray) (w : World) (h : r < 1 ∨ 16 < r) : ShapeAt r op (formOf [] op) w := by
  have e1 : (r == 1) = false := by simp; omega
  have e2 : (r == 2) = false := by simp; omega
  have e3 : (r == 3) = false := by simp; omega
  have e4 : (r == 4) = false := by simp; omega
  have e5 : (r == 5) = false := by simp; omega
  have e6 : (r == 6) = false := by simp; omega
  have e7 : (r == 7) = false := by simp; omega
  have e8 : (r == 8) = false := by simp; omega
  have e9 : (r == 9) = false := by simp; omega
  have e10 : (r == 10) = false := by simp; omega
  have e11 : (r == 11) = false := by simp; omega
  have e12 : (r == 12) = false := by simp; omega
  have e13 : (r == 13) = false := by simp; omega
  have e14 : (r == 14) = false := by simp; omega
  have e15 : (r == 15) = false := by simp; omega
  have e16 : (r == 16) = false := by simp; omega
  unfold ShapeAt
  clear h
  rw [form_nil]
  unfold isN at *
  go_enter Tryz.func35, Tryz.ntmps35
  go_wp2
  refine bodyPost_ret (v := .agg #[.int .i64 (-1), .int .i64 0, .int .i64 0, .int .i64 0]) (by simp [results, Tryz.results35, go_sem]) rfl ⟨rfl, ?_⟩
  exact shape_below w _ _ _ _
theorem shape_calls (r : Int) (op : ByteArray) (w : World) : ShapeAt r op (formOf (formsR r) op) w := by
  unfold formsR
  by_cases e1 : r = 1
  · subst e1; exact shape_1 op w
  rw [if_neg e1]
  by_cases e2 : r = 2
  · subst e2; exact shape_2 op w
  rw [if_neg e2]
  by_cases e3 : r = 3
  · subst e3; exact shape_3 op w
  rw [if_neg e3]
  by_cases e4 : r = 4
  · subst e4; exact shape_4 op w
  rw [if_neg e4]
  by_cases e5 : r = 5
  · subst e5; exact shape_5 op w
  rw [if_neg e5]
  by_cases e6 : r = 6
  · subst e6; exact shape_6 op w
  rw [if_neg e6]
  by_cases e7 : r = 7
  · subst e7; exact shape_7 op w
  rw [if_neg e7]
  by_cases e8 : r = 8
  · subst e8; exact shape_8 op w
  rw [if_neg e8]
  by_cases e9 : r = 9
  · subst e9; exact shape_9 op w
  rw [if_neg e9]
  by_cases e10 : r = 10
  · subst e10; exact shape_10 op w
  rw [if_neg e10]
  by_cases e11 : r = 11
  · subst e11; exact shape_11 op w
  rw [if_neg e11]
  by_cases e12 : r = 12
  · subst e12; exact shape_12 op w
  rw [if_neg e12]
  by_cases e13 : r = 13
  · subst e13; exact shape_13 op w
  rw [if_neg e13]
  by_cases e14 : r = 14
  · subst e14; exact shape_14 op w
  rw [if_neg e14]
  by_cases e15 : r = 15
  · subst e15; exact shape_15 op w
  rw [if_neg e15]
  by_cases e16 : r = 16
  · subst e16; exact shape_16 op w
  rw [if_neg e16]
  exact shape_0 r op w (by omega)
end Go.Proofs.YtiialjmpfeopjaaGreat.Sp
