/- The law's sanity check, walked; how a case of five or six parts reads: plain lemmas; no condition. -/
import Derived.Test.YtiialjmpfeopjaaGreatSm5
import Derived.Test.YtiialjmpfeopjaaGreatPwB
import Derived.Test.YtiialjmpfeopjaaGreatWRepsOne
import Derived.ChangeSlices
import Derived.ChangeArms
import Derived.WideShapes
import Derived.SizedLaws
import Derived.Lib.SmallJoins
import Derived.BigQuiet
import Derived.Deep.QuietTactic
import Derived.Test.YtiialjmpfeopjaaGreatWSized
namespace Go.Proofs.YtiialjmpfeopjaaGreat.Sp
open Go.RowKit Go.Sort Go.ChangeShapes Go.WideShapes Go.Proofs.YtiialjmpfeopjaaGreatW.PrintWords Go.Proofs.YtiialjmpfeopjaaGreatW.PrintLast Go.Proofs.YtiialjmpfeopjaaGreatW.PrintMore
set_option linter.unusedVariables false
set_option linter.unusedSimpArgs false
set_option maxHeartbeats 8000000
set_option maxRecDepth 100000
theorem awake_calls (w : World) : Calls Tryz.prog 10 #[] w fun e w' => e = .returned (.bool true) ∧ Below w.heap.size w w' := by
  have n1 := heap_alloc_new w (.cells #[.string ⟨#[101, 110, 113]⟩, .int .i64 5, .int .i64 0, .string ⟨#[101, 110, 113]⟩, .int .i64 6, .int .i64 0, .string ⟨#[100, 101, 113]⟩, .int .i64 0, .int .i64 0] 24 (0, 0))
  have hC : CallsAt (w.alloc (.cells #[.string ⟨#[101, 110, 113]⟩, .int .i64 5, .int .i64 0, .string ⟨#[101, 110, 113]⟩, .int .i64 6, .int .i64 0, .string ⟨#[100, 101, 113]⟩, .int .i64 0, .int .i64 0] 24 (0, 0))) (some ⟨w.heap.size, 0, none⟩) [enqC 5, enqC 6, deqC] := by
    intro j hj
    have c := fun i => Go.Lib.cell_of_heap n1 i
    match j, hj with
    | 0, _ => exact ⟨_, rfl, (c 0).trans rfl, (c 1).trans rfl, (c 2).trans rfl⟩
    | 1, _ => exact ⟨_, rfl, (c 3).trans rfl, (c 4).trans rfl, (c 5).trans rfl⟩
    | 2, _ => exact ⟨_, rfl, (c 6).trans rfl, (c 7).trans rfl, (c 8).trans rfl⟩
    | j + 3, h => exact absurd h (by simp)
  have HR := Aside0.mk (show Calls Tryz.prog 17 #[.int .i64 2, .int .i64 1, .slice (some ⟨w.heap.size, 0, none⟩) 3 3] (w.alloc (.cells #[.string ⟨#[101, 110, 113]⟩, .int .i64 5, .int .i64 0, .string ⟨#[101, 110, 113]⟩, .int .i64 6, .int .i64 0, .string ⟨#[100, 101, 113]⟩, .int .i64 0, .int .i64 0] 24 (0, 0))) fun e w' => _ from run_calls (some ⟨w.heap.size, 0, none⟩) 3 _ hC (by decide) awake_run)
  have B1 := Aside0.mk (al1 w (.cells #[.string ⟨#[101, 110, 113]⟩, .int .i64 5, .int .i64 0, .string ⟨#[101, 110, 113]⟩, .int .i64 6, .int .i64 0, .string ⟨#[100, 101, 113]⟩, .int .i64 0, .int .i64 0] 24 (0, 0)))
  clear n1 hC
  go_enter Tryz.func10, Tryz.ntmps10
  go_wp2_with (first | (go_at_call 17; refine (HR.out).mono ?_; rintro e w2 ⟨v, u, rfl, hv, hu, _, hb⟩; have B2 := Aside0.mk (btrans B1.out hb); obtain ⟨A1, c1, rfl⟩ := hv.slice; obtain ⟨A2, c2, rfl⟩ := hu.slice; obtain ⟨a1, rfl, d0⟩ := hv.rd.at 0 (by decide); obtain ⟨a1', e1, d1⟩ := hv.rd.at 1 (by decide); obtain ⟨a1'', e2, d2⟩ := hv.rd.at 2 (by decide); obtain ⟨a2, rfl, d3⟩ := hu.rd.at 0 (by decide); injection e1 with e1; subst e1; injection e2 with e2; subst e2; rw [show a1.add 0 = a1 from by simp [Addr.add]] at d0; rw [show a2.add 0 = a2 from by simp [Addr.add]] at d3; rw [show a1.add 1 = ⟨a1.block, a1.off + 1, none⟩ from by simp [Addr.add]] at d1; rw [show a1.add 2 = ⟨a1.block, a1.off + 2, none⟩ from by simp [Addr.add]] at d2; simp only [List.getD_cons_zero, List.getD_cons_succ] at d0 d1 d2 d3; clear hv hu hb))
  go_ret
  exact ⟨rfl, B2.out⟩

/-- What a case's cells hold. -/
def Iscase5 (W : World) (v : Value) (r n : Int) (A : Option Addr) (len cap : Nat) (zs : List Int) (op : ByteArray) (x y t : Int) : Prop :=
  v = .agg #[.int .i64 r, .int .i64 n, .slice A len cap, .string op, .int .i64 x, .int .i64 y, .int .i64 t] ∧ len * 8 ≤ 140737488351232 ∧
  ((A = none ∧ len = 0 ∧ cap = 0 ∧ zs = []) ∨ ∃ a, A = some a ∧ len ≤ cap ∧ cap ≤ maxLen ∧ zs.length = cap ∧ (∀ i, i < zs.length → W.cell? (a.add i) = some (.int .i64 (zs.getD i 0))) ∧ ∀ n ∈ zs, (Lit.int .i64 n).wf = true)
theorem open_case5 {H : Type} {enc : TypeId × Value → H} {W : World} {T : TypeId} {v : Value} {d : DataW H} {p : List MemPlace} {r0 : Reach} {b0 : Nat} {ts : List TypeId} {ds : List (DataW H)} {fs : Array Field}
    (hT : Tryz.prog.underlying T = some (.struct fs)) (hfs : fs.toList.map (·.type) = [3, 3, 22, 24, 3]) (hof : fs.toList.map (·.offset) = [0, 1, 2, 3, 6]) (hC : Tryz.prog.cellsOf T = 7)
    (hv : Value.okWide Tryz.prog W r0 b0 T v) (h : DataW.Trod enc Tryz.prog W 0 (fun _ => true) true T v d p)
    (hsz : (DataW.weightsEach Tryz.prog ts ds).all (· ≤ reachBytes) = true) (ht : ts[0]? = some T) (hd : ds[0]? = some d) :
    ∃ r n A len cap zs op x y t, Iscase5 W v r n A len cap zs op x y t := by
  obtain ⟨cs, rfl, hsc⟩ := okWide_struct hT hv
  rw [hC] at hsc
  obtain ⟨fuel, hf⟩ := h
  obtain ⟨xs, m, _, hx, hl, hlen, hfld⟩ := DataW.trod_struct hT hf
  obtain ⟨fl⟩ := fs
  obtain ⟨cl⟩ := cs
  have h5 : fl.length = 5 := by have := congrArg List.length hfs; simpa using this
  have hx5 : xs.length = 5 := by rw [hlen]; exact h5
  match fl, h5, cl, hsc, xs, hx5 with
  | [f0, f1, f2, f3, f4], _, [c0, c1, c2, c3, c4, c5, c6], _, [x0, x1, x2, x3, x4], _ =>
    have hw : (DataW.weightsEach Tryz.prog ([f0, f1, f2, f3, f4].map (·.type)) [x0.1, x1.1, x2.1, x3.1, x4.1]).all (· ≤ reachBytes) = true := by
      rw [List.all_eq_true] at hsz ⊢
      intro z hz
      refine hsz z (DataW.weights_mem_each ht hd z ?_)
      obtain ⟨rfl, _⟩ := Prod.mk.inj hx
      simp only [DataW.weights, hT]
      exact hz
    rw [show [f0, f1, f2, f3, f4].map (·.type) = [3, 3, 22, 24, 3] from hfs] at hw
    simp only [List.map_cons, List.map_nil, List.cons.injEq, and_true] at hfs hof
    obtain ⟨t0, t1, t2, t3, t4⟩ := hfs
    obtain ⟨o0, o1, o2, o3, o4⟩ := hof
    have kc3 : Tryz.prog.cellsOf 3 = 1 := by kernel_rfl
    have kc22 : Tryz.prog.cellsOf 22 = 1 := by kernel_rfl
    have kc24 : Tryz.prog.cellsOf 24 = 3 := by kernel_rfl
    have g0 := hfld 0 f0 rfl
    have g1 := hfld 1 f1 rfl
    have g2 := hfld 2 f2 rfl
    have g3 := hfld 3 f3 rfl
    have g4 := hfld 4 f4 rfl
    simp only [Value.cells, t0, t1, t2, t3, t4, o0, o1, o2, o3, o4, kc3, kc22, kc24, List.drop_succ_cons, List.drop_zero, List.take_succ_cons, List.take_zero, List.getElem?_cons_zero, List.getElem?_cons_succ] at g0 g1 g2 g3 g4
    obtain ⟨r, e0, _, _⟩ := DataW.trod_int Tryz.underlying3 g0
    obtain ⟨n, e1, _, _⟩ := DataW.trod_int Tryz.underlying3 g1
    obtain ⟨t, e4, _, _⟩ := DataW.trod_int Tryz.underlying3 g4
    obtain ⟨ys, m2, _, _, _, hlen2, hfld2⟩ := DataW.trod_struct Tryz.underlying24 g3
    match ys, hlen2 with
    | [y0, y1, y2], _ =>
      have kc9 : Tryz.prog.cellsOf 9 = 1 := by kernel_rfl
      have k0 : DataW.trod enc Tryz.prog W 0 (fun _ => true) true m2 9 [c3] = some y0 := by have h := hfld2 0 _ rfl; simpa [kc9, kc3] using h
      have k1 : DataW.trod enc Tryz.prog W 0 (fun _ => true) true m2 3 [c4] = some y1 := by have h := hfld2 1 _ rfl; simpa [kc9, kc3] using h
      have k2 : DataW.trod enc Tryz.prog W 0 (fun _ => true) true m2 3 [c5] = some y2 := by have h := hfld2 2 _ rfl; simpa [kc9, kc3] using h
      obtain ⟨op, e5, _, _⟩ := DataW.trod_string Tryz.underlying9 k0
      obtain ⟨x, e6, _, _⟩ := DataW.trod_int Tryz.underlying3 k1
      obtain ⟨y, e7, _, _⟩ := DataW.trod_int Tryz.underlying3 k2
      simp only [List.cons.injEq, and_true] at e0 e1 e4 e5 e6 e7
      subst e0 e1 e4 e5 e6 e7
      have hy : ∀ A len cap, c2 = .slice A len cap → len * 8 ≤ 140737488351232 := fun A len cap e => by
        subst e
        exact sized_ints hw (j := 2) (t := 22) rfl rfl Tryz.underlying22 Tryz.underlying3 (by kernel_rfl) (by kernel_rfl) ⟨m, g2⟩
      rcases open_ints Tryz.underlying22 Tryz.underlying3 (by kernel_rfl) g2 with ⟨hcs, _⟩ | ⟨ax, l, cp, zs, hcs, _, hle, hm, hz, _, hcell, hwz⟩
      · simp only [List.cons.injEq, and_true] at hcs
        subst hcs
        exact ⟨r, n, none, 0, 0, [], op, x, y, t, rfl, by decide, .inl ⟨rfl, rfl, rfl, rfl⟩⟩
      · simp only [List.cons.injEq, and_true] at hcs
        subst hcs
        exact ⟨r, n, some ax, l, cp, zs, op, x, y, t, rfl, hy _ _ _ rfl, .inr ⟨ax, rfl, hle, hm, by simpa using hz, hcell, hwz⟩⟩

/-- What a case's cells hold. -/
def Iscase6 (W : World) (v : Value) (r n : Int) (A : Option Addr) (len cap : Nat) (zs : List Int) (op : ByteArray) (x y t q : Int) : Prop :=
  v = .agg #[.int .i64 r, .int .i64 n, .slice A len cap, .string op, .int .i64 x, .int .i64 y, .int .i64 t, .int .i64 q] ∧ len * 8 ≤ 140737488351232 ∧
  ((A = none ∧ len = 0 ∧ cap = 0 ∧ zs = []) ∨ ∃ a, A = some a ∧ len ≤ cap ∧ cap ≤ maxLen ∧ zs.length = cap ∧ (∀ i, i < zs.length → W.cell? (a.add i) = some (.int .i64 (zs.getD i 0))) ∧ ∀ n ∈ zs, (Lit.int .i64 n).wf = true)
theorem open_case6 {H : Type} {enc : TypeId × Value → H} {W : World} {T : TypeId} {v : Value} {d : DataW H} {p : List MemPlace} {r0 : Reach} {b0 : Nat} {ts : List TypeId} {ds : List (DataW H)} {fs : Array Field}
    (hT : Tryz.prog.underlying T = some (.struct fs)) (hfs : fs.toList.map (·.type) = [3, 3, 22, 24, 3, 3]) (hof : fs.toList.map (·.offset) = [0, 1, 2, 3, 6, 7]) (hC : Tryz.prog.cellsOf T = 8)
    (hv : Value.okWide Tryz.prog W r0 b0 T v) (h : DataW.Trod enc Tryz.prog W 0 (fun _ => true) true T v d p)
    (hsz : (DataW.weightsEach Tryz.prog ts ds).all (· ≤ reachBytes) = true) (ht : ts[0]? = some T) (hd : ds[0]? = some d) :
    ∃ r n A len cap zs op x y t q, Iscase6 W v r n A len cap zs op x y t q := by
  obtain ⟨cs, rfl, hsc⟩ := okWide_struct hT hv
  rw [hC] at hsc
  obtain ⟨fuel, hf⟩ := h
  obtain ⟨xs, m, _, hx, hl, hlen, hfld⟩ := DataW.trod_struct hT hf
  obtain ⟨fl⟩ := fs
  obtain ⟨cl⟩ := cs
  have h5 : fl.length = 6 := by have := congrArg List.length hfs; simpa using this
  have hx5 : xs.length = 6 := by rw [hlen]; exact h5
  match fl, h5, cl, hsc, xs, hx5 with
  | [f0, f1, f2, f3, f4, f5], _, [c0, c1, c2, c3, c4, c5, c6, c7], _, [x0, x1, x2, x3, x4, x5], _ =>
    have hw : (DataW.weightsEach Tryz.prog ([f0, f1, f2, f3, f4, f5].map (·.type)) [x0.1, x1.1, x2.1, x3.1, x4.1, x5.1]).all (· ≤ reachBytes) = true := by
      rw [List.all_eq_true] at hsz ⊢
      intro z hz
      refine hsz z (DataW.weights_mem_each ht hd z ?_)
      obtain ⟨rfl, _⟩ := Prod.mk.inj hx
      simp only [DataW.weights, hT]
      exact hz
    rw [show [f0, f1, f2, f3, f4, f5].map (·.type) = [3, 3, 22, 24, 3, 3] from hfs] at hw
    simp only [List.map_cons, List.map_nil, List.cons.injEq, and_true] at hfs hof
    obtain ⟨t0, t1, t2, t3, t4, t5⟩ := hfs
    obtain ⟨o0, o1, o2, o3, o4, o5⟩ := hof
    have kc3 : Tryz.prog.cellsOf 3 = 1 := by kernel_rfl
    have kc22 : Tryz.prog.cellsOf 22 = 1 := by kernel_rfl
    have kc24 : Tryz.prog.cellsOf 24 = 3 := by kernel_rfl
    have g0 := hfld 0 f0 rfl
    have g1 := hfld 1 f1 rfl
    have g2 := hfld 2 f2 rfl
    have g3 := hfld 3 f3 rfl
    have g4 := hfld 4 f4 rfl
    have g5 := hfld 5 f5 rfl
    simp only [Value.cells, t0, t1, t2, t3, t4, t5, o0, o1, o2, o3, o4, o5, kc3, kc22, kc24, List.drop_succ_cons, List.drop_zero, List.take_succ_cons, List.take_zero, List.getElem?_cons_zero, List.getElem?_cons_succ] at g0 g1 g2 g3 g4 g5
    obtain ⟨r, e0, _, _⟩ := DataW.trod_int Tryz.underlying3 g0
    obtain ⟨n, e1, _, _⟩ := DataW.trod_int Tryz.underlying3 g1
    obtain ⟨t, e4, _, _⟩ := DataW.trod_int Tryz.underlying3 g4
    obtain ⟨q, e8, _, _⟩ := DataW.trod_int Tryz.underlying3 g5
    obtain ⟨ys, m2, _, _, _, hlen2, hfld2⟩ := DataW.trod_struct Tryz.underlying24 g3
    match ys, hlen2 with
    | [y0, y1, y2], _ =>
      have kc9 : Tryz.prog.cellsOf 9 = 1 := by kernel_rfl
      have k0 : DataW.trod enc Tryz.prog W 0 (fun _ => true) true m2 9 [c3] = some y0 := by have h := hfld2 0 _ rfl; simpa [kc9, kc3] using h
      have k1 : DataW.trod enc Tryz.prog W 0 (fun _ => true) true m2 3 [c4] = some y1 := by have h := hfld2 1 _ rfl; simpa [kc9, kc3] using h
      have k2 : DataW.trod enc Tryz.prog W 0 (fun _ => true) true m2 3 [c5] = some y2 := by have h := hfld2 2 _ rfl; simpa [kc9, kc3] using h
      obtain ⟨op, e5, _, _⟩ := DataW.trod_string Tryz.underlying9 k0
      obtain ⟨x, e6, _, _⟩ := DataW.trod_int Tryz.underlying3 k1
      obtain ⟨y, e7, _, _⟩ := DataW.trod_int Tryz.underlying3 k2
      simp only [List.cons.injEq, and_true] at e0 e1 e4 e5 e6 e7 e8
      subst e0 e1 e4 e5 e6 e7 e8
      have hy : ∀ A len cap, c2 = .slice A len cap → len * 8 ≤ 140737488351232 := fun A len cap e => by
        subst e
        exact sized_ints hw (j := 2) (t := 22) rfl rfl Tryz.underlying22 Tryz.underlying3 (by kernel_rfl) (by kernel_rfl) ⟨m, g2⟩
      rcases open_ints Tryz.underlying22 Tryz.underlying3 (by kernel_rfl) g2 with ⟨hcs, _⟩ | ⟨ax, l, cp, zs, hcs, _, hle, hm, hz, _, hcell, hwz⟩
      · simp only [List.cons.injEq, and_true] at hcs
        subst hcs
        exact ⟨r, n, none, 0, 0, [], op, x, y, t, q, rfl, by decide, .inl ⟨rfl, rfl, rfl, rfl⟩⟩
      · simp only [List.cons.injEq, and_true] at hcs
        subst hcs
        exact ⟨r, n, some ax, l, cp, zs, op, x, y, t, q, rfl, hy _ _ _ rfl, .inr ⟨ax, rfl, hle, hm, by simpa using hz, hcell, hwz⟩⟩
end Go.Proofs.YtiialjmpfeopjaaGreat.Sp
