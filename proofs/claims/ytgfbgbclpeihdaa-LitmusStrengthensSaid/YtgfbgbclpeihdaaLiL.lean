/- The closure that walks all interleavings: plain lemmas; no condition. -/
import Derived.Test.YtgfbgbclpeihdaaLiK
namespace Go.Proofs.Ytgfbgbclpeihdaa.Li
open Go.RowKit Go.Proofs.YtgfbgbclpeihdaaW.PrintWords Go.Proofs.YtgfbgbclpeihdaaW.PrintLast Go.Proofs.YtgfbgbclpeihdaaW.PrintMore
set_option linter.unusedVariables false
set_option linter.unusedSimpArgs false
set_option maxHeartbeats 8000000
set_option maxRecDepth 100000
/-- The rows collected so far. -/
def AllR (W : World) (B : Nat) (v : Value) (es : List RowE) : Prop := kdE.R 46 W B (fun _ => True) v es ∧ ∀ e ∈ es, Kd.R (Kd.int .i64) 3 W B (fun _ => True) (encE e) e.2.2 ∧ e.2.2.length ≤ 1000000
/-- What a call leaves: all but the list's variable and its row. -/
structure Kp (W W' : World) (ga : Nat) (v v' : Value) : Prop where
  os : W'.os = W.os
  tape : W'.tape = W.tape
  output : W'.output = W.output
  size : W.heap.size ≤ W'.heap.size
  block : ∀ k, k < W.heap.size → k ≠ ga → some k ≠ v.ownBlock → W'.heap[k]? = W.heap[k]?
  own : v'.ownBlock = v.ownBlock ∨ ∃ b, v'.ownBlock = some b ∧ W.heap.size ≤ b
theorem Kp.of_below {W W' : World} {ga : Nat} {v : Value} (h : Below W.heap.size W W') : Kp W W' ga v v := ⟨h.os, h.tape, h.output, h.size, fun k hk _ _ => h.block k hk, .inl rfl⟩
theorem Kp.trans {W W1 W2 : World} {ga : Nat} {v v1 v2 : Value} (h : Kp W W1 ga v v1) (k : Kp W1 W2 ga v1 v2) : Kp W W2 ga v v2 := by
  refine ⟨k.os.trans h.os, k.tape.trans h.tape, k.output.trans h.output, Nat.le_trans h.size k.size, fun j hj h1 h2 => ?_, ?_⟩
  · refine (k.block j (Nat.lt_of_lt_of_le hj h.size) h1 (fun e => ?_)).trans (h.block j hj h1 h2)
    rcases h.own with e1 | ⟨b, e1, hb⟩
    · exact h2 (e.trans e1)
    · rw [e1] at e
      injection e with e
      omega
  · rcases k.own with e2 | ⟨b, e2, hb⟩
    · rw [e2]; exact h.own
    · exact .inr ⟨b, e2, Nat.le_trans h.size hb⟩
/-- A block that is neither stays. -/
theorem Kp.keep {W W' : World} {ga B : Nat} {v v' : Value} {es : List RowE} {ca : Array Value} (hk : Kp W W' ga v v') (hga : W.heap[ga]? = some (.cells ca 33 (0, 0))) (hv : kdE.R 46 W B (fun _ => True) v es) {g T : Nat} {cs : Array Value} (h : W.heap[g]? = some (.cells cs T (0, 0))) (h1 : T ≠ 33) (h2 : T ≠ 46) : W'.heap[g]? = some (.cells cs T (0, 0)) := by
  refine (hk.block g (blk_lt h) (fun e => ?_) (Kd.R_ne hv h (fun e => h2 e.symm))).trans h
  subst e
  rw [hga] at h
  injection h with h
  injection h with _ h
  exact h1 h.symm
theorem RMs.kp {W W' : World} {ga B : Nat} {v v' : Value} {es : List RowE} {ca : Array Value} {A : Nat → Option Addr} {C : Nat → Nat} {X : Nat → List Int} (h : RMs W B A C X) (hk : Kp W W' ga v v') (hga : W.heap[ga]? = some (.cells ca 33 (0, 0))) (hv : kdE.R 46 W B (fun _ => True) v es) : RMs W' B A C X := fun k hk3 =>
  Kd.R_mono (Kd.R_step (Kd.R_bound (h k hk3)) (fun j hj hlt => by
    obtain ⟨_, _, _, q, hq, cells, hc⟩ := hj
    have hq3 : q = 3 := by simpa [Kd.int, Kd.scalar] using hq
    subst hq3
    exact (hk.keep hga hv hc (by decide) (by decide)).trans hc.symm)) (fun _ _ => trivial)
structure Env (w00 W : World) (A : Option Addr) (c : Nat) (P : List (List LOp)) (gp gw ga : Nat) (v : Value) : Prop where
  p : W.heap[gp]? = some (.cells #[.slice A P.length c] 24 (0, 0))
  f : W.heap[gw]? = some (.cells #[.func (.func 36) #[] #[.pointer (some ⟨gp, 0, none⟩), .pointer (some ⟨gw, 0, none⟩), .pointer (some ⟨ga, 0, none⟩)]] 49 (0, 0))
  a : W.heap[ga]? = some (.cells #[v] 33 (0, 0))
  b : Below w00.heap.size w00 W
  g : w00.heap.size ≤ ga
theorem Env.below {w00 W W' : World} {A : Option Addr} {c : Nat} {P : List (List LOp)} {gp gw ga : Nat} {v : Value} (h : Env w00 W A c P gp gw ga v) (hb : Below W.heap.size W W') : Env w00 W' A c P gp gw ga v :=
  ⟨(hb.block _ (blk_lt h.p)).trans h.p, (hb.block _ (blk_lt h.f)).trans h.f, (hb.block _ (blk_lt h.a)).trans h.a, h.b.trans (hb.mono h.b.size), h.g⟩
theorem AllR.below {W W' : World} {B : Nat} {v : Value} {es : List RowE} (h : AllR W B v es) (hb : Below W.heap.size W W') : AllR W' B v es :=
  ⟨Kd.R_below h.1 hb, fun e he => ⟨Kd.R_below (h.2 e he).1 hb, (h.2 e he).2⟩⟩
def rem (P : List (List LOp)) (nx : List Nat) : Nat := ((P.getD 0 []).length - nAt nx 0) + ((P.getD 1 []).length - nAt nx 1) + ((P.getD 2 []).length - nAt nx 2)
theorem rem_set {P : List (List LOp)} {nx : List Nat} {t : Nat} (ht : t < 3) (hn : nx.length = 3) (h : nAt nx t < (P.getD t []).length) : rem P (nx.set t (nAt nx t + 1)) < rem P nx := by
  unfold rem
  match nx, hn with
  | [a, b, c], _ =>
    rcases lt3 ht with rfl | rfl | rfl <;> (simp only [nAt, List.set_cons_zero, List.set_cons_succ, List.getD_cons_zero, List.getD_cons_succ] at h ⊢; omega)
theorem nAt_set {nx : List Nat} {t k v : Nat} (hn : nx.length = 3) (ht : t < 3) (hk : k < 3) : nAt (nx.set t v) k = if k = t then v else nAt nx k := by
  match nx, hn with
  | [a, b, c], _ => rcases lt3 ht with rfl | rfl | rfl <;> rcases lt3 hk with rfl | rfl | rfl <;> rfl
theorem out_cat (ws : List Int) (hw : ws.length = 3) (nx : List Nat) (X : Nat → List Int) : outc (memP ws nx X) = cat X 3 ++ [wAt ws 0, wAt ws 1, wAt ws 2] := by
  match ws, hw with
  | [a, b, c], _ => simp [outc, memP, cat, wAt, List.range_succ]
def T36 : Bool × List (List Nat × List Nat) := (true, [([], []), ([], []), ([1], [1]), ([2], [2]), ([0, 3, 2], [0, 3]), ([4, 4, 0, 1, 2, 3, 4], [4])])
def B36 : List Nat := [0, 0, 2, 6, 15, 31]
theorem tab36 : rtab .any (opsOf Try.f36 16) = T36 := by kernel_rfl
theorem bits36 : waitsOk T36.2 B36 = true := by kernel_rfl
theorem Kp.of_grown {W W' : World} {ga : Nat} {v v' : Value} (h : W.grownBy W' v.ownBlock) (hat : v'.ownBlock = v.ownBlock ∨ ∃ b, v'.ownBlock = some b ∧ W.heap.size ≤ b) : Kp W W' ga v v' := ⟨h.os, h.tape, h.output, h.size, fun k hk _ h2 => h.block k hk h2, hat⟩
theorem Kp.of_store {W : World} {ga B : Nat} {v u : Value} {es : List RowE} {ca : Array Value} (h : W.heap[ga]? = some (.cells ca 33 (0, 0))) (hv : kdE.R 46 W B (fun _ => True) v es) : Kp W (W.setCell ⟨ga, 0, none⟩ u) ga v v :=
  ⟨rfl, rfl, rfl, by simp [World.setCell], fun k hk h1 _ => Below.heap_setCell W ⟨ga, 0, none⟩ u k h1, .inl rfl⟩
theorem allr_set {W : World} {ga B : Nat} {v : Value} {es : List RowE} {ca : Array Value} (h : AllR W B v es) (ha : W.heap[ga]? = some (.cells ca 33 (0, 0))) (u : Value) : AllR (W.setCell ⟨ga, 0, none⟩ u) B v es :=
  ⟨Kd.R_set h.1 ha (by intro q hq; have e : q = 46 := (by simpa [kdE, Kd.scalar] using hq); subst e; decide) 0 u, fun e he => ⟨Kd.R_set (h.2 e he).1 ha (by intro q hq; have e : q = 3 := (by simpa [Kd.int, Kd.scalar] using hq); subst e; decide) 0 u, (h.2 e he).2⟩⟩
theorem allr_snoc {W W' : World} {B : Nat} {v v' : Value} {es : List RowE} {p : RowE} (h : AllR W B v es) (ho : kdE.R 46 W' B (fun _ => True) v' (es ++ [p])) (hg : W.grownBy W' v.ownBlock) (hp : Kd.R (Kd.int .i64) 3 W B (fun _ => True) (encE p) p.2.2) (hl : p.2.2.length ≤ 1000000) : AllR W' B v' (es ++ [p]) := by
  have keep : ∀ (q : RowE), Kd.R (Kd.int .i64) 3 W B (fun _ => True) (encE q) q.2.2 → Kd.R (Kd.int .i64) 3 W' B (fun _ => True) (encE q) q.2.2 := fun q hq =>
    Kd.R_mono (Kd.R_step (Kd.R_bound hq) (fun j hj hlt => by
      obtain ⟨_, _, _, r, hr, cells, hc⟩ := hj
      have e : r = 3 := by simpa [Kd.int, Kd.scalar] using hr
      subst e
      exact hg.block j hlt (Kd.R_ne h.1 hc (by decide)))) (fun _ _ => trivial)
  refine ⟨ho, fun e he => ?_⟩
  rcases List.mem_append.1 he with he | he
  · exact ⟨keep e (h.2 e he).1, (h.2 e he).2⟩
  · rw [List.mem_singleton.1 he]
    exact ⟨keep p hp, hl⟩
theorem Env.pe {w00 W : World} {A : Option Addr} {c : Nat} {P : List (List LOp)} {gp gw ga : Nat} {v : Value} (h : Env w00 W A c P gp gw ga v) : W.cell? ⟨gp, 0, none⟩ = some (.slice A P.length c) := (Go.Lib.cell_of_heap h.p 0).trans rfl
theorem Env.fe {w00 W : World} {A : Option Addr} {c : Nat} {P : List (List LOp)} {gp gw ga : Nat} {v : Value} (h : Env w00 W A c P gp gw ga v) : W.cell? ⟨gw, 0, none⟩ = some (.func (.func 36) #[] #[.pointer (some ⟨gp, 0, none⟩), .pointer (some ⟨gw, 0, none⟩), .pointer (some ⟨ga, 0, none⟩)]) := (Go.Lib.cell_of_heap h.f 0).trans rfl
theorem Env.ae {w00 W : World} {A : Option Addr} {c : Nat} {P : List (List LOp)} {gp gw ga : Nat} {v : Value} (h : Env w00 W A c P gp gw ga v) : W.cell? ⟨ga, 0, none⟩ = some v := (Go.Lib.cell_of_heap h.a 0).trans rfl
/-- What a call of the closure leaves. -/
def WPost (w00 : World) (A : Option Addr) (c : Nat) (P : List (List LOp)) (gp gw ga : Nat) (W W' : World) (v : Value) (T : List (List Int)) : Prop :=
  ∃ v' es', Env w00 W' A c P gp gw ga v' ∧ AllR W' w00.heap.size v' es' ∧ es'.map (·.2.2) = T ∧ Kp W W' ga v v'
/-- What is claimed of a call of the closure. -/
def WalkAt (w00 : World) (A : Option Addr) (c : Nat) (P : List (List LOp)) (gp gw ga : Nat) (f : Nat) : Prop :=
  ∀ (W : World) (ws : List Int) (nx : List Nat) (A' : Nat → Option Addr) (C' : Nat → Nat) (X : Nat → List Int) (v : Value) (es : List RowE),
    Env w00 W A c P gp gw ga v → AllR W w00.heap.size v es → ws.length = 3 → nx.length = 3 → RMs W w00.heap.size A' C' X →
    (∀ k, k < 3 → nAt nx k ≤ (P.getD k []).length ∧ (X k).length ≤ nAt nx k) → rem P nx < f → es.length + (outsL P f (memP ws nx X)).length ≤ 1000000000000 →
    Calls Try.prog 36 #[.agg (memA ws nx A' C' X), .pointer (some ⟨gp, 0, none⟩), .pointer (some ⟨gw, 0, none⟩), .pointer (some ⟨ga, 0, none⟩)] W fun e W' => e = .returned (.tuple #[]) ∧ WPost w00 A c P gp gw ga W W' v (es.map (·.2.2) ++ outsL P f (memP ws nx X))
theorem walk_step (w00 : World) (A : Option Addr) (c : Nat) (P : List (List LOp)) (gp gw ga : Nat) (hp : PAt w00 A P) (hP3 : P.length ≤ 3) (hok : P.flatten.all okL = true) (hlen : ∀ t, (P.getD t []).length ≤ 1000) (f : Nat) (ih : WalkAt w00 A c P gp gw ga f) : WalkAt w00 A c P gp gw ga (f + 1) := by
  intro W ws nx A' C' X v es henv hall hws hnx hrm hnb hrem hcnt
  have IH := Aside0.mk ih
  have HP := Aside0.mk hp
  have HOK := Aside0.mk hok
  have HLEN := Aside0.mk hlen
  have HWS := Aside0.mk hws
  have HNX := Aside0.mk hnx
  have HNB := Aside0.mk hnb
  have HREM := Aside0.mk hrem
  have hp3 : (P.length : Int) ≤ 3 := by omega
  obtain ⟨TOT, hTOT⟩ : ∃ TOT, TOT = es.map (·.2.2) ++ outsL P (f + 1) (memP ws nx X) := ⟨_, rfl⟩
  have HCNT := Aside0.mk (show TOT.length ≤ 1000000000000 from by rw [hTOT, List.length_append, List.length_map]; exact hcnt)
  rw [← hTOT]
  have m0 : MAt (W.alloc (.cells (memA ws nx A' C' X) 53 (0, 0))) W.heap.size ws nx A' C' X := heap_alloc_new W _
  have b0 := al1 W (.cells (memA ws nx A' C' X) 53 (0, 0))
  have HGA := Aside0.mk henv.g
  have HGP := Aside0.mk (show gp ≠ ga from fun e => by have h1 := henv.p; have h2 := henv.a; rw [e, h2] at h1; injection h1 with h1; injection h1 with _ h1; exact absurd h1 (by decide))
  have HGW := Aside0.mk (show gw ≠ ga from fun e => by have h1 := henv.f; have h2 := henv.a; rw [e, h2] at h1; injection h1 with h1; injection h1 with _ h1; exact absurd h1 (by decide))
  have E0 := Aside0.mk (henv.below b0)
  have R0 := Aside0.mk (hall.below b0)
  have M0 := Aside0.mk m0
  have S0 := Aside0.mk (hrm.below b0)
  have K0 := Aside0.mk (Kp.of_below (ga := ga) (v := v) b0)
  have T0 := Aside0.mk (show es.map (·.2.2) ++ fromT P (outsL P f) (memP ws nx X) P.length 0 true = TOT from hTOT.symm)
  have pe := E0.out.pe
  clear ih hp hok hlen hws hnx hnb hrem hcnt hTOT m0 b0 henv hall hrm
  go_enter Try.func36, Try.ntmps36
  go_upto_region 2 with (fail)
  (try simp only [Act.put, List.setIfInBounds_toArray, List.set_cons_zero, List.set_cons_succ])
  generalize W.alloc (.cells (memA ws nx A' C' X) 53 (0, 0)) = W1 at *
  generalize W.heap.size = gm at *
  go_wp2
  go_loopg [5, 14] P.length (fun gg v5 v14 wr => ∃ (t : Nat) (over : Bool) (va : Value) (es : List RowE), t ≤ P.length ∧ P.length - t ≤ gg ∧ v14 = .int .i64 t ∧ v5 = .bool over ∧ Aside0 (Env w00 wr A c P gp gw ga va) ∧ Aside0 (AllR wr w00.heap.size va es) ∧ Aside0 (MAt wr gm ws nx A' C' X) ∧ Aside0 (RMs wr w00.heap.size A' C' X) ∧ Aside0 (Kp W wr ga v va) ∧ Aside0 (es.map (·.2.2) ++ fromT P (outsL P f) (memP ws nx X) (P.length - t) t over = TOT))
  case atStart => exact ⟨0, true, v, es, by omega, by omega, rfl, rfl, E0, R0, M0, S0, K0, T0⟩
  case round =>
    clear E0 R0 M0 S0 K0 T0 pe
    obtain ⟨t, over, va, ea, ht, hgg, rfl, rfl, E1, R1, M1, S1, K1, T1⟩ := hrel
    by_cases hlt : t < P.length
    · have htl : (t : Int) < (P.length : Int) := by omega
      have ht3 : t < 3 := by omega
      have hti : (t : Int) < 3 := by omega
      obtain ⟨ad, B0, c0, hA, hcell, hlc, hoa⟩ := HP.out.below E1.out.b t hlt
      subst hA
      have HLP := Aside0.mk (show P.getD t [] = P[t] from by rw [List.getD_eq_getElem?_getD, List.getElem?_eq_getElem hlt]; rfl)
      have hnb := (HNB.out t ht3).1
      have hll := HLEN.out t
      have HFT := Aside0.mk (show fromT P (outsL P f) (memP ws nx X) (P.length - t) t over = if nAt nx t = (P.getD t []).length then fromT P (outsL P f) (memP ws nx X) (P.length - (t + 1)) (t + 1) over else (goesL (memP ws nx X) t ((P.getD t []).getD (nAt nx t) default)).flatMap (outsL P f) ++ (if accL ((P.getD t []).getD (nAt nx t) default) then fromT P (outsL P f) (memP ws nx X) (P.length - (t + 1)) (t + 1) false else []) from by
        rw [show P.length - t = (P.length - (t + 1)) + 1 by omega]; rfl)
      rw [HLP.out] at hnb hll HFT
      have HOKL := Aside0.mk (show ∀ i (hi : i < (P[t]).length), okL (P[t])[i] = true from fun i hi => by
        have := HOK.out
        rw [List.all_eq_true] at this
        exact this _ (List.mem_flatten.2 ⟨P[t], List.getElem_mem hlt, List.getElem_mem hi⟩))
      have HOA := Aside0.mk hoa
      obtain ⟨cn, _⟩ := M1.out.next ht3
      obtain ⟨n, hn⟩ : ∃ n, n = nAt nx t := ⟨_, rfl⟩
      rw [← hn] at cn hnb HFT
      have HN := Aside0.mk hn
      by_cases hd : n = (P[t]).length
      · rw [if_pos hd] at HFT
        have hdb : ((n : Int) == ((P[t]).length : Int)) = true := by simp; omega
        clear HOKL HOA hoa hn HLP
        generalize (P[t]).length = L at *
        clear hd
        go_wp2
        go_roundg (P.length - (t + 1))
        case measure => omega
        case rel => exact ⟨t + 1, over, va, ea, by omega, by omega, by go_num, rfl, E1, R1, M1, S1, K1, ⟨by rw [← T1.out, HFT.out]⟩⟩
      · have hnl : n < (P[t]).length := by omega
        have hdb : ((n : Int) == ((P[t]).length : Int)) = false := by simp; omega
        have hnli : (n : Int) < ((P[t]).length : Int) := by omega
        rw [if_neg hd] at HFT
        obtain ⟨ad2, hB0, c0', c1, c2, c3, c4⟩ := HOA.out n hnl
        subst hB0
        rw [add_field ad2 (n * 5) 1 (by decide)] at c1
        rw [add_field ad2 (n * 5) 2 (by decide)] at c2
        rw [add_field ad2 (n * 5) 3 (by decide)] at c3
        rw [add_field ad2 (n * 5) 4 (by decide)] at c4
        have HXO := Aside0.mk (HOKL.out n hnl)
        have HLT := Aside0.mk (show n + 1 ≤ (P.getD t []).length from by rw [HLP.out]; exact hnl)
        rw [show (P[t]).getD n default = (P[t])[n] from by rw [List.getD_eq_getElem?_getD, List.getElem?_eq_getElem hnl]; rfl] at HFT
        clear HOKL HOA hoa hn HLP
        generalize (P[t])[n] = x at *
        generalize (P[t]).length = L at *
        obtain ⟨k, l, v9, u, o⟩ := x
        simp only at c0' c1 c2 c3 c4
        clear hd hnb hll hlc
        have bo := al1 wr (.cells #[.int .i64 k, .int .i64 l, .int .i64 v9, .int .i64 u, .int .i64 o] 44 (0, 0))
        have no := heap_alloc_new wr (.cells #[.int .i64 k, .int .i64 l, .int .i64 v9, .int .i64 u, .int .i64 o] 44 (0, 0))
        have E2 := Aside0.mk (E1.out.below bo)
        have R2 := Aside0.mk (R1.out.below bo)
        have M2 := Aside0.mk (M1.out.below bo)
        have S2 := Aside0.mk (S1.out.below bo)
        have K2 := Aside0.mk (K1.out.trans (Kp.of_below bo))
        have N2 := Aside0.mk no
        obtain ⟨p0, p1, p2, p3, p4, p5, p6, p7, p8⟩ := M2.out.cells
        have k0 := (Go.Lib.cell_of_heap no 0).trans rfl
        have k1 := (Go.Lib.cell_of_heap no 1).trans rfl
        have k2 := (Go.Lib.cell_of_heap no 2).trans rfl
        have k3 := (Go.Lib.cell_of_heap no 3).trans rfl
        have k4 := (Go.Lib.cell_of_heap no 4).trans rfl
        simp only [List.getElem?_toArray, List.getElem?_cons_succ, List.getElem?_cons_zero] at k0 k1 k2 k3 k4
        have hgb : nAt nx t ≤ 100000 := by have h1 := (HNB.out t ht3).1; have h2 := HLEN.out t; omega
        have HG := Aside0.mk (goes_calls ws nx A' C' X t ⟨k, l, v9, u, o⟩ (wr.alloc (.cells #[.int .i64 k, .int .i64 l, .int .i64 v9, .int .i64 u, .int .i64 o] 44 (0, 0))) w00.heap.size HXO.out ht3 HNX.out HWS.out (by omega) S2.out (E2.out.b.size) (fun j hj => by have h1 := HNB.out j hj; have h2 := HLEN.out j; omega))
        rw [← HN.out] at HG
        clear bo no M1 S1 K1 E1 R1 hgb
        go_wp2_with (first | (go_at_call 37; refine HG.out.mono ?_; rintro e W2 ⟨vn, R, A1, C1, X1, rfl, hnx, hrm, hb, hgo, hz, hRl, hx1⟩; obtain ⟨gn, rfl, hgn, hcells⟩ := hnx; have E3 := Aside0.mk (E2.out.below hb); have R3 := Aside0.mk (R2.out.below hb); have M3 := Aside0.mk (M2.out.below hb); have S3 := Aside0.mk (S2.out.below hb); have K3 := Aside0.mk (K2.out.trans (Kp.of_below hb)); have N3 := Aside0.mk ((hb.block _ (blk_lt N2.out)).trans N2.out); have Q3 := Aside0.mk hrm; have HC := Aside0.mk hcells; have HZ := Aside0.mk hz; have HRLN := Aside0.mk hRl; have HX1 := Aside0.mk hx1; rw [hgo] at HFT; clear hrm hb hgo hz hRl hx1 hcells hgn HG))
        rw [List.flatMap_map] at HFT
        have T3 := Aside0.mk (show ea.map (·.2.2) ++ ((R.drop 0).flatMap (fun z => outsL P f (memP z (nx.set t (n + 1)) X1)) ++ (if accL ⟨k, l, v9, u, o⟩ then fromT P (outsL P f) (memP ws nx X) (P.length - (t + 1)) (t + 1) false else [])) = TOT from by rw [← T1.out, HFT.out]; rfl)
        generalize wr.heap.size = go at *
        clear E2 R2 M2 S2 K2 N2 T1 HFT k0 k1 k2 k3 k4 p0 p1 p2 p3 p4 p5 p6 p7 p8
        go_loopg [38] R.length (fun gg v38 wi => ∃ (i : Nat) (vb : Value) (eb : List RowE), i ≤ R.length ∧ R.length - i ≤ gg ∧ v38 = .int .i64 i ∧ Aside0 (Env w00 wi (some ad) c P gp gw ga vb) ∧ Aside0 (AllR wi w00.heap.size vb eb) ∧ Aside0 (MAt wi gm ws nx A' C' X) ∧ Aside0 (RMs wi w00.heap.size A' C' X) ∧ Aside0 (RMs wi w00.heap.size A1 C1 X1) ∧ Aside0 (wi.heap[gn]? = some (.cells (R.flatMap (fun z => (memA z (nx.set t (n + 1)) A1 C1 X1).toList)).toArray 53 (0, 0))) ∧ Aside0 (wi.heap[go]? = some (.cells #[.int .i64 k, .int .i64 l, .int .i64 v9, .int .i64 u, .int .i64 o] 44 (0, 0))) ∧ Aside0 (Kp W wi ga v vb) ∧ Aside0 (eb.map (·.2.2) ++ ((R.drop i).flatMap (fun z => outsL P f (memP z (nx.set t (n + 1)) X1)) ++ (if accL ⟨k, l, v9, u, o⟩ then fromT P (outsL P f) (memP ws nx X) (P.length - (t + 1)) (t + 1) false else [])) = TOT))
        case atStart => exact ⟨0, va, ea, by omega, by omega, rfl, E3, R3, M3, S3, Q3, HC, N3, K3, T3⟩
        case round =>
          clear E3 R3 M3 S3 Q3 HC N3 K3 T3
          obtain ⟨i, vb, eb, hi, hgi, rfl, E3, R3, M3, S3, Q3, HC, N3, K3, T3⟩ := hrel
          by_cases hil : i < R.length
          · have hili : (i : Int) < (R.length : Int) := by omega
            have T5 := Aside0.mk (show eb.map (·.2.2) ++ (outsL P f (memP R[i] (nx.set t (n + 1)) X1) ++ ((R.drop (i + 1)).flatMap (fun z => outsL P f (memP z (nx.set t (n + 1)) X1)) ++ (if accL ⟨k, l, v9, u, o⟩ then fromT P (outsL P f) (memP ws nx X) (P.length - (t + 1)) (t + 1) false else []))) = TOT from by
              rw [← T3.out, List.drop_eq_getElem_cons hil, List.flatMap_cons, List.append_assoc])
            have HRM := Aside0.mk (show rem P (nx.set t (n + 1)) < f from by
              have h1 := rem_set (P := P) (nx := nx) ht3 HNX.out (by rw [← HN.out]; exact HLT.out)
              rw [← HN.out] at h1
              have := HREM.out
              omega)
            clear T3
            rcases HRLN.out with hR | hR
            · obtain ⟨z, rfl⟩ : ∃ z, R = [z] := List.length_eq_one_iff.1 hR
              obtain rfl : i = 0 := by simp at hil; omega
              have hz3 : z.length = 3 := HZ.out z (by simp)
              have T6 := Aside0.mk (show eb.map (·.2.2) ++ (outsL P f (memP z (nx.set t (n + 1)) X1) ++ ((([z] : List (List Int)).drop (0 + 1)).flatMap (fun z => outsL P f (memP z (nx.set t (n + 1)) X1)) ++ (if accL ⟨k, l, v9, u, o⟩ then fromT P (outsL P f) (memP ws nx X) (P.length - (t + 1)) (t + 1) false else []))) = TOT from T5.out)
              have q := fun j => Go.Lib.cell_of_heap HC.out j
              have a0 := (q 0).trans rfl
              have a1 := (q 1).trans rfl
              have a2 := (q 2).trans rfl
              have a3 := (q 3).trans rfl
              have a4 := (q 4).trans rfl
              have a5 := (q 5).trans rfl
              have a6 := (q 6).trans rfl
              have a7 := (q 7).trans rfl
              have a8 := (q 8).trans rfl
              simp only [List.getElem?_toArray, List.getElem?_cons_succ, List.getElem?_cons_zero] at a0 a1 a2 a3 a4 a5 a6 a7 a8
              have bz := al1 wr (.cells (memA z (nx.set t (n + 1)) A1 C1 X1) 53 (0, 0))
              have nz := heap_alloc_new wr (.cells (memA z (nx.set t (n + 1)) A1 C1 X1) 53 (0, 0))
              have E4 := Aside0.mk (E3.out.below bz)
              have R4 := Aside0.mk (R3.out.below bz)
              have fe := E4.out.fe
              obtain ⟨p0, p1, p2, p3, p4, p5, p6, p7, p8⟩ := (show MAt (wr.alloc (.cells (memA z (nx.set t (n + 1)) A1 C1 X1) 53 (0, 0))) wr.heap.size z (nx.set t (n + 1)) A1 C1 X1 from nz).cells
              have HI := Aside0.mk (IH.out (wr.alloc (.cells (memA z (nx.set t (n + 1)) A1 C1 X1) 53 (0, 0))) z (nx.set t (n + 1)) A1 C1 X1 vb eb E4.out R4.out hz3 (by rw [List.length_set]; exact HNX.out) (Q3.out.below bz) (fun j hj => ⟨by rw [nAt_set HNX.out ht3 hj]; split <;> (first | (rename_i e; subst e; exact HLT.out) | exact (HNB.out j hj).1), HX1.out j hj⟩) (HRM.out) (by have h := congrArg List.length T6.out; simp only [List.length_append, List.length_map] at h; have := HCNT.out; omega))
              have BZ := Aside0.mk bz
              clear q bz nz hz3 R4
              go_wp2_with (first | (go_at_call 36; refine HI.out.mono ?_; rintro e W5 ⟨rfl, v2, e2, henv, hall, hmap, hk⟩; have KK := Aside0.mk ((Kp.of_below BZ.out).trans hk); have E5 := Aside0.mk henv; have R5 := Aside0.mk hall; have HMAP := Aside0.mk hmap; clear henv hall hmap hk HI))
              go_roundg (([z] : List (List Int)).length - (0 + 1))
              case measure => simp only [List.length_cons, List.length_nil] at hgi ⊢; omega
              case rel => exact ⟨0 + 1, v2, e2, by simp, by simp only [List.length_cons, List.length_nil]; omega, by go_num, E5, R5, ⟨KK.out.keep E3.out.a R3.out.1 M3.out (by decide) (by decide)⟩, ⟨S3.out.kp KK.out E3.out.a R3.out.1⟩, ⟨Q3.out.kp KK.out E3.out.a R3.out.1⟩, ⟨KK.out.keep E3.out.a R3.out.1 HC.out (by decide) (by decide)⟩, ⟨KK.out.keep E3.out.a R3.out.1 N3.out (by decide) (by decide)⟩, ⟨K3.out.trans KK.out⟩, ⟨by rw [HMAP.out, List.append_assoc]; exact T6.out⟩⟩
            · obtain ⟨z, z2, rfl⟩ : ∃ z z2, R = [z, z2] := by
                match R, hR with
                | [a, b], _ => exact ⟨a, b, rfl⟩
              rcases (show i = 0 ∨ i = 1 from by simp at hil; omega) with rfl | rfl
              · have hz3 : z.length = 3 := HZ.out z (by simp)
                have T6 := Aside0.mk (show eb.map (·.2.2) ++ (outsL P f (memP z (nx.set t (n + 1)) X1) ++ ((([z, z2] : List (List Int)).drop (0 + 1)).flatMap (fun z => outsL P f (memP z (nx.set t (n + 1)) X1)) ++ (if accL ⟨k, l, v9, u, o⟩ then fromT P (outsL P f) (memP ws nx X) (P.length - (t + 1)) (t + 1) false else []))) = TOT from T5.out)
                have q := fun j => Go.Lib.cell_of_heap HC.out j
                have a0 := (q 0).trans rfl
                have a1 := (q 1).trans rfl
                have a2 := (q 2).trans rfl
                have a3 := (q 3).trans rfl
                have a4 := (q 4).trans rfl
                have a5 := (q 5).trans rfl
                have a6 := (q 6).trans rfl
                have a7 := (q 7).trans rfl
                have a8 := (q 8).trans rfl
                simp only [List.getElem?_toArray, List.getElem?_cons_succ, List.getElem?_cons_zero] at a0 a1 a2 a3 a4 a5 a6 a7 a8
                have bz := al1 wr (.cells (memA z (nx.set t (n + 1)) A1 C1 X1) 53 (0, 0))
                have nz := heap_alloc_new wr (.cells (memA z (nx.set t (n + 1)) A1 C1 X1) 53 (0, 0))
                have E4 := Aside0.mk (E3.out.below bz)
                have R4 := Aside0.mk (R3.out.below bz)
                have fe := E4.out.fe
                obtain ⟨p0, p1, p2, p3, p4, p5, p6, p7, p8⟩ := (show MAt (wr.alloc (.cells (memA z (nx.set t (n + 1)) A1 C1 X1) 53 (0, 0))) wr.heap.size z (nx.set t (n + 1)) A1 C1 X1 from nz).cells
                have HI := Aside0.mk (IH.out (wr.alloc (.cells (memA z (nx.set t (n + 1)) A1 C1 X1) 53 (0, 0))) z (nx.set t (n + 1)) A1 C1 X1 vb eb E4.out R4.out hz3 (by rw [List.length_set]; exact HNX.out) (Q3.out.below bz) (fun j hj => ⟨by rw [nAt_set HNX.out ht3 hj]; split <;> (first | (rename_i e; subst e; exact HLT.out) | exact (HNB.out j hj).1), HX1.out j hj⟩) (HRM.out) (by have h := congrArg List.length T6.out; simp only [List.length_append, List.length_map] at h; have := HCNT.out; omega))
                have BZ := Aside0.mk bz
                clear q bz nz hz3 R4
                go_wp2_with (first | (go_at_call 36; refine HI.out.mono ?_; rintro e W5 ⟨rfl, v2, e2, henv, hall, hmap, hk⟩; have KK := Aside0.mk ((Kp.of_below BZ.out).trans hk); have E5 := Aside0.mk henv; have R5 := Aside0.mk hall; have HMAP := Aside0.mk hmap; clear henv hall hmap hk HI))
                go_roundg (([z, z2] : List (List Int)).length - (0 + 1))
                case measure => simp only [List.length_cons, List.length_nil] at hgi ⊢; omega
                case rel => exact ⟨0 + 1, v2, e2, by simp, by simp only [List.length_cons, List.length_nil]; omega, by go_num, E5, R5, ⟨KK.out.keep E3.out.a R3.out.1 M3.out (by decide) (by decide)⟩, ⟨S3.out.kp KK.out E3.out.a R3.out.1⟩, ⟨Q3.out.kp KK.out E3.out.a R3.out.1⟩, ⟨KK.out.keep E3.out.a R3.out.1 HC.out (by decide) (by decide)⟩, ⟨KK.out.keep E3.out.a R3.out.1 N3.out (by decide) (by decide)⟩, ⟨K3.out.trans KK.out⟩, ⟨by rw [HMAP.out, List.append_assoc]; exact T6.out⟩⟩
              · obtain ⟨z1, hz1⟩ : ∃ z1, z1 = z := ⟨_, rfl⟩
                subst hz1
                obtain ⟨z, hz2⟩ : ∃ z, z = z2 := ⟨_, rfl⟩
                subst hz2
                have hz3 : z.length = 3 := HZ.out z (by simp)
                have T6 := Aside0.mk (show eb.map (·.2.2) ++ (outsL P f (memP z (nx.set t (n + 1)) X1) ++ ((([z1, z] : List (List Int)).drop (1 + 1)).flatMap (fun z => outsL P f (memP z (nx.set t (n + 1)) X1)) ++ (if accL ⟨k, l, v9, u, o⟩ then fromT P (outsL P f) (memP ws nx X) (P.length - (t + 1)) (t + 1) false else []))) = TOT from T5.out)
                have q := fun j => Go.Lib.cell_of_heap HC.out j
                have a0 := (q 9).trans rfl
                have a1 := (q 10).trans rfl
                have a2 := (q 11).trans rfl
                have a3 := (q 12).trans rfl
                have a4 := (q 13).trans rfl
                have a5 := (q 14).trans rfl
                have a6 := (q 15).trans rfl
                have a7 := (q 16).trans rfl
                have a8 := (q 17).trans rfl
                simp only [List.getElem?_toArray, List.getElem?_cons_succ, List.getElem?_cons_zero] at a0 a1 a2 a3 a4 a5 a6 a7 a8
                have bz := al1 wr (.cells (memA z (nx.set t (n + 1)) A1 C1 X1) 53 (0, 0))
                have nz := heap_alloc_new wr (.cells (memA z (nx.set t (n + 1)) A1 C1 X1) 53 (0, 0))
                have E4 := Aside0.mk (E3.out.below bz)
                have R4 := Aside0.mk (R3.out.below bz)
                have fe := E4.out.fe
                obtain ⟨p0, p1, p2, p3, p4, p5, p6, p7, p8⟩ := (show MAt (wr.alloc (.cells (memA z (nx.set t (n + 1)) A1 C1 X1) 53 (0, 0))) wr.heap.size z (nx.set t (n + 1)) A1 C1 X1 from nz).cells
                have HI := Aside0.mk (IH.out (wr.alloc (.cells (memA z (nx.set t (n + 1)) A1 C1 X1) 53 (0, 0))) z (nx.set t (n + 1)) A1 C1 X1 vb eb E4.out R4.out hz3 (by rw [List.length_set]; exact HNX.out) (Q3.out.below bz) (fun j hj => ⟨by rw [nAt_set HNX.out ht3 hj]; split <;> (first | (rename_i e; subst e; exact HLT.out) | exact (HNB.out j hj).1), HX1.out j hj⟩) (HRM.out) (by have h := congrArg List.length T6.out; simp only [List.length_append, List.length_map] at h; have := HCNT.out; omega))
                have BZ := Aside0.mk bz
                clear q bz nz hz3 R4
                go_wp2_with (first | (go_at_call 36; refine HI.out.mono ?_; rintro e W5 ⟨rfl, v2, e2, henv, hall, hmap, hk⟩; have KK := Aside0.mk ((Kp.of_below BZ.out).trans hk); have E5 := Aside0.mk henv; have R5 := Aside0.mk hall; have HMAP := Aside0.mk hmap; clear henv hall hmap hk HI))
                go_roundg (([z1, z] : List (List Int)).length - (1 + 1))
                case measure => simp only [List.length_cons, List.length_nil] at hgi ⊢; omega
                case rel => exact ⟨1 + 1, v2, e2, by simp, by simp only [List.length_cons, List.length_nil]; omega, by go_num, E5, R5, ⟨KK.out.keep E3.out.a R3.out.1 M3.out (by decide) (by decide)⟩, ⟨S3.out.kp KK.out E3.out.a R3.out.1⟩, ⟨Q3.out.kp KK.out E3.out.a R3.out.1⟩, ⟨KK.out.keep E3.out.a R3.out.1 HC.out (by decide) (by decide)⟩, ⟨KK.out.keep E3.out.a R3.out.1 N3.out (by decide) (by decide)⟩, ⟨K3.out.trans KK.out⟩, ⟨by rw [HMAP.out, List.append_assoc]; exact T6.out⟩⟩
          · have hili : ¬ (i : Int) < (R.length : Int) := by omega
            have T4 := Aside0.mk (show eb.map (·.2.2) ++ (if accL ⟨k, l, v9, u, o⟩ then fromT P (outsL P f) (memP ws nx X) (P.length - (t + 1)) (t + 1) false else []) = TOT from by rw [← T3.out, List.drop_of_length_le (by omega)]; rfl)
            have k0 := (Go.Lib.cell_of_heap N3.out 0).trans rfl
            have k1 := (Go.Lib.cell_of_heap N3.out 1).trans rfl
            have k2 := (Go.Lib.cell_of_heap N3.out 2).trans rfl
            have k3 := (Go.Lib.cell_of_heap N3.out 3).trans rfl
            have k4 := (Go.Lib.cell_of_heap N3.out 4).trans rfl
            simp only [List.getElem?_toArray, List.getElem?_cons_succ, List.getElem?_cons_zero] at k0 k1 k2 k3 k4
            clear T3
            obtain ⟨ac, hac⟩ : ∃ ac, ac = accL ⟨k, l, v9, u, o⟩ := ⟨_, rfl⟩
            rw [← hac] at T4
            have HACC := Aside0.mk hac.symm
            clear hac
            cases ac with
            | true =>
              go_wp2_with (first | (go_at_call 38; refine (access_calls ⟨k, l, v9, u, o⟩ wr).mono ?_; rintro e W4 ⟨rfl, hb⟩; rw [HACC.out]; have E4 := Aside0.mk (E3.out.below hb); have R4 := Aside0.mk (R3.out.below hb); have M4 := Aside0.mk (M3.out.below hb); have S4 := Aside0.mk (S3.out.below hb); have K4 := Aside0.mk (K3.out.trans (Kp.of_below hb)); clear hb))
              go_roundg (P.length - (t + 1))
              case measure => omega
              case rel => exact ⟨t + 1, false, vb, eb, by omega, by omega, by go_num, rfl, E4, R4, M4, S4, K4, T4⟩
            | false =>
              go_wp2_with (first | (go_at_call 38; refine (access_calls ⟨k, l, v9, u, o⟩ wr).mono ?_; rintro e W4 ⟨rfl, hb⟩; rw [HACC.out]; have E4 := Aside0.mk (E3.out.below hb); have R4 := Aside0.mk (R3.out.below hb); have K4 := Aside0.mk (K3.out.trans (Kp.of_below hb)); clear hb))
              refine bodyPost_ret (v := .tuple #[]) (by simp [results, Try.results36, go_sem]) rfl ⟨rfl, vb, eb, E4.out, R4.out, by rw [← T4.out]; simp, K4.out⟩
    · have htl : ¬ (t : Int) < (P.length : Int) := by omega
      have htp : t = P.length := by omega
      subst htp
      rw [Nat.sub_self] at T1
      cases over with
      | false =>
        have T2 := Aside0.mk (show ea.map (·.2.2) = TOT from by rw [← T1.out]; show _ = _ ++ []; rw [List.append_nil])
        go_wp2
        go_end0
        exact ⟨rfl, va, ea, E1.out, R1.out, T2.out, K1.out⟩
      | true =>
        have T2 := Aside0.mk (show ea.map (·.2.2) ++ [outc (memP ws nx X)] = TOT from T1.out)
        clear T1
        have HAL := Aside0.mk (E1.out.a)
        have HLT := Aside0.mk (show ea.length + 1 ≤ 1000000000000 from by have h := congrArg List.length T2.out; simp only [List.length_append, List.length_map, List.length_singleton] at h; have := HCNT.out; omega)
        have HXL := Aside0.mk (show ∀ k, k < 3 → (X k).length ≤ 100000 from fun k hk => by have h1 := HNB.out k hk; have h2 := HLEN.out k; omega)
        go_wp2
        refine start_ (n := 6) (S := (fun w' => w'.cell? ⟨ga, 0, none⟩ = some va ∧ w'.cell? ⟨gm, 0, none⟩ = some (.int .i64 (wAt ws 0)) ∧ w'.cell? ⟨gm, 1, none⟩ = some (.int .i64 (wAt ws 1)) ∧ w'.cell? ⟨gm, 2, none⟩ = some (.int .i64 (wAt ws 2)) ∧ w'.cell? ⟨gm, 3, none⟩ = some (.int .i64 (((nAt nx 0 : Nat) : Int))) ∧ w'.cell? ⟨gm, 4, none⟩ = some (.int .i64 (((nAt nx 1 : Nat) : Int))) ∧ w'.cell? ⟨gm, 5, none⟩ = some (.int .i64 (((nAt nx 2 : Nat) : Int))) ∧ w'.cell? ⟨gm, 6, none⟩ = some (.slice (A' 0) (X 0).length (C' 0)) ∧ w'.cell? ⟨gm, 7, none⟩ = some (.slice (A' 1) (X 1).length (C' 1)) ∧ w'.cell? ⟨gm, 8, none⟩ = some (.slice (A' 2) (X 2).length (C' 2)))) (ds := [5]) #[false, false, false, false, false, false] (by kernel_rfl) rfl rfl ⟨(Go.Lib.cell_of_heap E1.out.a 0).trans rfl, (Go.Lib.cell_of_heap M1.out 0).trans rfl, (Go.Lib.cell_of_heap M1.out 1).trans rfl, (Go.Lib.cell_of_heap M1.out 2).trans rfl, (Go.Lib.cell_of_heap M1.out 3).trans rfl, (Go.Lib.cell_of_heap M1.out 4).trans rfl, (Go.Lib.cell_of_heap M1.out 5).trans rfl, (Go.Lib.cell_of_heap M1.out 6).trans rfl, (Go.Lib.cell_of_heap M1.out 7).trans rfl, (Go.Lib.cell_of_heap M1.out 8).trans rfl⟩ (fun hHeld => ?_); refine with_tabW tab36 bits36 (fun HT_ HW_ => ?_)
        have HOC := Aside0.mk (outcome_calls (wAt ws 0) (wAt ws 1) (wAt ws 2) ((nAt nx 0 : Nat) : Int) ((nAt nx 1 : Nat) : Int) ((nAt nx 2 : Nat) : Int) X A' C' wr.drew (fun k hk => (Kd.R_reads' (Kd.R_below (S1.out k hk) (below_drew1 (Below.refl _ _)))).2.2) HXL.out)
        have E2 := Aside0.mk (E1.out.below (show Below wr.heap.size wr wr.drew from below_drew1 (Below.refl _ _)))
        have R2 := Aside0.mk (R1.out.below (show Below wr.heap.size wr wr.drew from below_drew1 (Below.refl _ _)))
        have M2 := Aside0.mk (show MAt wr.drew gm ws nx A' C' X from M1.out)
        have K2 := Aside0.mk (K1.out.trans (Kp.of_below (show Below wr.heap.size wr wr.drew from below_drew1 (Below.refl _ _))))
        clear E1 R1 M1 S1 K1 HAL
        generalize wr.drew = W3 at E2 R2 M2 K2 HOC hHeld ⊢
        refine take_ (i := 0) (N := some 51) (v := ?_) (a' := ?_) #[true, false, false, false, false, false] rfl rfl (take_ofW HT_.out HW_.out (by kernel_rfl)) (fun _ _ _ h => h) (Or.inl ⟨by rfl, ?_⟩) hHeld ?_ ?_
        rotate_left
        · rintro w' ⟨s0, s1, s2, s3, s4, s5, s6, s7, s8, s9⟩
          go_simp
          with_reducible rfl
        rotate_left
        · simp only [Act.put, List.setIfInBounds_toArray, List.set_cons_zero, List.set_cons_succ, i64_w, i32_w]
          rfl
        refine take_ (i := 1) (N := some 52) (v := ?_) (a' := ?_) #[true, true, false, false, false, false] rfl rfl (take_ofW HT_.out HW_.out (by kernel_rfl)) (fun _ _ _ h => h) (Or.inl ⟨by rfl, ?_⟩) hHeld ?_ ?_
        rotate_left
        · rintro w' ⟨s0, s1, s2, s3, s4, s5, s6, s7, s8, s9⟩
          go_simp
          with_reducible rfl
        rotate_left
        · simp only [Act.put, List.setIfInBounds_toArray, List.set_cons_zero, List.set_cons_succ, i64_w, i32_w]
          rfl
        refine one_ (i := 2) (N := some 53) #[true, true, true, false, false, false] rfl rfl (one_of HT_.out (by kernel_rfl)) (by decide) (fun K hK => ?_)
        refine goes_ Try.func39 (by kernel_rfl) rfl #[.agg (memA ws nx A' C' X)] (by rfl) rfl rfl (by (try simp only [List.map_toArray, List.map_cons, List.map_nil]); first | done | rfl) ?_
        refine HOC.out.mono ?_
        rintro e w4 ⟨v4, rfl, ho, hb⟩
        refine ⟨_, rfl, ?_⟩
        have E4 := Aside0.mk (E2.out.below hb)
        have R4 := Aside0.mk (R2.out.below hb)
        have M4 := Aside0.mk (M2.out.below hb)
        have K4 := Aside0.mk (K2.out.trans (Kp.of_below hb))
        have HO4 := Aside0.mk (Kd.R_lower ho (E2.out.b.size))
        have HOL := Aside0.mk (show (cat X 3 ++ [wAt ws 0, wAt ws 1, wAt ws 2]).length ≤ 1000000 from by have := cat_len X 3 HXL.out; rw [List.length_append]; simp only [List.length_cons, List.length_nil]; omega)
        have T4 := Aside0.mk (show ea.map (·.2.2) ++ [cat X 3 ++ [wAt ws 0, wAt ws 1, wAt ws 2]] = TOT from by rw [← T2.out, out_cat ws HWS.out nx X])
        have HNE := Aside0.mk (show 0 < (cat X 3 ++ [wAt ws 0, wAt ws 1, wAt ws 2]).length from by rw [List.length_append]; simp)
        clear ho hb E2 R2 M2 K2 HOC T2
        refine hK.out _ _ ⟨(Go.Lib.cell_of_heap E4.out.a 0).trans rfl, (Go.Lib.cell_of_heap M4.out 0).trans rfl, (Go.Lib.cell_of_heap M4.out 1).trans rfl, (Go.Lib.cell_of_heap M4.out 2).trans rfl, (Go.Lib.cell_of_heap M4.out 3).trans rfl, (Go.Lib.cell_of_heap M4.out 4).trans rfl, (Go.Lib.cell_of_heap M4.out 5).trans rfl, (Go.Lib.cell_of_heap M4.out 6).trans rfl, (Go.Lib.cell_of_heap M4.out 7).trans rfl, (Go.Lib.cell_of_heap M4.out 8).trans rfl⟩ (fun hHeld => ?_)
        clear hK K
        refine norm_ (a' := ?_) ?_ ?_
        rotate_left
        · show Act.put _ (some 53) _ = _
          simp only [Act.put, List.setIfInBounds_toArray, List.set_cons_zero, List.set_cons_succ, i64_w, i32_w]
          rfl
        generalize cat X 3 ++ [wAt ws 0, wAt ws 1, wAt ws 2] = y at *
        obtain ⟨g4, c4, e4, hg4, hl4, _⟩ := Kd.R_form HO4.out HNE.out
        subst e4
        refine one_ (i := 3) (N := some 54) #[true, true, true, true, false, false] rfl rfl (one_of HT_.out (by kernel_rfl)) (by decide) (fun K hK => ?_)
        refine value_ (w1 := ?_) (v := ?_) (by rfl) rfl ?_ ?_
        rotate_left 2
        · go_simp
          constructor
          · rfl
          · rfl
        refine hK.out _ _ ⟨(Go.Lib.cell_of_heap (blk_alloc E4.out.a _) 0).trans rfl, (Go.Lib.cell_of_heap (blk_alloc M4.out _) 0).trans rfl, (Go.Lib.cell_of_heap (blk_alloc M4.out _) 1).trans rfl, (Go.Lib.cell_of_heap (blk_alloc M4.out _) 2).trans rfl, (Go.Lib.cell_of_heap (blk_alloc M4.out _) 3).trans rfl, (Go.Lib.cell_of_heap (blk_alloc M4.out _) 4).trans rfl, (Go.Lib.cell_of_heap (blk_alloc M4.out _) 5).trans rfl, (Go.Lib.cell_of_heap (blk_alloc M4.out _) 6).trans rfl, (Go.Lib.cell_of_heap (blk_alloc M4.out _) 7).trans rfl, (Go.Lib.cell_of_heap (blk_alloc M4.out _) 8).trans rfl⟩ (fun hHeld => ?_)
        clear hK K
        refine norm_ (a' := ?_) ?_ ?_
        rotate_left
        · show Act.put _ (some 54) _ = _
          simp only [Act.put, List.setIfInBounds_toArray, List.set_cons_zero, List.set_cons_succ, i64_w, i32_w]
          rfl
        refine one_ (i := 4) (N := some 55) #[true, true, true, true, true, false] rfl rfl (one_of HT_.out (by kernel_rfl)) (by decide) (fun K hK => ?_)
        refine Kd.R_append_step kdE (w0 := w00) w00.heap.size (by rfl) (.tmp 51) (.tmp 54) 33 46 (.slice none 0 0) 24 rfl Try.underlying33 info46 rfl (by decide) (by omega) va ea (g4, c4, y) [encE (g4, c4, y)] (fun _ => True) (fun _ => False) rfl rfl rfl (fun _ hk => hk.elim) (fun _ _ => trivial) R4.out.1 E4.out.b E4.out.b.size (by have := HLT.out; omega) ?_
        intro v5 w5 ho hb hg hat
        obtain ⟨eb, heb⟩ : ∃ eb, eb = ea ++ [(g4, c4, y)] := ⟨_, rfl⟩
        have HEB := Aside0.mk heb
        rw [← heb] at ho
        have R5 := Aside0.mk (show AllR w5 w00.heap.size v5 eb from by rw [heb]; exact allr_snoc R4.out (by rw [← heb]; exact ho) hg HO4.out HOL.out)
        have P5 := Aside0.mk ((hg.block _ (blk_lt E4.out.p) (Kd.R_ne R4.out.1 E4.out.p (by decide))).trans E4.out.p)
        have F5 := Aside0.mk ((hg.block _ (blk_lt E4.out.f) (Kd.R_ne R4.out.1 E4.out.f (by decide))).trans E4.out.f)
        have A5 := Aside0.mk ((hg.block _ (blk_lt E4.out.a) (Kd.R_ne R4.out.1 E4.out.a (by decide))).trans E4.out.a)
        have M5 := Aside0.mk ((hg.block _ (blk_lt M4.out) (Kd.R_ne R4.out.1 M4.out (by decide))).trans M4.out)
        have B5 := Aside0.mk hb
        have K5 := Aside0.mk (K4.out.trans (Kp.of_grown hg hat))
        obtain ⟨Ao, co, eo⟩ := Kd.R_slice ho
        subst eo
        clear ho hb hg hat heb
        refine hK.out _ _ ⟨(Go.Lib.cell_of_heap A5.out 0).trans rfl, (Go.Lib.cell_of_heap M5.out 0).trans rfl, (Go.Lib.cell_of_heap M5.out 1).trans rfl, (Go.Lib.cell_of_heap M5.out 2).trans rfl, (Go.Lib.cell_of_heap M5.out 3).trans rfl, (Go.Lib.cell_of_heap M5.out 4).trans rfl, (Go.Lib.cell_of_heap M5.out 5).trans rfl, (Go.Lib.cell_of_heap M5.out 6).trans rfl, (Go.Lib.cell_of_heap M5.out 7).trans rfl, (Go.Lib.cell_of_heap M5.out 8).trans rfl⟩ (fun hHeld => ?_)
        clear hK K
        refine norm_ (a' := ?_) ?_ ?_
        rotate_left
        · show Act.put _ (some 55) _ = _
          simp only [Act.put, List.setIfInBounds_toArray, List.set_cons_zero, List.set_cons_succ, i64_w, i32_w]
          rfl
        refine last_ (i := 5) (N := none) #[true, true, true, true, true, true] rfl rfl (one_of HT_.out (by kernel_rfl)) (by decide) (fun K hK => ?_)
        have hs : w5.cell? ⟨ga, 0, none⟩ = some va := (Go.Lib.cell_of_heap A5.out 0).trans rfl
        have hf := blk_frozen A5.out 0
        refine skip_ (w1 := ?_) (by rfl) rfl ?_ ?_
        rotate_left
        · go_simp
          rfl
        refine hK.out _ _ ?_
        clear hK K
        refine done_ (done_of HT_.out (by kernel_rfl)) ?_
        try go_wp2
        go_end0
        exact ⟨rfl, .slice Ao eb.length co, eb, ⟨(Below.heap_setCell w5 ⟨ga, 0, none⟩ _ gp (HGP.out)).trans P5.out, (Below.heap_setCell w5 ⟨ga, 0, none⟩ _ gw (HGW.out)).trans F5.out, blk_set A5.out 0 _, bset B5.out HGA.out, HGA.out⟩, allr_set R5.out A5.out _, by rw [HEB.out, List.map_append]; exact T4.out, K5.out.trans (Kp.of_store A5.out R5.out.1)⟩
end Go.Proofs.Ytgfbgbclpeihdaa.Li
