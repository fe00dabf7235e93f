/- try of an epoch manager: plain lemmas; no condition. -/
import Derived.Test.YtcfodmnpmjkpbaaE4
namespace Go.Proofs.Ytcfodmnpmjkpbaa.Ep
open Go.RowKit Go.Proofs.YtcfodmnpmjkpbaaW.PrintWords Go.Proofs.YtcfodmnpmjkpbaaW.PrintLast Go.Proofs.YtcfodmnpmjkpbaaW.PrintMore
set_option linter.unusedVariables false
set_option linter.unusedSimpArgs false
set_option maxHeartbeats 8000000
set_option maxRecDepth 100000
theorem gives_fold (E : Int) : ∀ (l : List P2) (bs : List Int), l.foldl (gives E) bs = bs ++ (l.filter (goes E)).map (·.1) := by
  intro l
  induction l with
  | nil => intro bs; simp
  | cons x r ih =>
    intro bs
    rw [List.foldl_cons, ih]
    unfold gives
    cases h : goes E x <;> simp [h]
/-- The manager behind a try, and what comes back. -/
def stuck (m : EM) : Bool := m.th.any (behind m.ep)
def raised (m : EM) : EM := { m with ep := m.ep + 1, ws := m.ws.filter fun x => !goes (m.ep + 1) x }
def raisedBack (m : EM) : List Int := (m.ws.filter (goes (m.ep + 1))).map (·.1)
def tried (m : EM) : EM := if stuck m then m else raised m
def tryBack (m : EM) : List Int := if stuck m then [] else raisedBack m
/-- The world behind try's variables, once the epoch is raised. -/
def chain (w : World) (g : Nat) (e : Int) : World := ((w.setCell ⟨g, 0, none⟩ (.int .i64 e)).alloc (.cells #[.pointer (some ⟨g, 0, none⟩)] 28 (0, 0))).alloc (.cells #[.slice none 0 0] 41 (0, 0))
theorem SInv.start {B : Nat} {w : World} {g : Nat} {tv wv : Value} {m : EM} (hm : Man B w g tv wv m) (hB : B ≤ w.heap.size) (bw : Nat) : SInv B w g #[.int .i64 (m.ep + 1), tv, wv] bw [] (chain w g (m.ep + 1)) := by
  unfold chain
  have hgl := blk_lt hm.top
  have s0 : (w.setCell ⟨g, 0, none⟩ (.int .i64 (m.ep + 1))).heap.size = w.heap.size := by simp [World.setCell]
  have g0 := blk_set hm.top 0 (.int .i64 (m.ep + 1))
  have o0 := fun k hk => Below.heap_setCell w ⟨g, 0, none⟩ (.int .i64 (m.ep + 1)) k hk
  have b0 := (Below.refl B w).setCell (p := ⟨g, 0, none⟩) hm.bg (.int .i64 (m.ep + 1))
  simp only [List.setIfInBounds_toArray, List.set_cons_zero] at g0
  generalize w.setCell ⟨g, 0, none⟩ (.int .i64 (m.ep + 1)) = w0 at *
  have s1 := alloc_size w0 (.cells #[.pointer (some ⟨g, 0, none⟩)] 28 (0, 0))
  have n1 := heap_alloc_new w0 (.cells #[.pointer (some ⟨g, 0, none⟩)] 28 (0, 0))
  have o1 := alloc_old w0 (.cells #[.pointer (some ⟨g, 0, none⟩)] 28 (0, 0))
  have b1 := b0.alloc (by omega) (.cells #[.pointer (some ⟨g, 0, none⟩)] 28 (0, 0))
  generalize w0.alloc (.cells #[.pointer (some ⟨g, 0, none⟩)] 28 (0, 0)) = w1 at *
  have s2 := alloc_size w1 (.cells #[.slice none 0 0] 41 (0, 0))
  have n2 := heap_alloc_new w1 (.cells #[.slice none 0 0] 41 (0, 0))
  have o2 := alloc_old w1 (.cells #[.slice none 0 0] 41 (0, 0))
  have b2 := b1.alloc (by omega) (.cells #[.slice none 0 0] 41 (0, 0))
  generalize w1.alloc (.cells #[.slice none 0 0] 41 (0, 0)) = w2 at *
  refine ⟨b2, by omega, fun k hk _ hg => by rw [o2 k (by omega), o1 k (by omega), o0 k hg], by rw [o2 _ (by omega), o1 _ (by omega), g0], ?_, .slice none 0 0, ?_, Kd.R_nil _ _ _ _ _⟩
  · rw [o2 _ (by omega), ← s0, n1]
  · rw [show w.heap.size + 1 = w1.heap.size by omega, n2]
theorem keeps_del {B : Nat} {w : World} {g : Nat} {tv wv : Value} {E : Int} {l : List P2} (hB : B ≤ w.heap.size) (hgl : g < w.heap.size) (hl : l.length ≤ 1000000) (hE0 : 0 ≤ E) (hE : E ≤ 1000000) (bw : Nat) (hbw : bw < w.heap.size) (hBw : B ≤ bw) (hne : g ≠ bw) :
    Keeps bw (goes E) 55 #[.pointer (some ⟨w.heap.size, 0, none⟩), .pointer (some ⟨w.heap.size + 1, 0, none⟩)] l (fun i W => SInv B w g #[.int .i64 E, tv, wv] bw ((l.take i).foldl (gives E) []) W ∧ i ≤ l.length) := by
  refine ⟨fun i W hi h => ?_, fun i W W' h h1 h2 h3 h4 h5 => ⟨h.1.write hne hBw hbw h1 h2 h3 h4 h5, h.2⟩, fun i W W' h hb => ⟨h.1.grow hB hb, h.2⟩⟩
  have hsn : l.take (i + 1) = l.take i ++ [l.getD i (0, 0)] := by
    rw [List.take_succ_eq_append_getElem hi]; congr 1; simp [hi]
  have hbs : ((l.take i).foldl (gives E) []).length ≤ 1000000 := by
    rw [gives_fold, List.nil_append, List.length_map]
    have := List.length_filter_le (goes E) (l.take i)
    simp at this
    omega
  refine (del_calls h.1 hB hgl hbs hE0 hE (l.getD i (0, 0))).mono ?_
  rintro e W' ⟨he, hi2, hk⟩
  refine ⟨he, ⟨?_, hi⟩, hk⟩
  rw [hsn, List.foldl_append]
  exact hi2
theorem try_end {B : Nat} {w w' : World} {g : Nat} {tv : Value} {m : EM} {bw cap : Nat} {cur : Array Value} {v : Value} (hm : Man B w g tv (.slice (some ⟨bw, 0, none⟩) m.ws.length cap) m) (hB : B ≤ w.heap.size) (hcap : cap ≤ maxLen) (hb1 : B ≤ bw) (hb2 : w.heap[bw]? = some (.cells cur 78 (0, 0)))
    (hs : SInv B w g #[.int .i64 (m.ep + 1), tv, .slice (some ⟨bw, 0, none⟩) m.ws.length cap] bw ((m.ws.take m.ws.length).foldl (gives (m.ep + 1)) []) w') (hr : Kd.R (Kd.int .i64) 3 w' (w.heap.size + 2) (fun _ => True) v ((m.ws.take m.ws.length).foldl (gives (m.ep + 1)) [])) (hrow : Row w' bw cap (raised m).ws) :
    Kd.R (Kd.int .i64) 3 (w'.setCell ⟨g, 2, none⟩ (.slice (some ⟨bw, 0, none⟩) (raised m).ws.length cap)) w.heap.size (fun _ => True) v (raisedBack m) ∧
    After B w g tv (.slice (some ⟨bw, 0, none⟩) m.ws.length cap) (raised m) (w'.setCell ⟨g, 2, none⟩ (.slice (some ⟨bw, 0, none⟩) (raised m).ws.length cap)) := by
  have hgl := blk_lt hm.top
  have hgb : g ≠ bw := ne_of_tag hm.top hb2 (by decide)
  have hbl := blk_lt hb2
  have htop := hs.g_
  have far : ∀ k, k ≠ g → (w'.setCell ⟨g, 2, none⟩ (.slice (some ⟨bw, 0, none⟩) (raised m).ws.length cap)).heap[k]? = w'.heap[k]? := fun k hk => Below.heap_setCell w' ⟨g, 2, none⟩ _ k hk
  have hset := blk_set htop 2 (.slice (some ⟨bw, 0, none⟩) (raised m).ws.length cap)
  have hlow := hs.low.setCell (p := ⟨g, 2, none⟩) hm.bg (.slice (some ⟨bw, 0, none⟩) (raised m).ws.length cap)
  have hsz : (w'.setCell ⟨g, 2, none⟩ (.slice (some ⟨bw, 0, none⟩) (raised m).ws.length cap)).heap.size = w'.heap.size := by simp [World.setCell]
  have hss := hs.size
  generalize w'.setCell ⟨g, 2, none⟩ (.slice (some ⟨bw, 0, none⟩) (raised m).ws.length cap) = w2 at *
  refine ⟨?_, .slice (some ⟨bw, 0, none⟩) (raised m).ws.length cap, ⟨hm.small, hm.bg, ?_, ?_, ?_⟩, ⟨by omega, fun k hk hf => ?_⟩, hlow, fun k hk => .inl hk⟩
  · rw [List.take_length, gives_fold, List.nil_append] at hr
    exact R_same (Kd.R_lower hr (by omega)) (fun k hk _ => far k (fun e => by omega))
  · rw [hset]; rfl
  · refine own_move hm.tow (fun k hk => ?_)
    obtain ⟨c, hc⟩ := own_tag hm.tow k hk
    have h1 : k ≠ g := ne_of_tag hc hm.top (by decide)
    exact (far k h1).trans (hs.old k (blk_lt hc) (ne_of_tag hc hb2 (by decide)) h1)
  · obtain ⟨cur2, r1, r2, r3, r4⟩ := hrow
    exact ⟨flat_len _, .inr ⟨bw, cap, cur2, rfl, hb1, (far bw (fun e => hgb e.symm)).trans r1, r3, hcap, r2, r4⟩⟩
  · have h1 : k ≠ g := fun e => hf (.inl e)
    rw [far k h1, hs.old k hk (fun e => hf (.inr (.inr (by rw [e]; rfl)))) h1]
theorem try_end0 {B : Nat} {w w' : World} {g : Nat} {tv : Value} {m : EM} {v : Value} (hm : Man B w g tv (.slice none 0 0) m) (hB : B ≤ w.heap.size) (hw : m.ws = [])
    (hs : SInv B w g #[.int .i64 (m.ep + 1), tv, .slice none 0 0] w.heap.size [] w') (hr : Kd.R (Kd.int .i64) 3 w' (w.heap.size + 2) (fun _ => True) v []) :
    Kd.R (Kd.int .i64) 3 (w'.setCell ⟨g, 2, none⟩ (.slice none 0 0)) w.heap.size (fun _ => True) v (raisedBack m) ∧
    After B w g tv (.slice none 0 0) (raised m) (w'.setCell ⟨g, 2, none⟩ (.slice none 0 0)) := by
  have hgl := blk_lt hm.top
  have htop := hs.g_
  have far : ∀ k, k ≠ g → (w'.setCell ⟨g, 2, none⟩ (.slice none 0 0)).heap[k]? = w'.heap[k]? := fun k hk => Below.heap_setCell w' ⟨g, 2, none⟩ _ k hk
  have hset := blk_set htop 2 (.slice none 0 0)
  have hlow := hs.low.setCell (p := ⟨g, 2, none⟩) hm.bg (.slice none 0 0)
  have hsz : (w'.setCell ⟨g, 2, none⟩ (.slice none 0 0)).heap.size = w'.heap.size := by simp [World.setCell]
  have hss := hs.size
  generalize w'.setCell ⟨g, 2, none⟩ (.slice none 0 0) = w2 at *
  have e1 : (raised m).ws = [] := by simp [raised, hw]
  have e2 : raisedBack m = [] := by simp [raisedBack, hw]
  refine ⟨?_, .slice none 0 0, ⟨hm.small, hm.bg, ?_, ?_, ?_⟩, ⟨by omega, fun k hk hf => ?_⟩, hlow, fun k hk => .inl hk⟩
  · rw [e2]
    exact R_same (Kd.R_lower hr (by omega)) (fun k hk _ => far k (fun e => by omega))
  · rw [hset]; rfl
  · refine own_move hm.tow (fun k hk => ?_)
    obtain ⟨c, hc⟩ := own_tag hm.tow k hk
    have h1 : k ≠ g := ne_of_tag hc hm.top (by decide)
    have h2 := blk_lt hc
    exact (far k h1).trans (hs.old k h2 (by omega) h1)
  · rw [e1]
    exact ⟨rfl, .inl ⟨rfl, rfl⟩⟩
  · have h1 : k ≠ g := fun e => hf (.inl e)
    rw [far k h1, hs.old k hk (by omega) h1]
section
variable {B : Nat} {w : World} {g : Nat} {tv wv : Value} {m : EM}
theorem try_stuck (hm : Man B w g tv wv m) (hs : stuck m = true) :
    Calls Try.prog 40 #[.pointer (some ⟨g, 0, none⟩)] w fun e w' => e = .returned (.slice none 0 0) ∧ Below w.heap.size w w' := by
  have hbe := (Below.refl w.heap.size w).alloc (Nat.le_refl _) (.cells #[.pointer (some ⟨g, 0, none⟩)] 28 (0, 0))
  have hm2 := hm.grow hbe
  have cm := Go.Lib.cell_of_heap (heap_alloc_new w (.cells #[.pointer (some ⟨g, 0, none⟩)] 28 (0, 0))) 0
  simp only [List.getElem?_toArray, List.getElem?_cons_zero] at cm
  obtain ⟨A, c, rfl⟩ := own_form hm.tow
  have hcon := containsB g w.heap.size m.ep A c m.th _ (reads_own hm2.tow) cm hm2.c0 (by have := hm.small; omega)
  have hs2 : m.th.any (behind m.ep) = true := hs
  rw [hs2] at hcon
  have c1 := hm2.c1
  have HBE := Aside0.mk hbe
  clear hm hm2 hs hs2 hbe cm
  generalize m.th.length = L at *
  go_enter Try.func40, Try.ntmps40
  go_wp2_with (go_at_call 53; refine hcon.mono ?_; rintro e w' ⟨rfl, hw⟩; rw [hw]; clear hw)
  go_ret
  exact ⟨rfl, HBE.out⟩
theorem try_raised (hm : Man B w g tv wv m) (hB : B ≤ w.heap.size) (hl : m.ws.length ≤ 1000000) (he0 : 0 ≤ m.ep) (he : m.ep ≤ 100000) (hs : stuck m = false) :
    Calls Try.prog 40 #[.pointer (some ⟨g, 0, none⟩)] w fun e w' => ∃ v, e = .returned v ∧ Kd.R (Kd.int .i64) 3 w' w.heap.size (fun _ => True) v (raisedBack m) ∧ After B w g tv wv (raised m) w' := by
  have hbe := (Below.refl w.heap.size w).alloc (Nat.le_refl _) (.cells #[.pointer (some ⟨g, 0, none⟩)] 28 (0, 0))
  have hm2 := hm.grow hbe
  have cm := Go.Lib.cell_of_heap (heap_alloc_new w (.cells #[.pointer (some ⟨g, 0, none⟩)] 28 (0, 0))) 0
  simp only [List.getElem?_toArray, List.getElem?_cons_zero] at cm
  obtain ⟨A, c, htv⟩ := own_form hm.tow
  subst htv
  have hcon := containsB g w.heap.size m.ep A c m.th _ (reads_own hm2.tow) cm hm2.c0 (by have := hm.small; omega)
  have hs2 : m.th.any (behind m.ep) = false := hs
  rw [hs2] at hcon
  have c0 := hm2.c0
  have c1 := hm2.c1
  have c2 := hm2.c2
  have f0 := blk_frozen hm2.top 0
  have hgl := blk_lt hm.top
  have hgne : g ≠ w.heap.size := by omega
  have hgne2 : w.heap.size ≠ g := by omega
  have HM_ := Aside0.mk hm
  have eg : ∀ args w, (callFunc 55 args).run Try.prog w = .ok (.enter 55 args) w := enters_of Try.func55 (by kernel_rfl) rfl
  obtain ⟨hfl, ⟨e, hz⟩ | ⟨bw, cap, cur, e, hb1, hb2, hb3, hb4, hb5, hb6⟩⟩ := hm.own
  · subst e
    have hw : m.ws = [] := List.eq_nil_of_length_eq_zero hz
    have hst := SInv.start hm hB w.heap.size
    have hs1 := hst.grow hB (below_drew1 (Below.refl _ _))
    have hdel := deleteNil 55 #[.pointer (some ⟨w.heap.size, 0, none⟩), .pointer (some ⟨w.heap.size + 1, 0, none⟩)] eg (chain w g (m.ep + 1)).drew
    have HDEL := Aside0.mk hdel
    have HS := Aside0.mk hs1
    have HST := Aside0.mk hst
    clear hm hm2 hs hs2 hbe hdel hs1 hst
    go_enter Try.func40, Try.ntmps40
    go_wp2_with (go_at_call 53; refine hcon.mono ?_; rintro e w' ⟨rfl, hw⟩; rw [hw]; clear hw)
    change Code.wp _ _ _ _ (chain w g (m.ep + 1))
    clear cm c0 c1 c2 f0 hcon
    generalize chain w g (m.ep + 1) = W at *
    have cm : W.cell? ⟨w.heap.size, 0, none⟩ = some (.pointer (some ⟨g, 0, none⟩)) := by rw [Go.Lib.cell_of_heap HST.out.m_]; rfl
    have c2 : W.cell? ⟨g, 2, none⟩ = some (.slice none 0 0) := by rw [Go.Lib.cell_of_heap HST.out.g_]; rfl
    have f2 : W.frozen? ⟨g, 2, none⟩ = false := blk_frozen HST.out.g_ 2
    obtain ⟨v, hv, hr⟩ := HST.out.r_
    have cv : W.cell? ⟨w.heap.size + 1, 0, none⟩ = some v := by rw [Go.Lib.cell_of_heap hv]; rfl
    have hne1 : ¬ (g = w.heap.size + 1) := by omega
    have hne2 : ¬ (w.heap.size + 1 = g) := by omega
    have HR := Aside0.mk hr
    clear hv hr
    go_region_with (go_at_call 54; refine (HDEL.out).mono ?_; rintro e w' ⟨rfl, rfl⟩)
    all_goals go_wp2
    all_goals go_ret
    all_goals
      obtain ⟨p1, p2⟩ := try_end0 HM_.out hB hw HS.out HR.out
      exact ⟨_, rfl, p1, p2⟩
  · subst e
    have hlt := blk_lt hb2
    have hgb : g ≠ bw := ne_of_tag hm.top hb2 (by decide)
    have hst := SInv.start hm hB bw
    have hrow0 : Row w bw cap m.ws := ⟨cur, hb2, hb5, hb3, hb6⟩
    have hK := keeps_del (tv := .slice A m.th.length c) (wv := .slice (some ⟨bw, 0, none⟩) m.ws.length cap) hB hgl hl (show 0 ≤ m.ep + 1 by omega) (by omega) bw hlt hb1 hgb
    have hs1 := hst.grow hB (below_drew1 (Below.refl _ _))
    have hbwold : (chain w g (m.ep + 1)).heap[bw]? = w.heap[bw]? := by
      have s0 : (w.setCell ⟨g, 0, none⟩ (.int .i64 (m.ep + 1))).heap.size = w.heap.size := by simp [World.setCell]
      unfold chain
      rw [alloc_old _ _ _ (by rw [alloc_size]; omega), alloc_old _ _ _ (by omega), Below.heap_setCell w ⟨g, 0, none⟩ _ bw (fun e => hgb e.symm)]
    have hrow1 : Row (chain w g (m.ep + 1)).drew bw cap m.ws := hrow0.same hbwold
    have hdel := deleteW (goes (m.ep + 1)) 55 _ eg _ bw cap m.ws (chain w g (m.ep + 1)).drew hK hrow1 ⟨by simpa using hs1, Nat.zero_le _⟩ hl
    have HDEL := Aside0.mk hdel
    have HST := Aside0.mk hst
    have H2 := Aside0.mk hb2
    clear hm hm2 hs hs2 hbe hdel hs1 hst hrow1 hK hrow0 hbwold hb2 hb6 hfl
    go_enter Try.func40, Try.ntmps40
    go_wp2_with (go_at_call 53; refine hcon.mono ?_; rintro e w' ⟨rfl, hw⟩; rw [hw]; clear hw)
    change Code.wp _ _ _ _ (chain w g (m.ep + 1))
    clear cm c0 c1 c2 f0 hcon
    generalize chain w g (m.ep + 1) = W at *
    have cm : W.cell? ⟨w.heap.size, 0, none⟩ = some (.pointer (some ⟨g, 0, none⟩)) := by rw [Go.Lib.cell_of_heap HST.out.m_]; rfl
    have c2 : W.cell? ⟨g, 2, none⟩ = some (.slice (some ⟨bw, 0, none⟩) m.ws.length cap) := by rw [Go.Lib.cell_of_heap HST.out.g_]; rfl
    have hne1 : ¬ (g = w.heap.size + 1) := by omega
    have hne2 : ¬ (w.heap.size + 1 = g) := by omega
    go_region_with (go_at_call 54; refine (HDEL.out).mono ?_; rintro e w' ⟨rfl, ⟨hsi, _⟩, hrow⟩; have cg1 : w'.cell? ⟨g, 2, none⟩ = some (.slice (some ⟨bw, 0, none⟩) m.ws.length cap) := (by rw [Go.Lib.cell_of_heap hsi.g_]; rfl); have fg1 : w'.frozen? ⟨g, 2, none⟩ = false := blk_frozen hsi.g_ 2; have cm2 : w'.cell? ⟨w.heap.size, 0, none⟩ = some (.pointer (some ⟨g, 0, none⟩)) := (by rw [Go.Lib.cell_of_heap hsi.m_]; rfl); obtain ⟨v, hv, hr⟩ := hsi.r_; have cv : w'.cell? ⟨w.heap.size + 1, 0, none⟩ = some v := (by rw [Go.Lib.cell_of_heap hv]; rfl); have HS := Aside0.mk hsi; have HR := Aside0.mk hr; have HRo := Aside0.mk hrow; clear hsi hv hr hrow)
    all_goals go_wp2
    all_goals go_ret
    all_goals
      obtain ⟨p1, p2⟩ := try_end HM_.out hB hb4 hb1 H2.out HS.out HR.out HRo.out
      exact ⟨_, rfl, p1, p2⟩
theorem try_calls (hm : Man B w g tv wv m) (hB : B ≤ w.heap.size) (hl : m.ws.length ≤ 1000000) (he0 : 0 ≤ m.ep) (he : m.ep ≤ 100000) :
    Calls Try.prog 40 #[.pointer (some ⟨g, 0, none⟩)] w fun e w' => ∃ v, e = .returned v ∧ Kd.R (Kd.int .i64) 3 w' w.heap.size (fun _ => True) v (tryBack m) ∧ After B w g tv wv (tried m) w' := by
  unfold tryBack tried
  cases h : stuck m with
  | true =>
    refine (try_stuck hm h).mono ?_
    rintro e w' ⟨rfl, hb⟩
    exact ⟨_, rfl, Kd.R_nil _ _ _ _ _, After.grow hm hB hb⟩
  | false => exact try_raised hm hB hl he0 he h
end
end Go.Proofs.Ytcfodmnpmjkpbaa.Ep
