/- scan of a manager: plain lemmas; no condition. -/
import Derived.Test.YtgdadefobhfkcaaHy4
import Derived.Deep.RegionWith
import Derived.Laws.EntriesVeiled
namespace Go.Proofs.Ytgdadefobhfkcaa.Hy
open Go.RowKit Go.Proofs.YtgdadefobhfkcaaW.PrintWords Go.Proofs.YtgdadefobhfkcaaW.PrintLast Go.Proofs.YtgdadefobhfkcaaW.PrintMore
set_option linter.unusedVariables false
set_option linter.unusedSimpArgs false

theorem gives_fold (hs : List Int) (t : Int) : ∀ (l : List P2) (bs : List Int), l.foldl (gives hs t) bs = bs ++ (l.filter (goes hs t)).map (·.2) := by
  intro l
  induction l with
  | nil => intro bs; simp
  | cons x r ih =>
    intro bs
    rw [List.foldl_cons, ih]
    unfold gives
    cases h : goes hs t x <;> simp [h]
/-- The world behind scan's four variables. -/
def chain (w : World) (g : Nat) (t : Int) : World := (((w.alloc (.cells #[.pointer (some ⟨g, 0, none⟩)] 24 (0, 0))).alloc (.cells #[.int .i64 t] 3 (0, 0))).alloc (.cells #[.slice none 0 0] 29 (0, 0))).alloc (.cells #[.func (.func 47) #[] #[.pointer (some ⟨w.heap.size, 0, none⟩)]] 69 (0, 0))
theorem SInv.start {B : Nat} {w : World} (hB : B ≤ w.heap.size) (g : Nat) (t : Int) (bw : Nat) : SInv B w g t bw [] (chain w g t) ∧ Below w.heap.size w (chain w g t) := by
  unfold chain
  have s1 := alloc_size w (.cells #[.pointer (some ⟨g, 0, none⟩)] 24 (0, 0))
  have n1 := heap_alloc_new w (.cells #[.pointer (some ⟨g, 0, none⟩)] 24 (0, 0))
  have o1 := alloc_old w (.cells #[.pointer (some ⟨g, 0, none⟩)] 24 (0, 0))
  have b1 := (Below.refl w.heap.size w).alloc (Nat.le_refl _) (.cells #[.pointer (some ⟨g, 0, none⟩)] 24 (0, 0))
  generalize w.alloc (.cells #[.pointer (some ⟨g, 0, none⟩)] 24 (0, 0)) = w1 at *
  have s2 := alloc_size w1 (.cells #[.int .i64 t] 3 (0, 0))
  have n2 := heap_alloc_new w1 (.cells #[.int .i64 t] 3 (0, 0))
  have o2 := alloc_old w1 (.cells #[.int .i64 t] 3 (0, 0))
  have b2 := b1.alloc (by omega) (.cells #[.int .i64 t] 3 (0, 0))
  generalize w1.alloc (.cells #[.int .i64 t] 3 (0, 0)) = w2 at *
  have s3 := alloc_size w2 (.cells #[.slice none 0 0] 29 (0, 0))
  have n3 := heap_alloc_new w2 (.cells #[.slice none 0 0] 29 (0, 0))
  have o3 := alloc_old w2 (.cells #[.slice none 0 0] 29 (0, 0))
  have b3 := b2.alloc (by omega) (.cells #[.slice none 0 0] 29 (0, 0))
  generalize w2.alloc (.cells #[.slice none 0 0] 29 (0, 0)) = w3 at *
  have s4 := alloc_size w3 (.cells #[.func (.func 47) #[] #[.pointer (some ⟨w.heap.size, 0, none⟩)]] 69 (0, 0))
  have n4 := heap_alloc_new w3 (.cells #[.func (.func 47) #[] #[.pointer (some ⟨w.heap.size, 0, none⟩)]] 69 (0, 0))
  have o4 := alloc_old w3 (.cells #[.func (.func 47) #[] #[.pointer (some ⟨w.heap.size, 0, none⟩)]] 69 (0, 0))
  have b4 := b3.alloc (by omega) (.cells #[.func (.func 47) #[] #[.pointer (some ⟨w.heap.size, 0, none⟩)]] 69 (0, 0))
  generalize w3.alloc (.cells #[.func (.func 47) #[] #[.pointer (some ⟨w.heap.size, 0, none⟩)]] 69 (0, 0)) = w4 at *
  refine ⟨⟨b4.mono hB, by omega, fun k hk _ => by rw [o4 k (by omega), o3 k (by omega), o2 k (by omega), o1 k hk], by rw [o4 _ (by omega), o3 _ (by omega), o2 _ (by omega), n1], ?_, ?_, .slice none 0 0, ?_, Kd.R_nil _ _ _ _ _⟩, b4⟩
  · rw [o4 _ (by omega), o3 _ (by omega), ← s1, n2]
  · rw [show w.heap.size + 3 = w3.heap.size by omega, n4]
  · rw [o4 _ (by omega), show w.heap.size + 2 = w2.heap.size by omega, n3]
/-- The manager behind a scan. -/
def scanned (m : HM) (t : Int) : HM := { m with ws := m.ws.filter fun x => !goes m.hs t x }
def backs (m : HM) (t : Int) : List Int := (m.ws.filter (goes m.hs t)).map (·.2)
theorem keeps_del {B : Nat} {w : World} {g : Nat} {A : Option Addr} {wv : Value} {m : HM} (hm : Man B w g A wv m) (hB : B ≤ w.heap.size) (hl : m.ws.length ≤ 1000000) (t : Int) (bw : Nat) (hbw : bw < w.heap.size) (hBw : B ≤ bw) (htag : ∃ c, w.heap[bw]? = some (.cells c 61 (0, 0))) :
    Keeps bw (goes m.hs t) 52 #[.pointer (some ⟨w.heap.size + 1, 0, none⟩), .pointer (some ⟨w.heap.size + 3, 0, none⟩), .pointer (some ⟨w.heap.size + 2, 0, none⟩)] m.ws (fun i W => SInv B w g t bw ((m.ws.take i).foldl (gives m.hs t) []) W ∧ i ≤ m.ws.length) := by
  refine ⟨fun i W hi h => ?_, fun i W W' h h1 h2 h3 h4 h5 => ⟨h.1.write hBw hbw h1 h2 h3 h4 h5, h.2⟩, fun i W W' h hb => ⟨h.1.grow hB hb, h.2⟩⟩
  have hsn : m.ws.take (i + 1) = m.ws.take i ++ [m.ws.getD i (0, 0)] := by
    rw [List.take_succ_eq_append_getElem hi]; congr 1; simp [hi]
  obtain ⟨c, hc⟩ := htag
  have hg : g ≠ bw := ne_of_tag hm.topc hc (by decide)
  have hgl := blk_lt hm.topc
  have h0 : W.cell? ⟨g, 0, none⟩ = some (.slice A m.n hm.top.choose) := by
    rw [Go.Lib.cell_of_heap ((h.1.old g hgl hg).trans hm.topc)]; rfl
  have hH : HoldsAt W A m.hs m.n := ⟨hm.len, hm.small, hm.none_, fun a ha => by
    obtain ⟨k, e, _, tl, hk⟩ := hm.row a ha
    exact ⟨k, e, tl, (h.1.old k (blk_lt hk) (ne_of_tag hk hc (by decide))).trans hk⟩⟩
  have hbs : ((m.ws.take i).foldl (gives m.hs t) []).length ≤ 1000000 := by
    rw [gives_fold, List.nil_append, List.length_map]
    have := List.length_filter_le (goes m.hs t) (m.ws.take i)
    simp at this
    omega
  refine (del_calls h.1 hB hbs h0 hH (m.ws.getD i (0, 0))).mono ?_
  rintro e W' ⟨he, hi2, hk⟩
  refine ⟨he, ⟨?_, hi⟩, hk⟩
  rw [hsn, List.foldl_append]
  exact hi2

theorem scan_end {B : Nat} {w w' : World} {g : Nat} {A : Option Addr} {m : HM} {t : Int} {bw cap : Nat} {cur : Array Value} {v : Value} (hm : Man B w g A (.slice (some ⟨bw, 0, none⟩) m.ws.length cap) m) (hB : B ≤ w.heap.size) (hcap : cap ≤ maxLen) (hb1 : B ≤ bw) (hb2 : w.heap[bw]? = some (.cells cur 61 (0, 0)))
    (hs : SInv B w g t bw ((m.ws.take m.ws.length).foldl (gives m.hs t) []) w') (hr : Kd.R (Kd.int .i64) 3 w' (w.heap.size + 4) (fun _ => True) v ((m.ws.take m.ws.length).foldl (gives m.hs t) [])) (hrow : Row w' bw cap (m.ws.filter fun x => !goes m.hs t x)) :
    Kd.R (Kd.int .i64) 3 (w'.setCell ⟨g, 1, none⟩ (.slice (some ⟨bw, 0, none⟩) (m.ws.filter fun x => !goes m.hs t x).length cap)) w.heap.size (fun _ => True) v (backs m t) ∧
    Man B (w'.setCell ⟨g, 1, none⟩ (.slice (some ⟨bw, 0, none⟩) (m.ws.filter fun x => !goes m.hs t x).length cap)) g A (.slice (some ⟨bw, 0, none⟩) (m.ws.filter fun x => !goes m.hs t x).length cap) (scanned m t) ∧
    Kept w (w'.setCell ⟨g, 1, none⟩ (.slice (some ⟨bw, 0, none⟩) (m.ws.filter fun x => !goes m.hs t x).length cap)) (foot g A (.slice (some ⟨bw, 0, none⟩) m.ws.length cap)) ∧
    Below B w (w'.setCell ⟨g, 1, none⟩ (.slice (some ⟨bw, 0, none⟩) (m.ws.filter fun x => !goes m.hs t x).length cap)) := by
  have hgl := blk_lt hm.topc
  have hgb : g ≠ bw := ne_of_tag hm.topc hb2 (by decide)
  have hbl := blk_lt hb2
  have htop := (hs.old g hgl hgb).trans hm.topc
  have far : ∀ k, k ≠ g → (w'.setCell ⟨g, 1, none⟩ (.slice (some ⟨bw, 0, none⟩) (m.ws.filter fun x => !goes m.hs t x).length cap)).heap[k]? = w'.heap[k]? := fun k hk => Below.heap_setCell w' ⟨g, 1, none⟩ _ k hk
  have hset := blk_set htop 1 (.slice (some ⟨bw, 0, none⟩) (m.ws.filter fun x => !goes m.hs t x).length cap)
  have hlow := hs.low.setCell (p := ⟨g, 1, none⟩) hm.bg (.slice (some ⟨bw, 0, none⟩) (m.ws.filter fun x => !goes m.hs t x).length cap)
  have hsz : (w'.setCell ⟨g, 1, none⟩ (.slice (some ⟨bw, 0, none⟩) (m.ws.filter fun x => !goes m.hs t x).length cap)).heap.size = w'.heap.size := by simp [World.setCell]
  have hss := hs.size
  generalize w'.setCell ⟨g, 1, none⟩ (.slice (some ⟨bw, 0, none⟩) (m.ws.filter fun x => !goes m.hs t x).length cap) = w2 at *
  refine ⟨?_, ⟨hm.len, hm.small, hm.bg, ?_, hm.none_, fun a ha => ?_, ?_⟩, ⟨by omega, fun k hk hf => ?_⟩, hlow⟩
  · rw [List.take_length, gives_fold, List.nil_append] at hr
    exact R_same (Kd.R_lower hr (by omega)) (fun k hk _ => far k (fun e => by omega))
  · exact ⟨hm.top.choose, by rw [hset]; rfl⟩
  · obtain ⟨h, e, h1, tl, h2⟩ := hm.row a ha
    exact ⟨h, e, h1, tl, (far h (fun e2 => ne_of_tag h2 hm.topc (by decide) e2)).trans ((hs.old h (blk_lt h2) (ne_of_tag h2 hb2 (by decide))).trans h2)⟩
  · obtain ⟨cur2, r1, r2, r3, r4⟩ := hrow
    exact ⟨flat_len _, .inr ⟨bw, cap, cur2, rfl, hb1, (far bw (fun e => hgb e.symm)).trans r1, r3, hcap, r2, r4⟩⟩
  · rw [far k (fun e => hf (.inl e)), hs.old k hk (fun e => hf (.inr (.inr (by rw [e]; rfl))))]
theorem scan_end0 {B : Nat} {w w' : World} {g : Nat} {A : Option Addr} {m : HM} {t : Int} {v : Value} (hm : Man B w g A (.slice none 0 0) m) (hB : B ≤ w.heap.size) (hw : m.ws = [])
    (hs : SInv B w g t w.heap.size [] w') (hr : Kd.R (Kd.int .i64) 3 w' (w.heap.size + 4) (fun _ => True) v []) :
    Kd.R (Kd.int .i64) 3 (w'.setCell ⟨g, 1, none⟩ (.slice none 0 0)) w.heap.size (fun _ => True) v (backs m t) ∧
    Man B (w'.setCell ⟨g, 1, none⟩ (.slice none 0 0)) g A (.slice none 0 0) (scanned m t) ∧
    Kept w (w'.setCell ⟨g, 1, none⟩ (.slice none 0 0)) (foot g A (.slice none 0 0)) ∧
    Below B w (w'.setCell ⟨g, 1, none⟩ (.slice none 0 0)) := by
  have hgl := blk_lt hm.topc
  have htop := (hs.old g hgl (by omega)).trans hm.topc
  have far : ∀ k, k ≠ g → (w'.setCell ⟨g, 1, none⟩ (.slice none 0 0)).heap[k]? = w'.heap[k]? := fun k hk => Below.heap_setCell w' ⟨g, 1, none⟩ _ k hk
  have hset := blk_set htop 1 (.slice none 0 0)
  have hlow := hs.low.setCell (p := ⟨g, 1, none⟩) hm.bg (.slice none 0 0)
  have hsz : (w'.setCell ⟨g, 1, none⟩ (.slice none 0 0)).heap.size = w'.heap.size := by simp [World.setCell]
  have hss := hs.size
  generalize w'.setCell ⟨g, 1, none⟩ (.slice none 0 0) = w2 at *
  refine ⟨?_, ⟨hm.len, hm.small, hm.bg, ?_, hm.none_, fun a ha => ?_, ?_⟩, ⟨by omega, fun k hk hf => ?_⟩, hlow⟩
  · have e : backs m t = [] := by simp [backs, hw]
    rw [e]
    exact R_same (Kd.R_lower hr (by omega)) (fun k hk _ => far k (fun e => by omega))
  · exact ⟨hm.top.choose, by rw [hset]; rfl⟩
  · obtain ⟨h, e, h1, tl, h2⟩ := hm.row a ha
    exact ⟨h, e, h1, tl, (far h (fun e2 => ne_of_tag h2 hm.topc (by decide) e2)).trans ((hs.old h (blk_lt h2) (by have := blk_lt h2; omega)).trans h2)⟩
  · have e : (scanned m t).ws = [] := by simp [scanned, hw]
    rw [e]
    exact ⟨rfl, .inl ⟨rfl, rfl⟩⟩
  · rw [far k (fun e => hf (.inl e)), hs.old k hk (by omega)]

set_option maxHeartbeats 8000000 in
set_option maxRecDepth 100000 in
theorem scan_calls {B : Nat} {w : World} {g : Nat} {A : Option Addr} {wv : Value} {m : HM} (hm : Man B w g A wv m) (hB : B ≤ w.heap.size) (hl : m.ws.length ≤ 1000000) (t : Int) :
    Calls Try.prog 40 #[.pointer (some ⟨g, 0, none⟩), .int .i64 t] w fun e w' => ∃ v wv', e = .returned v ∧ Kd.R (Kd.int .i64) 3 w' w.heap.size (fun _ => True) v (backs m t) ∧ Man B w' g A wv' (scanned m t) ∧ Kept w w' (foot g A wv) ∧ Below B w w' ∧ ∀ k, wv'.ownBlock = some k → wv.ownBlock = some k := by
  have HM_ := Aside0.mk hm
  obtain ⟨hfl, ⟨e, hz⟩ | ⟨bw, cap, cur, e, hb1, hb2, hb3, hb4, hb5, hb6⟩⟩ := hm.own
  · subst e
    have hw : m.ws = [] := List.eq_nil_of_length_eq_zero hz
    obtain ⟨hs, hbe⟩ := SInv.start hB g t w.heap.size
    have hs1 := hs.grow hB (below_drew1 (Below.refl _ _))
    have eg : ∀ args w, (callFunc 52 args).run Try.prog w = .ok (.enter 52 args) w := enters_of Try.func52 (by kernel_rfl) rfl
    have hdel := deleteNil 52 #[.pointer (some ⟨w.heap.size + 1, 0, none⟩), .pointer (some ⟨w.heap.size + 3, 0, none⟩), .pointer (some ⟨w.heap.size + 2, 0, none⟩)] eg (chain w g t).drew
    have cm : (chain w g t).cell? ⟨w.heap.size, 0, none⟩ = some (.pointer (some ⟨g, 0, none⟩)) := by rw [Go.Lib.cell_of_heap hs.m_]; rfl
    have c1 : (chain w g t).cell? ⟨g, 1, none⟩ = some (.slice none 0 0) := (hbe.cell (p := ⟨g, 1, none⟩) (blk_lt hm.topc)).trans hm.c1
    have f1 : (chain w g t).frozen? ⟨g, 1, none⟩ = false := blk_frozen ((hbe.block g (blk_lt hm.topc)).trans hm.topc) 1
    obtain ⟨v, hv, hr⟩ := hs1.r_
    have cv : (chain w g t).cell? ⟨w.heap.size + 2, 0, none⟩ = some v := by
      have hv2 : (chain w g t).heap[w.heap.size + 2]? = some (.cells #[v] 29 (0, 0)) := hv
      rw [Go.Lib.cell_of_heap hv2]; rfl
    go_enter Try.func40, Try.ntmps40
    go_wp2
    change Code.wp _ _ _ _ (chain w g t)
    generalize chain w g t = W at *
    have hgl := blk_lt hm.topc
    have hne1 : ¬ (g = w.heap.size + 2) := by omega
    have hne2 : ¬ (w.heap.size + 2 = g) := by omega
    have HDEL := Aside0.mk hdel
    have HS := Aside0.mk hs1
    have HR := Aside0.mk hr
    clear hs hdel hs1 hm hv hr
    go_region_with (go_at_call 51; refine (HDEL.out).mono ?_; rintro e w' ⟨rfl, rfl⟩)
    all_goals go_wp2
    all_goals go_ret
    all_goals
      obtain ⟨p1, p2, p3, p4⟩ := scan_end0 HM_.out hB hw HS.out HR.out
      exact ⟨_, _, rfl, p1, p2, p3, p4, fun k hk => hk⟩
  · subst e
    obtain ⟨hs, hbe⟩ := SInv.start hB g t bw
    have hlt := blk_lt hb2
    have hrow0 : Row w bw cap m.ws := ⟨cur, hb2, hb5, hb3, hb6⟩
    have hK := keeps_del hm hB hl t bw hlt hb1 ⟨cur, hb2⟩
    have eg : ∀ args w, (callFunc 52 args).run Try.prog w = .ok (.enter 52 args) w := enters_of Try.func52 (by kernel_rfl) rfl
    have hs1 := hs.grow hB (below_drew1 (Below.refl _ _))
    have hrow1 : Row (chain w g t).drew bw cap m.ws := hrow0.same (hbe.block bw hlt)
    have hdel := deleteW (goes m.hs t) 52 _ eg _ bw cap m.ws (chain w g t).drew hK hrow1 ⟨by simpa using hs1, Nat.zero_le _⟩ hl
    have cm : (chain w g t).cell? ⟨w.heap.size, 0, none⟩ = some (.pointer (some ⟨g, 0, none⟩)) := by rw [Go.Lib.cell_of_heap hs.m_]; rfl
    have c1 : (chain w g t).cell? ⟨g, 1, none⟩ = some (.slice (some ⟨bw, 0, none⟩) m.ws.length cap) := (hbe.cell (p := ⟨g, 1, none⟩) (blk_lt hm.topc)).trans hm.c1
    go_enter Try.func40, Try.ntmps40
    go_wp2
    change Code.wp _ _ _ _ (chain w g t)
    generalize chain w g t = W at *
    have hgl := blk_lt hm.topc
    have hgb : g ≠ bw := ne_of_tag hm.topc hb2 (by decide)
    have hne1 : ¬ (g = w.heap.size + 2) := by omega
    have hne2 : ¬ (w.heap.size + 2 = g) := by omega
    have HDEL := Aside0.mk hdel
    have HROW := Aside0.mk hrow0
    have H2 := Aside0.mk hb2
    clear hs hrow1 hdel hs1 hK hrow0 hm hb2 hb6 hfl
    go_region_with (go_at_call 51; refine (HDEL.out).mono ?_; rintro e w' ⟨rfl, ⟨hsi, _⟩, hrow⟩; have hgo := hsi.old g hgl hgb; have cg1 : w'.cell? ⟨g, 1, none⟩ = some (.slice (some ⟨bw, 0, none⟩) m.ws.length cap) := (by rw [Go.Lib.cell_of_heap (hgo.trans HM_.out.topc)]; rfl); have fg1 : w'.frozen? ⟨g, 1, none⟩ = false := blk_frozen (hgo.trans HM_.out.topc) 1; have cm2 : w'.cell? ⟨w.heap.size, 0, none⟩ = some (.pointer (some ⟨g, 0, none⟩)) := (by rw [Go.Lib.cell_of_heap hsi.m_]; rfl); obtain ⟨v, hv, hr⟩ := hsi.r_; have cv : w'.cell? ⟨w.heap.size + 2, 0, none⟩ = some v := (by rw [Go.Lib.cell_of_heap hv]; rfl); have HS := Aside0.mk hsi; have HR := Aside0.mk hr; have HRo := Aside0.mk hrow; clear hsi hv hr hrow)
    all_goals go_wp2
    all_goals go_ret
    all_goals
      obtain ⟨p1, p2, p3, p4⟩ := scan_end HM_.out hB hb4 hb1 H2.out HS.out HR.out HRo.out
      exact ⟨_, _, rfl, p1, p2, p3, p4, fun k hk => hk⟩
end Go.Proofs.Ytgdadefobhfkcaa.Hy
