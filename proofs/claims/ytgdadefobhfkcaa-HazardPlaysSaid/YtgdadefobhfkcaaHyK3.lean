/- CopyAll of a list of holds: plain lemmas; no condition. -/
import Derived.Test.YtgdadefobhfkcaaHyK2
namespace Go.Proofs.Ytgdadefobhfkcaa.Hy
open Go.RowKit Go.Proofs.YtgdadefobhfkcaaW.PrintWords Go.Proofs.YtgdadefobhfkcaaW.PrintLast Go.Proofs.YtgdadefobhfkcaaW.PrintMore
set_option linter.unusedVariables false
set_option linter.unusedSimpArgs false
set_option maxHeartbeats 8000000
set_option maxRecDepth 100000
theorem info29 : (Try.prog.info? 29).map (fun i => (i.zero, i.size, i.bytes)) = some (some (.slice none 0 0), 1, 24) := by kernel_rfl
theorem HL.cell {w : World} {base : Nat} {A : Option Addr} {c : Nat} {ps : List (Nat × Nat)} {hs : List Int} (h : HL w base (.slice A ps.length c) ps hs) (t : Nat) (ht : t < ps.length) :
    ∃ g, A = some ⟨g, 0, none⟩ ∧ base ≤ g ∧ g < w.heap.size ∧ w.cell? ⟨g, t, none⟩ = some (encP (ps.getD t (0, 0))) ∧ w.frozen? ⟨g, t, none⟩ = false := by
  obtain ⟨g, cap, e, hb, hlt, _⟩ := Kd.R_form h.top (by omega)
  injection e with e1 _ e2
  subst e1; subst e2
  have := Kd.R_cell (0, 0) h.top t (by omega) (by omega)
  exact ⟨g, rfl, hb, hlt, this.1, this.2⟩
theorem HL.slice {w : World} {base : Nat} {v : Value} {ps : List (Nat × Nat)} {hs : List Int} (h : HL w base v ps hs) : ∃ A c, v = .slice A ps.length c := Kd.R_slice h.top
theorem HL.row_lt {w : World} {base : Nat} {v : Value} {ps : List (Nat × Nat)} {hs : List Int} (h : HL w base v ps hs) (t : Nat) (ht : t < ps.length) : base ≤ (ps.getD t (0, 0)).1 ∧ (ps.getD t (0, 0)).1 < w.heap.size :=
  ⟨Kd.R_base (h.row t ht) _ rfl, Kd.R_lt (h.row t ht) _ rfl⟩
theorem HL.fresh {w : World} {base : Nat} {v : Value} {ps : List (Nat × Nat)} {hs : List Int} (h : HL w base v ps hs) (g : Nat) (hg : w.heap.size ≤ g) : g ∉ ps.map (·.1) := by
  intro hm
  obtain ⟨p, hp, rfl⟩ := List.mem_map.1 hm
  obtain ⟨t, ht, e⟩ := List.getElem_of_mem hp
  have := (h.row_lt t ht).2
  rw [List.getD_eq_getElem?_getD, List.getElem?_eq_getElem ht, Option.getD_some, e] at this
  omega
theorem HL.nil (w : World) (base : Nat) (hs : List Int) : HL w base (.slice none 0 0) [] hs := ⟨Kd.R_nil _ _ _ _ _, List.nodup_nil, fun t ht => absurd ht (Nat.not_lt_zero _)⟩
theorem copyAll_calls {w : World} {base : Nat} {A : Option Addr} {c : Nat} {ps : List (Nat × Nat)} {hs : List Int} (h : HL w base (.slice A ps.length c) ps hs) (hn : ps.length ≤ 4) :
    Calls Try.prog 30 #[.slice A ps.length c] w fun e w' => ∃ v ps', e = .returned v ∧ ps'.length = ps.length ∧ HL w' w.heap.size v ps' hs ∧ Below w.heap.size w w' := by
  have H := Aside0.mk h
  clear h
  go_enter Try.func30, Try.ntmps30
  go_wp2
  go_loopg [3, 4] ps.length (fun gg v3 v4 wr => ∃ (kk : Nat) (qs : List (Nat × Nat)), kk ≤ ps.length ∧ ps.length - kk ≤ gg ∧ v4 = .int .i64 kk ∧ qs.length = kk ∧ Aside0 (HL wr w.heap.size v3 qs hs) ∧ Aside0 (Below w.heap.size w wr))
  case atStart => exact ⟨0, [], Nat.zero_le _, by omega, rfl, rfl, ⟨HL.nil _ _ _⟩, ⟨Below.refl _ _⟩⟩
  case round =>
    obtain ⟨kk, qs, hkk, hgg, rfl, hql, HQ, HB⟩ := hrel
    by_cases hlt : kk < ps.length
    · obtain ⟨g, rfl, hbg, hgl, hc, _⟩ := (H.out.grow HB.out).cell kk hlt
      have hcop : ∀ cc, Calls Try.prog 44 #[.slice (some ⟨(ps.getD kk (0, 0)).1, 0, none⟩) 3 cc] wr fun e w' => ∃ v, e = .returned v ∧ Kd.R (Kd.int .i64) 3 w' wr.heap.size (fun _ => True) v (three hs kk) ∧ Below wr.heap.size wr w' := fun cc => by
        have hr := Kd.R_reads' ((H.out.grow HB.out).row kk hlt)
        exact copy_row _ cc (three hs kk) wr hr.2.2 (by show 3 ≤ 1000000; decide)
      generalize ps.getD kk (0, 0) = p at hc hcop
      obtain ⟨p1, p2⟩ := p
      simp only at hc hcop
      have HC := Aside0.mk hcop
      have hsz := HB.out.size
      unfold encP at hc
      have HNX := Aside0.mk hql
      clear hcop hql
      have hql4 : qs.length ≤ 4 := by rw [HNX.out]; omega
      have hlim : (qs.length + 1) * 24 ≤ 140737488355328 := by omega
      clear hql4
      go_wp2_with (first
        | (go_at_call 44; refine (HC.out _).mono ?_; rintro e w2 ⟨v2, rfl, hr, hb⟩; obtain ⟨g2, cap2, e2, hb2, hl2, _⟩ := Kd.R_form hr (Nat.succ_pos 2); replace e2 : v2 = .slice (some ⟨g2, 0, none⟩) 3 cap2 := e2; subst e2; have HR2 := Aside0.mk hr; have HB2 := Aside0.mk hb; have hsz2 := hb.size; clear hr hb)
        | ((with_reducible refine gate_builtin (b := .append) (xs := #[.tmp 11, .tmp 17]) rfl ?_); at_builtin; refine Kd.R_append kdP (w0 := w) w.heap.size rfl (.tmp 11) (.tmp 17) 28 29 (.slice none 0 0) 24 rfl Try.underlying28 info29 rfl (by decide) (by omega) u3 qs (g2, cap2) [encP (g2, cap2)] (fun _ => True) (fun _ => False) rfl rfl rfl (fun _ hk => hk.elim) (fun _ _ => trivial) (Kd.R_below HQ.out.top HB2.out) (HB.out.trans (HB2.out.mono hsz)) (Nat.le_trans hsz hsz2) hlim ?_; intro v1 wn ho hb hg hat; have HO := Aside0.mk ho; have HN := Aside0.mk hb; have HG := Aside0.mk hg; clear ho hb hg hat))
      go_roundg (ps.length - (kk + 1))
      case measure => omega
      case rel =>
        refine ⟨kk + 1, qs ++ [(g2, cap2)], by omega, by omega, by go_num, by rw [List.length_append, HNX.out]; rfl, ⟨?_⟩, HN⟩
        refine HL.snoc (HQ.out.grow HB2.out) HO.out HG.out ?_ ((HQ.out).fresh _ hb2)
        rw [HNX.out]
        exact Kd.R_lower HR2.out hsz
    · go_wp2
      go_ret
      have : kk = ps.length := by omega
      subst this
      exact ⟨_, qs, rfl, hql, HQ.out, HB.out⟩
end Go.Proofs.Ytgdadefobhfkcaa.Hy
