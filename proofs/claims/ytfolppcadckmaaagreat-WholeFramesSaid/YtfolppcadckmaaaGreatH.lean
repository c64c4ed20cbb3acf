/-
  Layer 14, bridge.Bridge: a queue's drop, Done.
-/
import Derived.Test.YtfolppcadckmaaaGreatG
set_option maxRecDepth 100000
namespace Go.Proofs.YtfolppcadckmaaaGreat.Br
open Go.RowKit Go.Tn Go.Tn.P14

section
variable {w w' : World} {p bp bk : Nat} {FP : List Nat} {C : Nat → Option Addr × Nat} {S : St}

/-- A slice that owns xs, as a row. -/
theorem own_qrow {e : TypeId} {n base : Nat} {v : Value} {xs : List Value} (h : w.ownsRow base e 1 v n xs) : ∃ A cap, v = .slice A n cap ∧ QRow w e A cap xs ∧ ∀ b, b ∈ blkOf A → base ≤ b ∧ b < w.heap.size := by
  have hlt := h.lt
  rcases h.2 with ⟨rfl, rfl⟩ | ⟨g, cap, cur, rfl, hb, r⟩
  · exact ⟨none, 0, rfl, QRow.of_own h, fun b hb => by simp [blkOf] at hb⟩
  · refine ⟨_, cap, rfl, QRow.of_own h, fun b hb' => ?_⟩
    simp [blkOf] at hb'
    subst hb'
    exact hlt _ rfl

theorem QRow.news {g off cap : Nat} {e : TypeId} {xs : List Value} (h : QRow w e (some ⟨g, off, none⟩) cap xs) : ∀ j u, xs[j]? = some u → w.cell? ((⟨g, off, none⟩ : Addr).add j) = some u := fun j u hu => by
  rw [add_none]
  exact h.cell hu

theorem frs_one {xs : List Value} {q : List (List Int)} (h : Frs w FP xs q) : ∀ u, u ∈ xs → u.oneCell' = true := fun u hu => by
  obtain ⟨i, hi⟩ := List.getElem?_of_mem hu
  have hl := (List.getElem?_eq_some_iff.1 hi).1
  obtain ⟨g, cap, cs, rfl, _⟩ := h.2 i u (q[i]'(by rw [← h.1]; exact hl)) hi (List.getElem?_eq_getElem _)
  rfl

set_option maxHeartbeats 1000000 in
/-- 'drop', of a queue that holds a frame. -/
theorem drop_f (h : BM w p bp bk FP C S) {k : Nat} (hk : k < S.n) (h4 : (S.L k).q.length ≤ 4) {fr : List Int} {q : List (List Int)} (hq : (S.L k).q = fr :: q) :
    Calls Tryz.prog 87 #[.pointer (some ⟨bp, k * 13 + 12, none⟩)] w fun e w' => e = .returned (.tuple #[]) ∧ Aft w w' p bp bk FP (onP S k fun P => P.setq P.q.tail) := by
  obtain ⟨g, off, cap, fg, fcap, cs, d12, hCk, c0, hb, hfg, hcs, x, xs, hr, hf⟩ := h.first hk hq
  have hfz := h.rows.free (k * 13 + 12)
  have hbp := h.rows.row.lt
  obtain ⟨i0, hi, hz0, hz1, hz2⟩ := info_parts info23
  have hr2 := hr.tail
  have hf2 := hf.tail
  have hlen : xs.length = q.length := hf2.1
  have hql : q.length < 4 := by rw [hq] at h4; simp at h4; omega
  have hcap := hr.1
  simp only [List.length_cons] at hcap
  have HN := hid (QRow.news hr2)
  have H1 := hid (frs_one hf2)
  have HR := hid hr2
  have HF := hid hf2
  have H := hid h
  have HQ := hid hq
  have HC := hid hCk
  have HL := hid hlen
  obtain ⟨n, hn⟩ : ∃ n, q.length = n := ⟨_, rfl⟩
  rw [hn] at d12 hql
  have HNN := hid hn
  have hc1 : n + 1 ≤ cap := by omega
  clear hr hf hr2 hf2 h hb hfg hcs c0 hlen hq hCk hn h4 hcap
  by_cases hcap1 : cap = 1
  case pos =>
    subst hcap1
    have hn0 : n = 0 := by omega
    have hxs : xs = [] := List.eq_nil_of_length_eq_zero (by rw [HL.out, HNN.out, hn0])
    subst hn0
    subst hxs
    go_enter Tryz.func87, Tryz.ntmps87
    go_wp2_with (at_builtin; refine wpList_append_own _ rfl _ _ 23 rfl w.heap.size 22 i0 _ 1 24 Tryz.underlying23 hi hz0 hz1 hz2 rfl (by decide) (.slice none 0 0) 0 [] rfl (World.ownsRow_nil _ w.heap.size 22 1) _ 0 _ [] rfl rfl (by simp) (by simp) (by unfold maxLen; omega) (by omega) (Nat.le_refl _) ?_)
    intro v' w2 hown hgr hz
    clear hz
    obtain ⟨A2, cap2, rfl, hr2, hlt2⟩ := own_qrow hown
    have hm : Mod [] w w2 := (Mod.refl _ _).grown hgr (by simp [Value.ownBlock])
    have hfr : w2.frozen? ⟨bp, k * 13 + 12, none⟩ = false := (hm.frozen hbp (by simp)).trans hfz
    have hce := (hm.cell (p := ⟨bp, k * 13 + 12, none⟩) hbp (by simp)).trans d12
    have HM := hid hm
    have HR2 := hid hr2
    have HLT := hid (fun b hb => (hlt2 b hb).2)
    have HGE := hid (show ∀ b, b ∈ blkOf A2 → w.heap.size ≤ b from fun b hb => (hlt2 b hb).1)
    clear hm hr2 hlt2 hown hgr hfz d12
    go_wp2
    go_end0
    have hq2 : (onP S (k : Int) fun P => P.setq P.q.tail) = onP S (k : Int) fun P => P.setq q := onP_congr (by rw [HQ.out]; rfl)
    have h1 := H.out.putq hk HM.out (by simp) (FP' := blkOf A2 ++ FP) HR2.out (HF.out.mod HM.out (by simp) fun b hb => List.mem_append_right _ hb) (fun b hb => .inr (HGE.out b hb)) (fun b hb => List.mem_append_right _ hb) (fun b hb => List.mem_append_left _ hb)
      (fun b hb => by
        rcases List.mem_append.1 hb with hb | hb
        · exact HLT.out b hb
        · exact Nat.lt_of_lt_of_le (H.out.rows.old b hb) HM.out.size)
    rw [HNN.out] at h1
    rw [hq2]
    refine ⟨rfl, _, _, h1, ⟨(HM.out.mono (by simp)).setCell (.inl H.out.rows.bpF) _, fun b hb => List.mem_append_right _ hb, fun b hb => ?_⟩⟩
    rcases List.mem_append.1 hb with hb | hb
    · exact .inr (HGE.out b hb)
    · exact .inl hb
  case neg =>
    go_enter Tryz.func87, Tryz.ntmps87
    go_wp2_with (at_builtin; refine wpList_append_own _ rfl _ _ 23 rfl w.heap.size 22 i0 _ 1 24 Tryz.underlying23 hi hz0 hz1 hz2 rfl (by decide) (.slice none 0 0) 0 [] rfl (World.ownsRow_nil _ w.heap.size 22 1) ⟨g, off + 1, none⟩ n (cap - 1) xs rfl (by rw [HL.out, HNN.out, Nat.mul_one]) HN.out H1.out (by unfold maxLen; omega) (by omega) (Nat.le_refl _) ?_)
    intro v' w2 hown hgr hz
    clear hz
    obtain ⟨A2, cap2, rfl, hr2, hlt2⟩ := own_qrow hown
    have hm : Mod [] w w2 := (Mod.refl _ _).grown hgr (by simp [Value.ownBlock])
    have hfr : w2.frozen? ⟨bp, k * 13 + 12, none⟩ = false := (hm.frozen hbp (by simp)).trans hfz
    have hce := (hm.cell (p := ⟨bp, k * 13 + 12, none⟩) hbp (by simp)).trans d12
    have HM := hid hm
    have HR2 := hid hr2
    have HLT := hid (fun b hb => (hlt2 b hb).2)
    have HGE := hid (show ∀ b, b ∈ blkOf A2 → w.heap.size ≤ b from fun b hb => (hlt2 b hb).1)
    clear hm hr2 hlt2 hown hgr hfz d12
    go_wp2
    go_end0
    have hq2 : (onP S (k : Int) fun P => P.setq P.q.tail) = onP S (k : Int) fun P => P.setq q := onP_congr (by rw [HQ.out]; rfl)
    have h1 := H.out.putq hk HM.out (by simp) (FP' := blkOf A2 ++ FP) HR2.out (HF.out.mod HM.out (by simp) fun b hb => List.mem_append_right _ hb) (fun b hb => .inr (HGE.out b hb)) (fun b hb => List.mem_append_right _ hb) (fun b hb => List.mem_append_left _ hb)
      (fun b hb => by
        rcases List.mem_append.1 hb with hb | hb
        · exact HLT.out b hb
        · exact Nat.lt_of_lt_of_le (H.out.rows.old b hb) HM.out.size)
    rw [HNN.out] at h1
    rw [hq2]
    refine ⟨rfl, _, _, h1, ⟨(HM.out.mono (by simp)).setCell (.inl H.out.rows.bpF) _, fun b hb => List.mem_append_right _ hb, fun b hb => ?_⟩⟩
    rcases List.mem_append.1 hb with hb | hb
    · exact .inr (HGE.out b hb)
    · exact .inl hb

set_option maxHeartbeats 1000000 in
/-- 'Done'. -/
theorem done_f (h : BM w p bp bk FP C S) {M : Int} (G : Ok S M) (hM : M ≤ 1152921504606846976) (x : Int) (on : Bool) : Calls Tryz.prog 84 #[.pointer (some ⟨p, 0, none⟩), .int .i64 x, .bool on] w fun e w' =>
    e = .returned (.int .i64 (headE S x)) ∧ Aft w w' p bp bk FP (doneS S x on) := by
  unfold doneS
  rcases headE_cases S x with he | he | ⟨he, k, fr, q, rfl, hk, hq⟩
  case inl =>
    have H := hid h
    have HE := hid he
    have HN := hid (show headE S x ≠ 0 by rw [he]; decide)
    rw [if_neg HN.out, he]
    clear h G he
    go_enter Tryz.func84, Tryz.ntmps84
    go_wp2_with (go_at_call 86; refine (headp_not H.out HN.out).mono ?_; rintro e w' ⟨⟨u, rfl⟩, rfl⟩; rw [HE.out])
    go_ret
    exact ⟨rfl, FP, C, H.out, Step.refl _ _⟩
  case inr.inl =>
    have H := hid h
    have HE := hid he
    have HN := hid (show headE S x ≠ 0 by rw [he]; decide)
    rw [if_neg HN.out, he]
    clear h G he
    go_enter Tryz.func84, Tryz.ntmps84
    go_wp2_with (go_at_call 86; refine (headp_not H.out HN.out).mono ?_; rintro e w' ⟨⟨u, rfl⟩, rfl⟩; rw [HE.out])
    go_ret
    exact ⟨rfl, FP, C, H.out, Step.refl _ _⟩
  case inr.inr =>
    rw [if_pos he, he]
    cases on
    case true =>
      obtain ⟨x5, e5⟩ : ∃ x, (S.L k).c 5 = x := ⟨_, rfl⟩
      have l5 := G.lo k 5 hk
      have m5 := G.hi k 5 hk
      rw [e5] at l5 m5
      have E5 := hid e5
      have H := hid h
      have HQ := hid hq
      have H4 := hid (G.q4 k hk)
      clear h G hq he e5
      go_enter Tryz.func84, Tryz.ntmps84
      go_wp2_with (first
        | (go_at_call 86; refine (headp_in H.out hk HQ.out).mono ?_; rintro e w' ⟨rfl, rfl⟩)
        | (go_at_call 87; refine (drop_f H.out hk H4.out HQ.out).mono ?_; rintro e w2 ⟨rfl, FP2, C2, h2, s2⟩; have d5 := h2.num (i := k) hk (show 5 < 12 by decide); rw [onP_L, setq_c, E5.out] at d5; have f5 := h2.rows.free (k * 13 + 5); have H2 := hid h2; have S2 := hid s2; clear h2 s2))
      go_ret
      have h3 := H2.out.onp (i := k) hk (show 5 < 12 by decide) (x5 + 1) (fun P => P.inc 5) (by rw [onP_L]; unfold Po.inc; rw [setq_c, E5.out])
      rw [onP_onP] at h3
      exact ⟨rfl, _, _, h3, S2.out.trans (Step.of_mod ((Mod.refl FP2 w2).setCell (p := ⟨bp, k * 13 + 5, none⟩) (.inl H2.out.rows.bpF) (.int .i64 (x5 + 1))))⟩
    case false =>
      obtain ⟨x7, e7⟩ : ∃ x, (S.L k).c 7 = x := ⟨_, rfl⟩
      have l7 := G.lo k 7 hk
      have m7 := G.hi k 7 hk
      rw [e7] at l7 m7
      have E7 := hid e7
      have H := hid h
      have HQ := hid hq
      have H4 := hid (G.q4 k hk)
      clear h G hq he e7
      go_enter Tryz.func84, Tryz.ntmps84
      go_wp2_with (first
        | (go_at_call 86; refine (headp_in H.out hk HQ.out).mono ?_; rintro e w' ⟨rfl, rfl⟩)
        | (go_at_call 87; refine (drop_f H.out hk H4.out HQ.out).mono ?_; rintro e w2 ⟨rfl, FP2, C2, h2, s2⟩; have d7 := h2.num (i := k) hk (show 7 < 12 by decide); rw [onP_L, setq_c, E7.out] at d7; have f7 := h2.rows.free (k * 13 + 7); have H2 := hid h2; have S2 := hid s2; clear h2 s2))
      go_ret
      have h3 := H2.out.onp (i := k) hk (show 7 < 12 by decide) (x7 + 1) (fun P => P.inc 7) (by rw [onP_L]; unfold Po.inc; rw [setq_c, E7.out])
      rw [onP_onP] at h3
      exact ⟨rfl, _, _, h3, S2.out.trans (Step.of_mod ((Mod.refl FP2 w2).setCell (p := ⟨bp, k * 13 + 7, none⟩) (.inl H2.out.rows.bpF) (.int .i64 (x7 + 1))))⟩
end

end Go.Proofs.YtfolppcadckmaaaGreat.Br
