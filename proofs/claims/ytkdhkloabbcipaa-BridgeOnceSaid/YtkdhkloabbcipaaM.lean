/-
  Layer 14, the reference: Done.
-/
import Derived.Test.YtkdhkloabbcipaaL
namespace Go.Proofs.Ytkdhkloabbcipaa
open Go.RowKit Go.Tn Go.Tn.P14

/-- The reference's switch reads as S'. -/
def AftR (w w' : World) (q rp : Nat) (A : Option Addr) (ac : Nat) (FP : List Nat) (S' : St) : Prop := ∃ FP' C', RC w' q rp A ac FP' C' S' ∧ Step w w' FP FP'

section
variable {w w' : World} {q rp ac : Nat} {A : Option Addr} {FP FP' : List Nat} {C : Nat → Option Addr × Nat} {S : St}

/-- A queue is stored. -/
theorem RC.putq (h : RC w q rp A ac FP C S) {k : Nat} (hk : k < S.n) {T FP' : List Nat} (hm : Mod T w w') (hT : ∀ b, b ∈ T → b ∈ blkOf (C k).1) {A' : Option Addr} {cap : Nat} {qs : List (List Int)} {xs : List Value}
    (hr : QRow w' 23 A' cap xs) (hf : Frs w' FP' xs qs) (hA : ∀ b, b ∈ blkOf A' → b ∈ blkOf (C k).1 ∨ w.heap.size ≤ b) (hF : ∀ b, b ∈ FP → b ∈ FP') (hF2 : ∀ b, b ∈ blkOf A' → b ∈ FP') (hF' : ∀ b, b ∈ FP' → b < w'.heap.size) :
    RC (w'.setCell ⟨rp, k * 13 + 3, none⟩ (.slice A' qs.length cap)) q rp A ac FP' (upd C k (A', cap)) (onP S k fun P => P.setq qs) := by
  obtain ⟨xs0, h1, _⟩ := h.rows.que k hk
  have hq : q ∉ T := fun e => h1.ne_blk h.hd (by decide) (hT q e)
  have hadr : ∀ b, b ∈ blkOf A → b ∉ T := fun b hb e => by
    rcases h.adr.2.2 with ⟨e0, _⟩ | ⟨g, off, cur, e0, hg, _⟩
    · rw [e0] at hb; simp [blkOf] at hb
    · rw [e0] at hb; simp [blkOf] at hb
      subst hb
      exact h1.ne_blk hg (by decide) (hT b e)
  have hm2 : Mod [rp] w' (w'.setCell ⟨rp, k * 13 + 3, none⟩ (.slice A' qs.length cap)) := (Mod.refl _ _).setCell (.inl (by simp)) _
  have hqr := h.qr
  refine ⟨(h.hd.mod hm hq).mod hm2 (by simpa using hqr), h.rows.putq hk (by decide) hm hT hr hf hA hF hF2 hF', ?_, hF q h.qF, fun b hb => hF b (h.aF b hb)⟩
  exact (h.adr.mod hm hadr).mod hm2 fun b hb e => by simp at e; subst e; exact h.ar hb

set_option maxHeartbeats 2000000 in
/-- 'Done'. -/
theorem rdone_f (h : RC w q rp A ac FP C S) {M : Int} (G : Ok S M) (hM : M ≤ 1152921504606846976) (x : Int) (on : Bool) : Calls Try.prog 34 #[.pointer (some ⟨q, 0, none⟩), .int .i64 x, .bool on] w fun e w' =>
    e = .returned (.int .i64 (headE S x)) ∧ AftR w w' q rp A ac FP (doneS S x on) := by
  unfold doneS
  rcases headE_cases S x with he | he | ⟨he, k, fr, qs, rfl, hk, hq⟩
  case inr.inr =>
    rw [if_pos he, he]
    obtain ⟨g, off, cap, fg, fcap, cs, d3, hCk, cg, hb, hfg, hcs, y, xs, hr, hf⟩ := h.first hk hq
    obtain ⟨n, hn⟩ : ∃ n, qs.length = n := ⟨_, rfl⟩
    rw [hn] at d3
    have hcap := hr.1
    have hlen : xs.length = n := by have := hf.1; simp at this; omega
    simp only [List.length_cons] at hcap
    have HR := hid hr.tail
    have HR0 := hid hr
    have HF := hid hf.tail
    have H := hid h
    have HG := hid G
    have HQ := hid hq
    have HE := hid he
    have HCk := hid hCk
    have HN := hid hn
    have HL := hid hlen
    clear h G hq he hr hf hb hfg hcs cg hCk hn hlen
    go_enter Try.func34, Try.ntmps34
    go_wp2_with (go_at_call 33; refine (rhead_f H.out HG.out (k : Int)).mono ?_; rintro e w2 ⟨⟨A2, cap2, rfl, hb2⟩, hm2⟩; rw [HE.out]; have HM2 := hid hm2; have H2 := hid (H.out.newer hm2); have c0 := H2.out.c0; have d3' := (hm2.cell (p := ⟨rp, k * 13 + 3, none⟩) H.out.rows.row.lt (by simp)).trans d3; have f3 := H2.out.rows.free (k * 13 + 3); clear hb2 hm2)
    by_cases hc1 : cap = 1
    case pos =>
      subst hc1
      have hx0 : xs = [] := List.eq_nil_of_length_eq_zero (by omega)
      go_region
      have hlt : ∀ b, b ∈ FP → b < w2.heap.size := fun b hb => Nat.lt_of_lt_of_le (H.out.rows.old b hb) HM2.out.size
      have hgF : g ∈ FP := H.out.rows.own k hk g (by rw [HCk.out]; simp [blkOf])
      have hqr : QRow w2 23 (some ⟨g, off, none⟩) (0) xs := by
        subst hx0
        refine ⟨Nat.le_refl _, Nat.zero_le _, ?_⟩
        rcases (HR0.out.mod HM2.out (by simp)).2.2 with ⟨h0, _⟩ | ⟨g', off', cur, hA, hg, hs, _⟩
        · cases h0
        · exact .inr ⟨g', off', cur, hA, hg, by omega, fun i x hx => by simp at hx⟩
      have hpq := H2.out.putq hk (Mod.refl [] w2) (by simp) hqr (HF.out.mod HM2.out (by simp) fun b hb => hb) (fun b hb => .inl (by rw [HCk.out]; exact hb)) (fun b hb => hb) (fun b hb => by simp [blkOf] at hb; subst hb; exact hgF) hlt
      rw [HN.out] at hpq
      have c0' : (w2.setCell ⟨rp, k * 13 + 3, none⟩ (.slice (some ⟨g, off, none⟩) n (0))).drew.cell? ⟨q, 0, none⟩ = some (.slice (some ⟨rp, 0, none⟩) S.n S.n) := hpq.c0
      obtain ⟨w3, hw3, H3, S3, c03⟩ : ∃ w3, w3 = (w2.setCell ⟨rp, k * 13 + 3, none⟩ (.slice (some ⟨g, off, none⟩) n (0))).drew ∧ Hid (RC w3 q rp A ac FP _ (onP S k fun P => P.setq qs)) ∧ Hid (Mod FP w w3) ∧ w3.cell? ⟨q, 0, none⟩ = some (.slice (some ⟨rp, 0, none⟩) S.n S.n) :=
        ⟨_, rfl, hpq.drew, ((HM2.out.mono (T := FP) (by simp)).setCell (.inl H.out.rows.bpF) _).drew, c0'⟩
      rw [← hw3]
      clear hw3 hpq c0' c0 d3 d3' f3 hqr HR HR0 hlt hgF
      cases on
      case true =>
        have h5 : w3.cell? ⟨rp, k * 13 + 9, none⟩ = some (.int .i64 ((S.L k).c 5)) := by
          have := H3.out.num (i := k) hk (show 9 < 13 by decide) (by decide)
          rw [onP_L, setq_c] at this
          exact this
        have f5 := H3.out.rows.free (k * 13 + 9)
        have l5 := HG.out.lo k 5 hk
        have m5 := HG.out.hi k 5 hk
        obtain ⟨x5, e5⟩ : ∃ x, (S.L k).c 5 = x := ⟨_, rfl⟩
        rw [e5] at h5 l5 m5
        have E5 := hid e5
        clear e5
        go_wp2
        go_ret
        have h4 := H3.out.onp (i := k) hk (show 9 < 13 by decide) (by decide) (x5 + 1) (fun P => P.inc 5) (by rw [onP_L]; unfold Po.inc; rw [setq_c, E5.out]; rfl)
        rw [onP_onP, onP_congr (g := fun P => doneP P true) (by simp only [doneP]; rw [HQ.out]; rfl)] at h4
        exact ⟨rfl, FP, _, h4, Step.of_mod (S3.out.setCell (.inl H.out.rows.bpF) _)⟩
      case false =>
        have h7 : w3.cell? ⟨rp, k * 13 + 11, none⟩ = some (.int .i64 ((S.L k).c 7)) := by
          have := H3.out.num (i := k) hk (show 11 < 13 by decide) (by decide)
          rw [onP_L, setq_c] at this
          exact this
        have f7 := H3.out.rows.free (k * 13 + 11)
        have l7 := HG.out.lo k 7 hk
        have m7 := HG.out.hi k 7 hk
        obtain ⟨x7, e7⟩ : ∃ x, (S.L k).c 7 = x := ⟨_, rfl⟩
        rw [e7] at h7 l7 m7
        have E7 := hid e7
        clear e7
        go_wp2
        go_ret
        have h4 := H3.out.onp (i := k) hk (show 11 < 13 by decide) (by decide) (x7 + 1) (fun P => P.inc 7) (by rw [onP_L]; unfold Po.inc; rw [setq_c, E7.out]; rfl)
        rw [onP_onP, onP_congr (g := fun P => doneP P false) (by simp only [doneP]; rw [HQ.out]; rfl)] at h4
        exact ⟨rfl, FP, _, h4, Step.of_mod (S3.out.setCell (.inl H.out.rows.bpF) _)⟩
    case neg =>
      go_region
      have hlt : ∀ b, b ∈ FP → b < w2.heap.size := fun b hb => Nat.lt_of_lt_of_le (H.out.rows.old b hb) HM2.out.size
      have hgF : g ∈ FP := H.out.rows.own k hk g (by rw [HCk.out]; simp [blkOf])
      have hqr : QRow w2 23 (some ⟨g, off + 1, none⟩) (cap - 1) xs := HR.out.mod HM2.out (by simp)
      have hpq := H2.out.putq hk (Mod.refl [] w2) (by simp) hqr (HF.out.mod HM2.out (by simp) fun b hb => hb) (fun b hb => .inl (by rw [HCk.out]; exact hb)) (fun b hb => hb) (fun b hb => by simp [blkOf] at hb; subst hb; exact hgF) hlt
      rw [HN.out] at hpq
      have c0' : (w2.setCell ⟨rp, k * 13 + 3, none⟩ (.slice (some ⟨g, off + 1, none⟩) n (cap - 1))).drew.cell? ⟨q, 0, none⟩ = some (.slice (some ⟨rp, 0, none⟩) S.n S.n) := hpq.c0
      obtain ⟨w3, hw3, H3, S3, c03⟩ : ∃ w3, w3 = (w2.setCell ⟨rp, k * 13 + 3, none⟩ (.slice (some ⟨g, off + 1, none⟩) n (cap - 1))).drew ∧ Hid (RC w3 q rp A ac FP _ (onP S k fun P => P.setq qs)) ∧ Hid (Mod FP w w3) ∧ w3.cell? ⟨q, 0, none⟩ = some (.slice (some ⟨rp, 0, none⟩) S.n S.n) :=
        ⟨_, rfl, hpq.drew, ((HM2.out.mono (T := FP) (by simp)).setCell (.inl H.out.rows.bpF) _).drew, c0'⟩
      rw [← hw3]
      clear hw3 hpq c0' c0 d3 d3' f3 hqr HR HR0 hlt hgF
      cases on
      case true =>
        have h5 : w3.cell? ⟨rp, k * 13 + 9, none⟩ = some (.int .i64 ((S.L k).c 5)) := by
          have := H3.out.num (i := k) hk (show 9 < 13 by decide) (by decide)
          rw [onP_L, setq_c] at this
          exact this
        have f5 := H3.out.rows.free (k * 13 + 9)
        have l5 := HG.out.lo k 5 hk
        have m5 := HG.out.hi k 5 hk
        obtain ⟨x5, e5⟩ : ∃ x, (S.L k).c 5 = x := ⟨_, rfl⟩
        rw [e5] at h5 l5 m5
        have E5 := hid e5
        clear e5
        go_wp2
        go_ret
        have h4 := H3.out.onp (i := k) hk (show 9 < 13 by decide) (by decide) (x5 + 1) (fun P => P.inc 5) (by rw [onP_L]; unfold Po.inc; rw [setq_c, E5.out]; rfl)
        rw [onP_onP, onP_congr (g := fun P => doneP P true) (by simp only [doneP]; rw [HQ.out]; rfl)] at h4
        exact ⟨rfl, FP, _, h4, Step.of_mod (S3.out.setCell (.inl H.out.rows.bpF) _)⟩
      case false =>
        have h7 : w3.cell? ⟨rp, k * 13 + 11, none⟩ = some (.int .i64 ((S.L k).c 7)) := by
          have := H3.out.num (i := k) hk (show 11 < 13 by decide) (by decide)
          rw [onP_L, setq_c] at this
          exact this
        have f7 := H3.out.rows.free (k * 13 + 11)
        have l7 := HG.out.lo k 7 hk
        have m7 := HG.out.hi k 7 hk
        obtain ⟨x7, e7⟩ : ∃ x, (S.L k).c 7 = x := ⟨_, rfl⟩
        rw [e7] at h7 l7 m7
        have E7 := hid e7
        clear e7
        go_wp2
        go_ret
        have h4 := H3.out.onp (i := k) hk (show 11 < 13 by decide) (by decide) (x7 + 1) (fun P => P.inc 7) (by rw [onP_L]; unfold Po.inc; rw [setq_c, E7.out]; rfl)
        rw [onP_onP, onP_congr (g := fun P => doneP P false) (by simp only [doneP]; rw [HQ.out]; rfl)] at h4
        exact ⟨rfl, FP, _, h4, Step.of_mod (S3.out.setCell (.inl H.out.rows.bpF) _)⟩
  case inl =>
    have H := hid h
    have HG := hid G
    have HE := hid he
    have HN := hid (show headE S x ≠ 0 by rw [he]; decide)
    rw [if_neg HN.out, he]
    clear h G he
    go_enter Try.func34, Try.ntmps34
    go_wp2_with (go_at_call 33; refine (rhead_f H.out HG.out x).mono ?_; rintro e w2 ⟨⟨A2, cap2, rfl, hb2⟩, hm2⟩; rw [HE.out]; have HM2 := hid hm2; clear hb2 hm2)
    go_ret
    exact ⟨rfl, FP, C, H.out.newer HM2.out, Step.of_mod (HM2.out.mono (by simp))⟩
  case inr.inl =>
    have H := hid h
    have HG := hid G
    have HE := hid he
    have HN := hid (show headE S x ≠ 0 by rw [he]; decide)
    rw [if_neg HN.out, he]
    clear h G he
    go_enter Try.func34, Try.ntmps34
    go_wp2_with (go_at_call 33; refine (rhead_f H.out HG.out x).mono ?_; rintro e w2 ⟨⟨A2, cap2, rfl, hb2⟩, hm2⟩; rw [HE.out]; have HM2 := hid hm2; clear hb2 hm2)
    go_ret
    exact ⟨rfl, FP, C, H.out.newer HM2.out, Step.of_mod (HM2.out.mono (by simp))⟩
end

end Go.Proofs.Ytkdhkloabbcipaa
