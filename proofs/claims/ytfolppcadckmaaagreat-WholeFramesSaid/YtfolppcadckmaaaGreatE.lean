/-
  Layer 14, bridge.Bridge: Send.
-/
import Derived.Test.YtfolppcadckmaaaGreatEo
set_option maxRecDepth 100000
namespace Go.Proofs.YtfolppcadckmaaaGreat.Br
open Go.RowKit Go.Tn Go.Tn.P14

section
variable {w : World} {p bp bk : Nat} {FP : List Nat} {C : Nat → Option Addr × Nat} {S : St} {A : Option Addr} {cf : Nat} {fr : List Int}

set_option maxRecDepth 100000 in
set_option maxHeartbeats 4000000 in
/-- 'Send'. -/
theorem send_g (h : BM w p bp bk FP C S) {M : Int} (G : Ok S M) (hM : M ≤ 1152921504606846976) (hA : 0 < fr.length → Arg w A fr FP) (x : Int) :
    Calls Tryz.prog 69 #[.pointer (some ⟨p, 0, none⟩), .int .i64 x, .slice A fr.length cf] w fun e w' => e = .returned (.int .i64 (sendE S x fr)) ∧ Aft w w' p bp bk FP (sendS S x fr) := by
  unfold sendE sendS
  by_cases hp : isP S x = true
  · have hp' := isP_iff.1 hp
    obtain ⟨h0, h1⟩ := hp'
    obtain ⟨k, rfl⟩ := Int.eq_ofNat_of_zero_le h0
    have hk : k < S.n := by omega
    have hpF : ¬ (isP S (k : Int) = false) := by simp [hp]
    rw [if_neg hpF, if_neg hpF]
    simp only [Int.toNat_natCast]
    have d0 := h.num hk (show 0 < 12 by decide)
    have d1 := h.num hk (show 1 < 12 by decide)
    have d2 := h.num hk (show 2 < 12 by decide)
    have d3 := h.num hk (show 3 < 12 by decide)
    have d9 := h.num hk (show 9 < 12 by decide)
    have f0 := h.rows.free (k * 13 + 0)
    have f1 := h.rows.free (k * 13 + 1)
    have f2 := h.rows.free (k * 13 + 2)
    have f3 := h.rows.free (k * 13 + 3)
    have f9 := h.rows.free (k * 13 + 9)
    have l0 := G.lo k 0 hk
    have m0 := G.hi k 0 hk
    have l1 := G.lo k 1 hk
    have m1 := G.hi k 1 hk
    have l2 := G.lo k 2 hk
    have m2 := G.hi k 2 hk
    have l3 := G.lo k 3 hk
    have m3 := G.hi k 3 hk
    have l9 := G.lo k 9 hk
    have m9 := G.cr k 9 hk (by decide)
    obtain ⟨x0, e0⟩ : ∃ x, (S.L k).c 0 = x := ⟨_, rfl⟩
    obtain ⟨x1, e1⟩ : ∃ x, (S.L k).c 1 = x := ⟨_, rfl⟩
    obtain ⟨x2, e2⟩ : ∃ x, (S.L k).c 2 = x := ⟨_, rfl⟩
    obtain ⟨x3, e3⟩ : ∃ x, (S.L k).c 3 = x := ⟨_, rfl⟩
    obtain ⟨x9, e9⟩ : ∃ x, (S.L k).c 9 = x := ⟨_, rfl⟩
    rw [e0] at d0 l0 m0
    rw [e1] at d1 l1 m1
    rw [e2] at d2 l2 m2
    rw [e3] at d3 l3 m3
    rw [e9] at d9 l9 m9
    simp only [e9]
    simp only [Nat.add_zero] at d0 f0
    have E0 := hid e0
    have E1 := hid e1
    have E2 := hid e2
    have E3 := hid e3
    have E9 := hid e9
    have H := hid h
    have HG := hid G
    have HA := hid hA
    have hfl : fr.length * 1 ≤ 140737488351232 := by
      by_cases h0 : 0 < fr.length
      · exact (hA h0).len
      · omega
    clear e0 e1 e2 e3 e9 hp h0 h1 hpF
    have hbad : ∀ (hbad : badF fr = true) (w' : World), BM w' p bp bk FP C (onP S k fun P => (P.inc 0).inc 2) → Mod [bp] w w' → Aft w w' p bp bk FP (onP S k fun P => (P.inc 0).inc 2) := fun _ w' h1 h2 =>
      ⟨FP, C, h1, Step.of_mod (h2.mono fun t ht => .inl (by simp at ht; subst ht; exact H.out.rows.bpF))⟩
    have HBAD := hid hbad
    clear hbad
    have hst2 : BM ((w.setCell ⟨bp, k * 13, none⟩ (.int .i64 (x0 + 1))).setCell ⟨bp, k * 13 + 2, none⟩ (.int .i64 (x2 + 1))) p bp bk FP C (onP S k fun P => (P.inc 0).inc 2) := by
      have h1 := H.out.onp hk (show 0 < 12 by decide) (x0 + 1) (fun P => P.inc 0) (by unfold Po.inc; rw [E0.out])
      have h2 := h1.onp (i := k) hk (show 2 < 12 by decide) (x2 + 1) (fun P => P.inc 2) (by rw [onP_L]; unfold Po.inc; rw [set_c, if_neg (by decide), E2.out])
      rw [onP_onP] at h2
      exact h2
    have HST2 := hid hst2
    have hmd : ∀ (u v : Value) (a b : Nat), Mod [bp] w ((w.setCell ⟨bp, a, none⟩ u).setCell ⟨bp, b, none⟩ v) := fun u v a b => ((Mod.refl _ _).setCell (.inl (by simp)) _).setCell (.inl (by simp)) _
    have HMD := hid hmd
    clear hst2 hmd h G hA
    by_cases hl2 : fr.length < 2
    · have hb : badF fr = true := by simp [badF, hl2]
      rw [if_pos hb, if_pos hb]
      have HB := hid hb
      clear hb
      go_enter Tryz.func69, Tryz.ntmps69
      go_wp2
      go_step3
      go_wp2_with (go_at_call 37; refine (at_in H.out hk).mono ?_; rintro e w' ⟨rfl, rfl⟩)
      try rw [Exit.noGoto_ret]
      go_ret
      exact ⟨rfl, HBAD.out HB.out _ HST2.out (HMD.out _ _ _ _)⟩
    · have hl2' : 2 ≤ fr.length := by omega
      clear hl2
      by_cases hl3 : 128 < fr.length
      · have hb : badF fr = true := by simp [badF, hl3]
        rw [if_pos hb, if_pos hb]
        have HB := hid hb
        clear hb
        go_enter Tryz.func69, Tryz.ntmps69
        go_wp2
        go_step3
        go_wp2_with (go_at_call 37; refine (at_in H.out hk).mono ?_; rintro e w' ⟨rfl, rfl⟩)
        try rw [Exit.noGoto_ret]
        go_ret
        exact ⟨rfl, HBAD.out HB.out _ HST2.out (HMD.out _ _ _ _)⟩
      · have hl3' : fr.length ≤ 128 := by omega
        clear hl3
        obtain ⟨fb, off, rfl, hfb, hcs⟩ := (HA.out (by omega)).by_.2 (by omega)
        have g0 := hcs 0 _ (fAt_get (by omega))
        have g1 := hcs 1 _ (fAt_get (by omega))
        have r0 := fAt_rng (HA.out (by omega)).by_.1 (i := 0) (by omega)
        have r1 := fAt_rng (HA.out (by omega)).by_.1 (i := 1) (by omega)
        obtain ⟨y0, ey0⟩ : ∃ y, fAt fr 0 = y := ⟨_, rfl⟩
        obtain ⟨y1, ey1⟩ : ∃ y, fAt fr 1 = y := ⟨_, rfl⟩
        rw [ey0] at g0 r0
        rw [ey1] at g1 r1
        obtain ⟨r0, r0'⟩ := r0
        obtain ⟨r1, r1'⟩ := r1
        simp only [Nat.add_zero] at g0
        have hne : ¬ fb = bp := fun e => (HA.out (by omega)).out fb (by simp [blkOf]) (e ▸ H.out.rows.bpF)
        have HCS := hid hcs
        have EY0 := hid ey0
        have EY1 := hid ey1
        clear hcs ey0 ey1
        by_cases h255 : y1 = 255
        · have hb : badF fr = true := by simp [badF, EY1.out, h255]
          rw [if_pos hb, if_pos hb]
          have HB := hid hb
          have ht : (y1 == 255) = true := by simpa using h255
          clear hb h255
          go_enter Tryz.func69, Tryz.ntmps69
          go_wp2
          go_step3
          go_wp2_with (go_at_call 37; refine (at_in H.out hk).mono ?_; rintro e w' ⟨rfl, rfl⟩)
          try rw [Exit.noGoto_ret]
          go_ret
          exact ⟨rfl, HBAD.out HB.out _ HST2.out (HMD.out _ _ _ _)⟩
        · have hb : badF fr ≠ true := by
            simp only [badF, EY1.out]
            simp
            exact ⟨⟨by omega, by omega⟩, h255⟩
          rw [if_neg hb, if_neg hb]
          have ht : (y1 == 255) = false := by simpa using h255
          have HT := hid h255
          clear hb h255 HBAD HST2
          by_cases hcr : x9 < (fr.length : Int)
          · rw [if_pos hcr, if_pos hcr]
            go_enter Tryz.func69, Tryz.ntmps69
            go_wp2
            go_step3
            go_wp2_with (go_at_call 37; refine (at_in H.out hk).mono ?_; rintro e w' ⟨rfl, rfl⟩)
            try rw [Exit.noGoto_ret]
            go_ret
            have h1 := H.out.onp hk (show 0 < 12 by decide) (x0 + 1) (fun P => P.inc 0) (by unfold Po.inc; rw [E0.out])
            have h2 := h1.onp (i := k) hk (show 3 < 12 by decide) (x3 + 1) (fun P => P.inc 3) (by rw [onP_L]; unfold Po.inc; rw [set_c, if_neg (by decide), E3.out])
            rw [onP_onP] at h2
            exact ⟨rfl, FP, C, h2, Step.of_mod ((HMD.out _ _ _ _).mono fun t ht => .inl (by simp at ht; subst ht; exact H.out.rows.bpF))⟩
          · rw [if_neg hcr, if_neg hcr]
            exact send_on H.out HG.out hM (HA.out (by omega)) hk hl2' hl3' (by rw [EY1.out]; exact HT.out) (by rw [E9.out]; omega)
  · have hp' : isP S x = false := by simpa using hp
    rw [if_pos hp', if_pos hp']
    have H := hid h
    have HP := hid hp'
    clear hp hp' h G
    go_enter Tryz.func69, Tryz.ntmps69
    go_wp2
    go_step3
    go_wp2_with (go_at_call 37; refine (at_out H.out HP.out).mono ?_; rintro e w' ⟨rfl, rfl⟩)
    try rw [Exit.noGoto_ret]
    go_ret
    exact ⟨rfl, FP, C, H.out, Step.refl _ _⟩
theorem send_f (h : BM w p bp bk FP C S) {M : Int} (G : Ok S M) (hM : M ≤ 1152921504606846976) (hA : Arg w A fr FP) (x : Int) :
    Calls Tryz.prog 69 #[.pointer (some ⟨p, 0, none⟩), .int .i64 x, .slice A fr.length cf] w fun e w' => e = .returned (.int .i64 (sendE S x fr)) ∧ Aft w w' p bp bk FP (sendS S x fr) :=
  send_g h G hM (fun _ => hA) x
end

end Go.Proofs.YtfolppcadckmaaaGreat.Br
