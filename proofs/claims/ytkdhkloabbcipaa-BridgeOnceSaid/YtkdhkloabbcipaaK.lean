/-
  Layer 14, the reference: Rate, Bad, Known, known, Counts, Tick.
-/
import Derived.Test.YtkdhkloabbcipaaJ
import Derived.StillTailTactics
namespace Go.Proofs.Ytkdhkloabbcipaa
open Go.RowKit Go.Tn Go.Tn.P14

theorem okC_cases (x : Int) : (okC x = true ∧ 0 ≤ x ∧ x ≤ 65536) ∨ (okC x = false ∧ x < 0) ∨ (okC x = false ∧ 0 ≤ x ∧ 65536 < x) := by
  unfold okC
  by_cases h0 : 0 ≤ x
  · by_cases h1 : x ≤ 65536
    · exact .inl ⟨by simp [h0, h1], h0, h1⟩
    · exact .inr (.inr ⟨by simp [h1], h0, by omega⟩)
  · exact .inr (.inl ⟨by simp [h0], by omega⟩)
theorem set3 (P : Po) (b r : Int) : ((P.set 10 b).set 11 r).set 9 b = ((P.set 9 b).set 10 b).set 11 r := by
  unfold Po.set
  congr 1
  funext k
  by_cases h9 : k = 9
  · subst h9; rfl
  · by_cases h10 : k = 10
    · subst h10; rfl
    · by_cases h11 : k = 11
      · subst h11; rfl
      · simp [h9, h10, h11]

section
variable {w w' : World} {q rp ac : Nat} {A : Option Addr} {FP FP' : List Nat} {C : Nat → Option Addr × Nat} {S : St}

theorem is_in (h : RC w q rp A ac FP C S) {k : Nat} (hk : k < S.n) : Calls Try.prog 37 #[.pointer (some ⟨q, 0, none⟩), .int .i64 k] w fun e w' => e = .returned (.bool true) ∧ w = w' := by
  have := is_f h k
  rw [isP_nat.2 hk] at this
  exact this
theorem is_out (h : RC w q rp A ac FP C S) {x : Int} (hx : isP S x = false) : Calls Try.prog 37 #[.pointer (some ⟨q, 0, none⟩), .int .i64 x] w fun e w' => e = .returned (.bool false) ∧ w = w' := by
  have := is_f h x
  rw [hx] at this
  exact this

/-- 'Rate'. -/
theorem rrate_f (h : RC w q rp A ac FP C S) (x bu ra : Int) : Calls Try.prog 31 #[.pointer (some ⟨q, 0, none⟩), .int .i64 x, .int .i64 bu, .int .i64 ra] w fun e w' =>
    e = .returned (.int .i64 (rateE S x bu ra)) ∧ RC w' q rp A ac FP C (rateS S x bu ra) ∧ Mod [rp] w w' := by
  unfold rateE rateS
  by_cases hp : isP S x = true
  · obtain ⟨h0, h1⟩ := isP_iff.1 hp
    obtain ⟨k, rfl⟩ := Int.eq_ofNat_of_zero_le h0
    have hk : k < S.n := by omega
    have c0 := h.c0
    have d0 := h.num hk (show 0 < 13 by decide) (by decide)
    have d1 := h.num hk (show 1 < 13 by decide) (by decide)
    have d2 := h.num hk (show 2 < 13 by decide) (by decide)
    have f0 := h.rows.free (k * 13 + 0)
    have f1 := h.rows.free (k * 13 + 1)
    have f2 := h.rows.free (k * 13 + 2)
    simp only [Nat.add_zero] at d0 f0
    have hqr := h.qr
    have H := hid h
    rw [hp]
    clear hp h0 h1 h
    rcases okC_cases bu with ⟨hb, b0, b1⟩ | ⟨hb, b0⟩ | ⟨hb, b0, b1⟩
    · rcases okC_cases ra with ⟨hr, r0, r1⟩ | ⟨hr, r0⟩ | ⟨hr, r0, r1⟩
      · simp only [hb, hr, Bool.and_self, if_true]
        clear hb hr
        go_enter Try.func31, Try.ntmps31
        go_wp2_with (go_at_call 37; refine (is_in H.out hk).mono ?_; rintro e w' ⟨rfl, rfl⟩)
        go_ret
        have h1 := H.out.onp hk (show 1 < 13 by decide) (by decide) bu (fun P => P.set 10 bu) rfl
        have h2 := h1.onp (i := k) hk (show 2 < 13 by decide) (by decide) ra (fun P => P.set 11 ra) rfl
        have h3 := h2.onp (i := k) hk (show 0 < 13 by decide) (by decide) bu (fun P => P.set 9 bu) rfl
        rw [onP_onP, onP_onP, onP_congr (g := fun P => ((P.set 9 bu).set 10 bu).set 11 ra) (set3 _ _ _)] at h3
        exact ⟨rfl, h3, (((Mod.refl _ _).setCell (.inl (by simp)) _).setCell (.inl (by simp)) _).setCell (.inl (by simp)) _⟩
      all_goals
        simp only [hb, hr, Bool.and_false, if_false]
        clear hb hr
        go_enter Try.func31, Try.ntmps31
        go_wp2_with (go_at_call 37; refine (is_in H.out hk).mono ?_; rintro e w' ⟨rfl, rfl⟩)
        go_ret
        exact ⟨rfl, H.out, Mod.refl _ _⟩
    all_goals
      simp only [hb, Bool.false_and, Bool.and_false, if_false]
      clear hb
      go_enter Try.func31, Try.ntmps31
      go_wp2_with (go_at_call 37; refine (is_in H.out hk).mono ?_; rintro e w' ⟨rfl, rfl⟩)
      go_ret
      exact ⟨rfl, H.out, Mod.refl _ _⟩
  · have hp' : isP S x = false := by simpa using hp
    simp only [hp', Bool.false_and, if_false]
    have H := hid h
    have HP := hid hp'
    clear hp hp' h
    go_enter Try.func31, Try.ntmps31
    go_wp2_with (go_at_call 37; refine (is_out H.out HP.out).mono ?_; rintro e w' ⟨rfl, rfl⟩)
    go_ret
    exact ⟨rfl, H.out, Mod.refl _ _⟩

/-- 'Bad'. -/
theorem rbad_f (h : RC w q rp A ac FP C S) {M : Int} (G : Ok S M) (hM : M ≤ 1152921504606846976) (x : Int) : Calls Try.prog 36 #[.pointer (some ⟨q, 0, none⟩), .int .i64 x] w fun e w' => e = .returned (.int .i64 (isE S x)) ∧ RC w' q rp A ac FP C (badS S x) ∧ Mod [rp] w w' := by
  unfold isE badS
  by_cases hp : isP S x = true
  · obtain ⟨h0, h1⟩ := isP_iff.1 hp
    obtain ⟨k, rfl⟩ := Int.eq_ofNat_of_zero_le h0
    have hk : k < S.n := by omega
    rw [if_pos hp, if_pos hp]
    have c0 := h.c0
    have d0 : w.cell? ⟨rp, k * 13 + 4, none⟩ = some (.int .i64 ((S.L k).c 0)) := h.num hk (show 4 < 13 by decide) (by decide)
    have d2 : w.cell? ⟨rp, k * 13 + 6, none⟩ = some (.int .i64 ((S.L k).c 2)) := h.num hk (show 6 < 13 by decide) (by decide)
    have f0 := h.rows.free (k * 13 + 4)
    have f2 := h.rows.free (k * 13 + 6)
    have l0 := G.lo k 0 hk
    have m0 := G.hi k 0 hk
    have l2 := G.lo k 2 hk
    have m2 := G.hi k 2 hk
    obtain ⟨x0, e0⟩ : ∃ x, (S.L k).c 0 = x := ⟨_, rfl⟩
    obtain ⟨x2, e2⟩ : ∃ x, (S.L k).c 2 = x := ⟨_, rfl⟩
    rw [e0] at d0 l0 m0
    rw [e2] at d2 l2 m2
    have E0 := hid e0
    have E2 := hid e2
    have hqr := h.qr
    have H := hid h
    clear e0 e2 h G hp h0 h1
    go_enter Try.func36, Try.ntmps36
    go_wp2_with (go_at_call 37; refine (is_in H.out hk).mono ?_; rintro e w' ⟨rfl, rfl⟩)
    go_ret
    have h1 := H.out.onp hk (show 4 < 13 by decide) (by decide) (x0 + 1) (fun P => P.inc 0) (by unfold Po.inc; rw [E0.out]; rfl)
    have h2 := h1.onp (i := k) hk (show 6 < 13 by decide) (by decide) (x2 + 1) (fun P => P.inc 2) (by rw [onP_L]; simp [Po.inc, Po.set, E2.out, rr])
    rw [onP_onP] at h2
    exact ⟨rfl, h2, ((Mod.refl _ _).setCell (.inl (by simp)) _).setCell (.inl (by simp)) _⟩
  · have hp' : isP S x = false := by simpa using hp
    rw [if_neg hp, if_neg hp]
    have H := hid h
    have HP := hid hp'
    clear hp hp' h G
    go_enter Try.func36, Try.ntmps36
    go_wp2_with (go_at_call 37; refine (is_out H.out HP.out).mono ?_; rintro e w' ⟨rfl, rfl⟩)
    go_ret
    exact ⟨rfl, H.out, Mod.refl _ _⟩

/-- 'Known'. -/
theorem rknown_f (h : RC w q rp A ac FP C S) (x : Int) : Calls Try.prog 35 #[.pointer (some ⟨q, 0, none⟩), .int .i64 x] w fun e w' => e = .returned (.tuple #[.int .i64 (knownV S x), .int .i64 (knownE S x)]) ∧ w = w' := by
  unfold knownV knownE
  by_cases hr : 0 ≤ x ∧ x ≤ 255
  · obtain ⟨r0, r1⟩ := hr
    obtain ⟨a, rfl⟩ := Int.eq_ofNat_of_zero_le r0
    have ha : a < 256 := by omega
    obtain ⟨g, off, rfl⟩ := h.addr
    have c1 := h.c1
    have hg := h.at_ ha
    clear h
    rw [if_neg (by omega : ¬ ¬ (0 ≤ (a : Int) ∧ (a : Int) ≤ 255))]
    by_cases hK : S.K a < 0
    · rw [if_pos hK, if_neg (by decide)]
      go_enter Try.func35, Try.ntmps35
      go_wp2
      go_ret2
      exact ⟨rfl, rfl⟩
    · rw [if_neg hK, if_pos rfl]
      have hK' : 0 ≤ S.K a := by omega
      clear hK
      go_enter Try.func35, Try.ntmps35
      go_wp2
      go_ret2
      exact ⟨rfl, rfl⟩
  · rw [if_pos hr, if_neg (by decide)]
    clear h
    by_cases h0 : x < 0
    · clear hr
      go_enter Try.func35, Try.ntmps35
      go_wp2
      go_ret2
      exact ⟨rfl, rfl⟩
    · have h1 : 0 ≤ x := by omega
      have h2 : 255 < x := by omega
      clear hr h0
      go_enter Try.func35, Try.ntmps35
      go_wp2
      go_ret2
      exact ⟨rfl, rfl⟩

set_option maxRecDepth 100000 in
/-- 'known'. -/
theorem rcnt_f (h : RC w q rp A ac FP C S) : Calls Try.prog 38 #[.pointer (some ⟨q, 0, none⟩)] w fun e w' => e = .returned (.int .i64 (cnt S.K)) ∧ w = w' := by
  obtain ⟨g, off, rfl⟩ := h.addr
  have c1 := h.c1
  have H := hid h
  have hcl : ∀ k, cntTo S.K k ≤ k := fun k => by
    induction k with
    | zero => exact Nat.le_refl _
    | succ k ih => simp only [cntTo]; split <;> omega
  have HCL := hid hcl
  obtain ⟨N, hN⟩ : ∃ N, cnt S.K = N := ⟨_, rfl⟩
  rw [hN]
  obtain ⟨f, hf⟩ : ∃ f : Nat → Nat, f = cntTo S.K := ⟨_, rfl⟩
  have HF := hid hf
  have HN := hid (show f 256 = N by rw [hf]; exact hN)
  have HFL := hid (show ∀ k, f k ≤ k by rw [hf]; exact hcl)
  clear h hcl hN hf HCL
  go_enter Try.func38, Try.ntmps38
  go_wp2
  go_loop [3, 4] (fun n i => ∃ k : Nat, k ≤ 256 ∧ i = .int .i64 k ∧ n = .int .i64 (f k)) (fun _ i => 256 - (intOf i).toNat)
  case atStart => exact ⟨0, by decide, rfl, by rw [HF.out]; rfl⟩
  case round =>
    obtain ⟨k, hk, rfl, rfl⟩ := hrel
    by_cases hlt : k < 256
    · have hc := H.out.at_ hlt
      have hn := HFL.out k
      by_cases hK : 0 ≤ S.K k
      · have hs := hid (show f (k + 1) = f k + 1 by rw [HF.out]; simp only [cntTo]; rw [if_pos hK])
        go_wp2
        go_round
        case rel => exact ⟨k + 1, by omega, by go_num, by rw [hs.out]; go_num⟩
        case measure => simp [intOf]; omega
      · have hs := hid (show f (k + 1) = f k by rw [HF.out]; simp only [cntTo]; rw [if_neg hK]; rfl)
        have hK' : S.K k < 0 := by omega
        clear hK
        go_wp2
        go_round
        case rel => exact ⟨k + 1, by omega, by go_num, by rw [hs.out]⟩
        case measure => simp [intOf]; omega
    · have hke : k = 256 := by omega
      subst hke
      clear hlt
      rw [HN.out]
      go_wp2
      go_ret
      exact ⟨rfl, rfl⟩
end

end Go.Proofs.Ytkdhkloabbcipaa
