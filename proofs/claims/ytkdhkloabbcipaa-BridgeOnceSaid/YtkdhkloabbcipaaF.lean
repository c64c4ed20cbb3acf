/-
  Layer 14, bridge.Bridge: Known, Bad, Counts, Head, Done.
-/
import Derived.Test.YtkdhkloabbcipaaEa
import Derived.Laws.ResultCell
import Derived.Test.YtkdhkloabbcipaaOk
namespace Go.Proofs.Ytkdhkloabbcipaa
open Go.RowKit Go.Tn Go.Tn.P14
attribute [local go_sem] look57 nilM

section
variable {w : World} {p bp bk : Nat} {FP : List Nat} {C : Nat → Option Addr × Nat} {S : St}

/-- 'Known'. -/
theorem known_f (h : BM w p bp bk FP C S) (x : Int) : Calls Try.prog 16 #[.pointer (some ⟨p, 0, none⟩), .int .i64 x] w fun e w' => e = .returned (.tuple #[.int .i64 (knownV S x), .int .i64 (knownE S x)]) ∧ w = w' := by
  have c1 := h.c1
  have hm := h.isM
  have hg := h.get x
  have H1 := hid h.c1
  clear h
  unfold knownV knownE
  by_cases hr : 0 ≤ x ∧ x ≤ 255
  · obtain ⟨r0, r1⟩ := hr
    rw [if_neg (by omega : ¬ ¬ (0 ≤ x ∧ x ≤ 255))]
    by_cases hK : S.K x < 0
    · rw [if_pos hK, if_neg (by decide)]
      rw [if_neg (by omega)] at hg
      clear hK
      go_enter Try.func16, Try.ntmps16
      go_wp2_with (go_at_call 30; refine (none_f _ _ _ H1.out).mono ?_; rintro e w' ⟨rfl, rfl⟩)
      go_ret2
      exact ⟨rfl, rfl⟩
    · rw [if_neg hK, if_pos rfl]
      rw [if_pos (by omega)] at hg
      clear hK
      go_enter Try.func16, Try.ntmps16
      go_wp2_with (go_at_call 30; refine (none_f _ _ _ H1.out).mono ?_; rintro e w' ⟨rfl, rfl⟩)
      go_ret2
      exact ⟨rfl, rfl⟩
  · rw [if_pos hr, if_neg (by decide)]
    by_cases h0 : x < 0
    · clear hr hg
      go_enter Try.func16, Try.ntmps16
      go_wp2_with (go_at_call 30; refine (none_f _ _ _ H1.out).mono ?_; rintro e w' ⟨rfl, rfl⟩)
      go_ret2
      exact ⟨rfl, rfl⟩
    · have h1 : 0 ≤ x := by omega
      have h2 : 255 < x := by omega
      clear hr hg h0
      go_enter Try.func16, Try.ntmps16
      go_wp2_with (go_at_call 30; refine (none_f _ _ _ H1.out).mono ?_; rintro e w' ⟨rfl, rfl⟩)
      go_ret2
      exact ⟨rfl, rfl⟩

/-- 'Bad'. -/
theorem bad_f (h : BM w p bp bk FP C S) {M : Int} (G : Ok S M) (hM : M ≤ 1152921504606846976) (x : Int) : Calls Try.prog 23 #[.pointer (some ⟨p, 0, none⟩), .int .i64 x] w fun e w' => e = .returned (.int .i64 (isE S x)) ∧ BM w' p bp bk FP C (badS S x) ∧ Mod [bp] w w' := by
  unfold isE badS
  by_cases hp : isP S x = true
  · obtain ⟨h0, h1⟩ := isP_iff.1 hp
    obtain ⟨k, rfl⟩ := Int.eq_ofNat_of_zero_le h0
    have hk : k < S.n := by omega
    rw [if_pos hp, if_pos hp]
    have d0 := h.num hk (show 0 < 12 by decide)
    have d2 := h.num hk (show 2 < 12 by decide)
    have f0 := h.rows.free (k * 13 + 0)
    have f2 := h.rows.free (k * 13 + 2)
    have l0 := G.lo k 0 hk
    have m0 := G.hi k 0 hk
    have l2 := G.lo k 2 hk
    have m2 := G.hi k 2 hk
    obtain ⟨x0, e0⟩ : ∃ x, (S.L k).c 0 = x := ⟨_, rfl⟩
    obtain ⟨x2, e2⟩ : ∃ x, (S.L k).c 2 = x := ⟨_, rfl⟩
    rw [e0] at d0 l0 m0
    rw [e2] at d2 l2 m2
    simp only [Nat.add_zero] at d0 f0
    have E0 := hid e0
    have E2 := hid e2
    have H := hid h
    clear e0 e2 h G hp h0 h1
    go_enter Try.func23, Try.ntmps23
    go_wp2_with (go_at_call 27; refine (at_in H.out hk).mono ?_; rintro e w' ⟨rfl, rfl⟩)
    go_ret
    have h1 := H.out.onp hk (show 0 < 12 by decide) (x0 + 1) (fun P => P.inc 0) (by unfold Po.inc; rw [E0.out])
    have h2 := h1.onp (i := k) hk (show 2 < 12 by decide) (x2 + 1) (fun P => P.inc 2) (by rw [onP_L]; simp [Po.inc, Po.set, E2.out])
    rw [onP_onP] at h2
    exact ⟨rfl, h2, ((Mod.refl _ _).setCell (.inl (by simp)) _).setCell (.inl (by simp)) _⟩
  · have hp' : isP S x = false := by simpa using hp
    rw [if_neg hp, if_neg hp]
    have H := hid h
    have HP := hid hp'
    clear hp hp' h G
    go_enter Try.func23, Try.ntmps23
    go_wp2_with (go_at_call 27; refine (at_out H.out HP.out).mono ?_; rintro e w' ⟨rfl, rfl⟩)
    go_ret
    exact ⟨rfl, H.out, Mod.refl _ _⟩

/-- What Counts answers. -/
def cntA (S : St) (x : Int) : Value := .agg #[.int .i64 (countV S x 0), .int .i64 (countV S x 1), .int .i64 (countV S x 2), .int .i64 (countV S x 3), .int .i64 (countV S x 4), .int .i64 (countV S x 5), .int .i64 (countV S x 6), .int .i64 (countV S x 7), .int .i64 (countV S x 8)]

set_option maxHeartbeats 1000000 in
/-- 'Counts'. -/
theorem counts_f (h : BM w p bp bk FP C S) (x : Int) : Calls Try.prog 14 #[.pointer (some ⟨p, 0, none⟩), .int .i64 x] w fun e w' => e = .returned (.tuple #[cntA S x, .int .i64 (isE S x)]) ∧ Mod [] w w' := by
  unfold cntA isE countV
  by_cases hp : isP S x = true
  · obtain ⟨h0, h1⟩ := isP_iff.1 hp
    obtain ⟨k, rfl⟩ := Int.eq_ofNat_of_zero_le h0
    have hk : k < S.n := by omega
    simp only [hp, if_true, Int.toNat_natCast]
    have d0 := h.num hk (show 0 < 12 by decide)
    have d1 := h.num hk (show 1 < 12 by decide)
    have d2 := h.num hk (show 2 < 12 by decide)
    have d3 := h.num hk (show 3 < 12 by decide)
    have d4 := h.num hk (show 4 < 12 by decide)
    have d5 := h.num hk (show 5 < 12 by decide)
    have d6 := h.num hk (show 6 < 12 by decide)
    have d7 := h.num hk (show 7 < 12 by decide)
    have d8 := h.num hk (show 8 < 12 by decide)
    have dq := h.que hk
    simp only [Nat.add_zero] at d0
    have hbl := h.rows.row.lt
    have H := hid h
    clear h hp h0 h1
    go_enter Try.func14, Try.ntmps14
    go_wp2_with (go_at_call 27; refine (at_in (H.out.newer ((Mod.refl [] w).alloc (.cells #[.int .i64 0, .int .i64 0, .int .i64 0, .int .i64 0, .int .i64 0, .int .i64 0, .int .i64 0, .int .i64 0, .int .i64 0] 36))) hk).mono ?_; rintro e w' ⟨rfl, rfl⟩)
    refine bodyPost_ret (by rw [results_cell_tmp rfl]; go_simp; rfl) rfl ?_
    exact ⟨rfl, (((Mod.refl _ _).alloc _).alloc _)⟩
  · have hp' : isP S x = false := by simpa using hp
    simp only [hp', Bool.false_eq_true, if_false]
    have H := hid h
    have HP := hid hp'
    clear hp hp' h
    go_enter Try.func14, Try.ntmps14
    go_wp2_with (go_at_call 27; refine (at_out (H.out.newer ((Mod.refl [] w).alloc (.cells #[.int .i64 0, .int .i64 0, .int .i64 0, .int .i64 0, .int .i64 0, .int .i64 0, .int .i64 0, .int .i64 0, .int .i64 0] 36))) HP.out).mono ?_; rintro e w' ⟨rfl, rfl⟩)
    refine bodyPost_ret (by rw [results_cell_tmp rfl]; go_simp; rfl) rfl ?_
    exact ⟨rfl, (Mod.refl _ _).alloc _⟩
end

end Go.Proofs.Ytkdhkloabbcipaa
