/-
  Layer 14, bridge.Bridge: Known, Bad, Counts, Head, Done.
-/
import Derived.Test.YtfolppcadckmaaaGreatEa
import Derived.Laws.ResultCell
import Derived.Test.YtfolppcadckmaaaGreatOk
set_option maxRecDepth 100000
namespace Go.Proofs.YtfolppcadckmaaaGreat.Br
open Go.RowKit Go.Tn Go.Tn.P14
attribute [local go_sem] look57 nilM

section
variable {w : World} {p bp bk : Nat} {FP : List Nat} {C : Nat → Option Addr × Nat} {S : St}

/-- 'Bad'. -/
theorem bad_f (h : BM w p bp bk FP C S) {M : Int} (G : Ok S M) (hM : M ≤ 1152921504606846976) (x : Int) : Calls Tryz.prog 68 #[.pointer (some ⟨p, 0, none⟩), .int .i64 x] w fun e w' => e = .returned (.int .i64 (isE S x)) ∧ BM w' p bp bk FP C (badS S x) ∧ Mod [bp] w w' := by
  unfold isE badS
  by_cases hp : isP S x = true
  · obtain ⟨h0, h1⟩ := isP_iff.1 hp
    obtain ⟨k, rfl⟩ := Int.eq_ofNat_of_zero_le h0
    have hk : k < S.n := by omega
    rw [if_pos hp, if_pos hp]
    have d0 := h.num hk (show 0 < 12 by decide)
    have d2 := h.num hk (show 2 < 12 by decide)
    have f0 := h.rows.free (k * 13 + 0)
    have f2 := h.rows.free (k * 13 + 2)
    have l0 := G.lo k 0 hk
    have m0 := G.hi k 0 hk
    have l2 := G.lo k 2 hk
    have m2 := G.hi k 2 hk
    obtain ⟨x0, e0⟩ : ∃ x, (S.L k).c 0 = x := ⟨_, rfl⟩
    obtain ⟨x2, e2⟩ : ∃ x, (S.L k).c 2 = x := ⟨_, rfl⟩
    rw [e0] at d0 l0 m0
    rw [e2] at d2 l2 m2
    simp only [Nat.add_zero] at d0 f0
    have E0 := hid e0
    have E2 := hid e2
    have H := hid h
    clear e0 e2 h G hp h0 h1
    go_enter Tryz.func68, Tryz.ntmps68
    go_wp2_with (go_at_call 37; refine (at_in H.out hk).mono ?_; rintro e w' ⟨rfl, rfl⟩)
    go_ret
    have h1 := H.out.onp hk (show 0 < 12 by decide) (x0 + 1) (fun P => P.inc 0) (by unfold Po.inc; rw [E0.out])
    have h2 := h1.onp (i := k) hk (show 2 < 12 by decide) (x2 + 1) (fun P => P.inc 2) (by rw [onP_L]; simp [Po.inc, Po.set, E2.out])
    rw [onP_onP] at h2
    exact ⟨rfl, h2, ((Mod.refl _ _).setCell (.inl (by simp)) _).setCell (.inl (by simp)) _⟩
  · have hp' : isP S x = false := by simpa using hp
    rw [if_neg hp, if_neg hp]
    have H := hid h
    have HP := hid hp'
    clear hp hp' h G
    go_enter Tryz.func68, Tryz.ntmps68
    go_wp2_with (go_at_call 37; refine (at_out H.out HP.out).mono ?_; rintro e w' ⟨rfl, rfl⟩)
    go_ret
    exact ⟨rfl, H.out, Mod.refl _ _⟩

end

end Go.Proofs.YtfolppcadckmaaaGreat.Br
