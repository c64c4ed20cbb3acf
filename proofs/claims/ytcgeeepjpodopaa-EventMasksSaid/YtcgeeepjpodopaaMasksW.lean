/-
  Layer 7: EventMasks: the walk.
-/
import Derived.Test.YtcgeeepjpodopaaEz
namespace Go.Proofs.Ytcgeeepjpodopaa
open Go.RowKit Go.Tn

set_option maxRecDepth 100000 in
set_option maxHeartbeats 4000000 in
theorem masks_walk (clear_ sends before : Bool) (w : World) :
    Calls Try.prog 3 #[.bool clear_, .bool sends, .bool before] w fun e w' => e = .returned (.bool true) ∧ Below w.heap.size w w' := by
  cases clear_ <;> cases sends <;> cases before
  all_goals
    go_enter Try.func3, Try.ntmps3
    go_wp2_with fail
    refine (new_f w).mono ?_
    rintro e w1 ⟨rfl, h1, hm1⟩
    obtain ⟨x, hx⟩ : ∃ x, w.heap.size = x := ⟨_, rfl⟩
    rw [hx] at h1
    have HX := hid hx
    have H1 := hid h1
    have HM1 := hid (hm1.mono (T := [x]) (by simp))
    rw [hx]
    clear h1 hm1 hx
    go_wp2_with fail
    refine (alloc_f H1.out rfl).mono ?_
    rintro e w2 ⟨rfl, h2, hm2⟩
    have H2 := hid h2
    have HM2 := hid (HM1.out.andThen hm2)
    clear h2 hm2 H1 HM1
    go_wp2_with fail
    refine (bind_f H2.out rfl rfl rfl).mono ?_
    rintro e w3 ⟨rfl, h3, hm3⟩
    have H3 := hid h3
    have HM3 := hid (HM2.out.andThen hm3)
    clear h3 hm3 H2 HM2
    go_wp2_with (first
      | (go_at_call 7; refine (send_f H3.out rfl rfl rfl).mono ?_; rintro e w4 ⟨rfl, h4, hm4⟩; have HM3' := hid (HM3.out.andThen hm4); have H3' := hid h4; clear h4 hm4 HM3 H3; have H3 := H3'; have HM3 := HM3'; clear H3' HM3')
      | (go_at_call 8; refine (taketop_f H3.out).mono ?_; rintro e w4 ⟨rfl, h4, hm4⟩; have HM3' := hid (HM3.out.andThen hm4); have H3' := hid h4; clear h4 hm4 HM3 H3; have H3 := H3'; have HM3 := HM3'; clear H3' HM3')
      | (go_at_call 9; refine (mask_f H3.out (by decide) _).mono ?_; rintro e w4 ⟨rfl, h4, hm4⟩; have HM3' := hid (HM3.out.andThen hm4); have H3' := hid h4; clear h4 hm4 HM3 H3; have H3 := H3'; have HM3 := HM3'; clear H3' HM3')
      | (go_at_call 10; refine (clear_f H3.out (by decide)).mono ?_; rintro e w4 ⟨rfl, h4, hm4⟩; have HM3' := hid (HM3.out.andThen hm4); have H3' := hid h4; clear h4 hm4 HM3 H3; have H3 := H3'; have HM3 := HM3'; clear H3' HM3')
      | (go_at_call 11; refine (upcall_f H3.out).mono ?_; rintro e w4 ⟨rfl, rfl⟩)
      | (go_at_call 12; refine (pending_f H3.out).mono ?_; rintro e w4 ⟨⟨A, cap, rfl⟩, hm4⟩; have H3' := hid (H3.out.mod hm4 (by simp)); have HM3' := hid (HM3.out.trans hm4 (by simp)); clear hm4 HM3 H3; have H3 := H3'; have HM3 := HM3'; clear H3' HM3')
      | (go_at_call 13; refine (awake_f _).mono ?_; rintro e w4 ⟨rfl, hm4⟩; have HM3' := hid (HM3.out.trans hm4 (by simp)); clear hm4 HM3; have HM3 := HM3'; clear HM3'))
    go_ret
    exact ⟨rfl, HM3.out.below (Nat.le_refl _) (by rw [HX.out]; simp)⟩

end Go.Proofs.Ytcgeeepjpodopaa
