/-
  Layer 3, p2m: Copy.
-/
import Derived.Test.YtgpmaljekfbchaaPc
namespace Go.Proofs.Ytgpmaljekfbchaa
open Go.RowKit Go.Tn Go.Tn.P3
attribute [local go_sem] look48 del48 nilM entry48 entrySt48

theorem list_pos {p bf bp : Nat} {L : List Int} {w : World} (h : PM w p bf bp L) (hn : 0 < (pairs L).length) :
    Calls Try.prog 11 #[.pointer (some ⟨p, 0, none⟩)] w fun e w' => ∃ g cap, e = .returned (.slice (some ⟨g, 0, none⟩) (pairs L).length cap) ∧ w.heap.size ≤ g ∧
      (∀ k x, (pairs L)[k]? = some x → w'.cell? ⟨g, k * 2, none⟩ = some (.int .i64 x.1) ∧ w'.cell? ⟨g, k * 2 + 1, none⟩ = some (.int .i64 x.2)) ∧ g < w'.heap.size ∧ Mod [] w w' := by
  refine (list_f h).mono ?_
  rintro e w' ⟨v, rfl, hown, hm⟩
  obtain ⟨g, cap, rfl, hg, hlt⟩ : ∃ g cap, v = .slice (some ⟨g, 0, none⟩) (pairs L).length cap ∧ w.heap.size ≤ g ∧ g < w'.heap.size := by
    rcases hown.2 with ⟨_, h0⟩ | ⟨g, cap, cur, rfl, hg, hh, _⟩
    · omega
    · exact ⟨g, cap, rfl, hg, (Array.getElem?_eq_some_iff.1 hh).1⟩
  refine ⟨g, cap, rfl, hg, fun k x hx => ?_, hlt, hm⟩
  have hk := (List.getElem?_eq_some_iff.1 hx).1
  have hc := cellsOf_get _ k x hx
  rw [hown.cellAt _ (by omega), hown.cellAt _ (by omega)]
  exact hc

theorem list_zero {p bf bp : Nat} {L : List Int} {w : World} (h : PM w p bf bp L) (hn : (pairs L).length = 0) :
    Calls Try.prog 11 #[.pointer (some ⟨p, 0, none⟩)] w fun e w' => ∃ A cap, e = .returned (.slice A 0 cap) ∧ Mod [] w w' := by
  refine (list_f h).mono ?_
  rintro e w' ⟨v, rfl, hown, hm⟩
  rw [hn] at hown
  rcases hown.2 with ⟨rfl, _⟩ | ⟨g, cap, cur, rfl, _⟩
  · exact ⟨_, _, rfl, hm⟩
  · exact ⟨_, _, rfl, hm⟩

theorem copied_zero (L : List Int) : copied L 0 = List.replicate L.length (-1) := rfl

theorem pairs_len_le {L : List Int} (G : Ok3 L) : (pairs L).length ≤ 48 := Nat.le_trans (pairsTo_len L L.length) G.len

theorem PM.alloc {w : World} {p bf bp : Nat} {L : List Int} (h : PM w p bf bp L) (o : Obj) : PM (w.alloc o) p bf bp L := h.mod ((Mod.refl [] w).alloc o) (by simp) (by simp) (by simp)

/-- 'Copy': a map of its own, in new memory. -/
theorem copy_f {p bf bp : Nat} {L : List Int} {w : World} (h : PM w p bf bp L) :
    Calls Try.prog 17 #[.pointer (some ⟨p, 0, none⟩)] w fun e w' => ∃ p' bf' bp', e = .returned (.pointer (some ⟨p', 0, none⟩)) ∧ PM w' p' bf' bp' L ∧ Mod [] w w' ∧ w.heap.size ≤ p' ∧ w.heap.size ≤ bf' ∧ w.heap.size ≤ bp' := by
  have c0 := h.c0
  have c2 := h.c2
  have hl := h.good.len
  have hpl := pairs_len_le h.good
  have hca := hid (copied_all h.good)
  have H := hid h
  clear h
  by_cases hn : 0 < (pairs L).length
  · go_enter Try.func17, Try.ntmps17
    go_wp2_with (first
      | (go_at_call 22; refine (none_f p bf _ c0).mono ?_; rintro e w' ⟨rfl, rfl⟩)
      | (go_at_call 8; refine (new_ok L.length _ hl).mono ?_; rintro e w1 ⟨rfl, hq, hm1⟩; have HQ := hid hq; have HM1 := hid hm1; clear hq hm1)
      | (go_at_call 11; refine (list_pos (H.out.mod HM1.out (by simp) (by simp) (by simp)) hn).mono ?_; rintro e w2 ⟨g, cap, rfl, hg, hcell, hlt, hm2⟩; have HC := hid hcell; have HM2 := hid hm2; clear hcell hm2))
    go_loopw [20] (fun i wr => ∃ k : Nat, k ≤ (pairs L).length ∧ i = .int .i64 k ∧ Hid (PM wr (w.heap.size + 2) w.heap.size (w.heap.size + 1) (copied L k)) ∧ Hid (Mod [w.heap.size, w.heap.size + 1] w2 wr)) (fun i _ => (pairs L).length - (intOf i).toNat)
    case atStart => exact ⟨0, Nat.zero_le _, rfl, HQ.out.mod HM2.out (by simp) (by simp) (by simp), Mod.refl _ _⟩
    case round =>
      obtain ⟨k, hk, rfl, hp, hm⟩ := hrel
      by_cases hlt' : k < (pairs L).length
      · obtain ⟨x, hx⟩ : ∃ x, (pairs L)[k]? = some x := ⟨_, List.getElem?_eq_getElem hlt'⟩
        have hs1 := HM1.out.size
        have hq3 := HQ.out.blk.lt
        have hg0 : g ≠ w.heap.size := by omega
        have hg1 : g ≠ w.heap.size + 1 := by omega
        have hx1 : wr.cell? ⟨g, k * 2, none⟩ = some (.int .i64 x.1) := (hm.out.cell (p := ⟨g, k * 2, none⟩) hlt (by simp [hg0, hg1])).trans (HC.out k x hx).1
        have hx2 : wr.cell? ⟨g, k * 2 + 1, none⟩ = some (.int .i64 x.2) := (hm.out.cell (p := ⟨g, k * 2 + 1, none⟩) hlt (by simp [hg0, hg1])).trans (HC.out k x hx).2
        have hsz := hm.out.size
        have HS := hid (copied_succ L k x hx)
        obtain ⟨x1, x2⟩ := x
        clear hx hg0 hg1
        go_wp2_with (go_at_call 10; refine (set_f (hp.out.alloc _) x1 x2).mono ?_; rintro e w3 ⟨rfl, hp3, hm3⟩; have HP3 := hid hp3; have HM3 := hid hm3; clear hp3 hm3)
        go_roundw
        case rel =>
          refine ⟨k + 1, by omega, by go_num, ?_, ?_⟩
          · show PM _ _ _ _ _
            rw [HS.out]; exact HP3.out
          · exact (hm.out.alloc _).andThen HM3.out
        case measure => simp [intOf]; omega
      · have he : k = (pairs L).length := by omega
        subst he
        go_wp2
        go_ret
        refine ⟨w.heap.size + 2, w.heap.size, w.heap.size + 1, rfl, by rw [hca.out] at hp; exact hp.out, ?_, by omega, Nat.le_refl _, by omega⟩
        exact ((HM1.out.trans HM2.out (by simp)).trans hm.out (by simp)).mono (by simp)
  · have hn' : (pairs L).length = 0 := by omega
    clear hn
    go_enter Try.func17, Try.ntmps17
    go_wp2_with (first
      | (go_at_call 22; refine (none_f p bf _ c0).mono ?_; rintro e w' ⟨rfl, rfl⟩)
      | (go_at_call 8; refine (new_ok L.length _ hl).mono ?_; rintro e w1 ⟨rfl, hq, hm1⟩; have HQ := hid hq; have HM1 := hid hm1; clear hq hm1)
      | (go_at_call 11; refine (list_zero (H.out.mod HM1.out (by simp) (by simp) (by simp)) hn').mono ?_; rintro e w2 ⟨A, cap, rfl, hm2⟩; have HM2 := hid hm2; clear hm2))
    refine wp_loop_rounds 1 ?_
    rw [rounds_succ]
    go_wp2
    go_ret
    refine ⟨w.heap.size + 2, w.heap.size, w.heap.size + 1, rfl, ?_, HM1.out.trans HM2.out (by simp), by omega, Nat.le_refl _, by omega⟩
    have h1 := HQ.out.mod HM2.out (by simp) (by simp) (by simp)
    have h2 := hca.out
    rw [hn', copied_zero] at h2
    rw [h2] at h1
    exact h1

end Go.Proofs.Ytgpmaljekfbchaa
