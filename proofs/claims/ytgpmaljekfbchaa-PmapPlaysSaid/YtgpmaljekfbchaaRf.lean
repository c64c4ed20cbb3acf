/-
  Layer 3: the law's helper told, over a map and the reference's that read alike.
-/
import Derived.Test.YtgpmaljekfbchaaRe
import Derived.Deep.RegionHeld3
namespace Go.Proofs.Ytgpmaljekfbchaa
open Go.RowKit Go.Tn Go.Tn.P3

set_option maxHeartbeats 2000000 in
/-- 'told'. -/
theorem told_f {p bf bp q cap : Nat} {A : Option Addr} {L : List Int} {w : World} (h : PM w p bf bp L) (h' : RM w q A cap L) :
    Calls Try.prog 19 #[.pointer (some ⟨p, 0, none⟩), .pointer (some ⟨q, 0, none⟩)] w fun e w' => e = .returned (.bool true) ∧ Mod [] w w' := by
  have hq0 := h'.c0
  have hql := h'.blk.lt
  have hl := pairs_len_le h.good
  have hl2 := h.good.len
  have HP := hid h
  have HR := hid h'
  clear h h'
  go_enter Try.func19, Try.ntmps19
  go_wp2_with (first
    | (go_at_call 9; refine (hole_f HP.out).mono ?_; rintro e w' ⟨rfl, rfl⟩)
    | (go_at_call 28; refine (rhole_f HR.out).mono ?_; rintro e w' ⟨rfl, rfl⟩))
  go_region_held3 (fun w' => w'.cell? ⟨q, 0, none⟩ = some (.slice A L.length cap)) (go_keep) (first
    | (go_at_call 15; refine (size_f HP.out.drew).mono ?_; rintro e w' ⟨rfl, rfl⟩)
    | (go_at_call 11; refine (list_p HP.out.drew).mono ?_; rintro e w2 ⟨A1, cap1, rfl, hp1, hm1⟩; have HL1 := hid hp1; have HM1 := hid hm1; have HR1 := hid (HR.out.drew.mod hm1 (by simp) (by simp)); have k1 := HR1.out.c0; clear hp1 hm1)
    | (go_at_call 30; refine (rlist_p HR1.out).mono ?_; rintro e w3 ⟨A2, cap2, rfl, hp2, hm2⟩; have HL2 := hid hp2; have HM2 := hid hm2; have HL3 := hid (HL1.out.mod hm2 (by simp)); have k2 := (HR1.out.mod hm2 (by simp) (by simp)).c0; clear hp2 hm2)
    | (go_at_call 29; refine (pairs_f HL3.out HL2.out hl).mono ?_; rintro e w' ⟨rfl, n, rfl⟩))
  all_goals go_wp2
  all_goals go_ret
  all_goals exact ⟨rfl, (((Mod.refl _ _).drew.trans HM1.out (by simp)).trans HM2.out (by simp)).drewN _⟩

end Go.Proofs.Ytgpmaljekfbchaa
