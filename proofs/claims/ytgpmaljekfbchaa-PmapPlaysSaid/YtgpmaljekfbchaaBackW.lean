/-
  Layer 3: PmapBack: the walk.
-/
import Derived.Test.YtgpmaljekfbchaaPd
import Derived.Test.YtgpmaljekfbchaaBackL
import Derived.Test.YtgpmaljekfbchaaOpen
import Derived.StillTailTactics
namespace Go.Proofs.Ytgpmaljekfbchaa
open Go.RowKit Go.Tn Go.Tn.P3

theorem clear_st {p bf bp m : Nat} {L : List Int} {w : World} (h : PM w p bf bp L) (hl : L.length = m) (g : Int) :
    Calls Try.prog 12 #[.pointer (some ⟨p, 0, none⟩), .int .i64 g] w fun e w' => ∃ v c L2, e = .returned (.tuple #[.int .i64 v, .int .i64 c]) ∧ PM w' p bf bp L2 ∧ Hid (L2.length = m) ∧ Mod [bf, bp] w w' := by
  refine (clear_f h g).mono ?_
  rintro e w' ⟨rfl, h2, hm⟩
  exact ⟨_, _, _, rfl, h2, (len_clearL L g).trans hl, hm⟩
theorem set_st {p bf bp m : Nat} {L : List Int} {w : World} (h : PM w p bf bp L) (hl : L.length = m) (g x : Int) :
    Calls Try.prog 10 #[.pointer (some ⟨p, 0, none⟩), .int .i64 g, .int .i64 x] w fun e w' => ∃ c L2, e = .returned (.int .i64 c) ∧ PM w' p bf bp L2 ∧ Hid (L2.length = m) ∧ Mod [bf, bp] w w' := by
  refine (set_f h g x).mono ?_
  rintro e w' ⟨rfl, h2, hm⟩
  exact ⟨_, _, rfl, h2, (len_setL L g x).trans hl, hm⟩

theorem list_u {p bf bp : Nat} {L : List Int} {w : World} (h : PM w p bf bp L) :
    Calls Try.prog 11 #[.pointer (some ⟨p, 0, none⟩)] w fun e w' => ∃ A cap, e = .returned (.slice A (pairs L).length cap) ∧
      (∀ k x, (pairs L)[k]? = some x → ∃ g, A = some ⟨g, 0, none⟩ ∧ w'.cell? ⟨g, k * 2, none⟩ = some (.int .i64 x.1) ∧ w'.cell? ⟨g, k * 2 + 1, none⟩ = some (.int .i64 x.2)) ∧ Mod [] w w' := by
  by_cases hn : 0 < (pairs L).length
  · refine (list_pos h hn).mono ?_
    rintro e w' ⟨g, cap, rfl, _, hc, _, hm⟩
    exact ⟨_, cap, rfl, fun k x hx => ⟨g, rfl, hc k x hx⟩, hm⟩
  · have h0 : (pairs L).length = 0 := by omega
    refine (list_zero h h0).mono ?_
    rintro e w' ⟨A, cap, rfl, hm⟩
    exact ⟨A, cap, by rw [h0], fun k x hx => by have := (List.getElem?_eq_some_iff.1 hx).1; omega, hm⟩

theorem get_pair {p bf bp j : Nat} {L : List Int} {x : Int × Int} {w : World} (h : PM w p bf bp L) (hx : (pairs L)[j]? = some x) :
    Calls Try.prog 13 #[.pointer (some ⟨p, 0, none⟩), .int .i64 x.1] w fun e w' => e = .returned (.tuple #[.int .i64 x.2, .int .i64 0]) ∧ w = w' := by
  have := get_f h x.1
  rw [(pair_get hx).1, (pair_get hx).2] at this
  exact this
theorem find_pair {p bf bp j : Nat} {L : List Int} {x : Int × Int} {w : World} (h : PM w p bf bp L) (hx : (pairs L)[j]? = some x) :
    Calls Try.prog 14 #[.pointer (some ⟨p, 0, none⟩), .int .i64 x.2] w fun e w' => e = .returned (.tuple #[.int .i64 x.1, .int .i64 0]) ∧ w = w' := by
  have := find_f h x.2
  rw [(pair_find h.good hx).1, (pair_find h.good hx).2] at this
  exact this

set_option maxRecDepth 100000 in
set_option maxHeartbeats 4000000 in
theorem back_walk (n : Int) (a : Option Addr) (len cap : Nat) (w : World) (hn : 0 ≤ n) (hn' : n ≤ 255) (ho : IsOps w a len) (hpos : 0 < len) :
    Calls Try.prog 4 #[.int .u8 n, .slice a len cap] w fun e w' => e = .returned (.bool true) ∧ Below w.heap.size w w' := by
  obtain ⟨m, hm⟩ : ∃ m : Nat, n % 49 = (m : Int) := ⟨(n % 49).toNat, by omega⟩
  have hm48 : m ≤ 48 := by omega
  have hlen := ho.1
  obtain ⟨b, off, rfl, hbB, X, Y, Z, hx⟩ := ho.2 hpos
  have HX := hid hx
  clear hx ho hpos
  go_enter Try.func4, Try.ntmps4
  go_wp2_with (first
      | (go_at_call 8; refine (new_ok m _ hm48).mono ?_; rintro e w1 ⟨rfl, hq, hm1⟩; have HQ := hid hq; have HM1 := hid hm1; have HN := hid hm; clear hq hm1 hm))
  go_loopw [8] (fun i wr => ∃ (k : Nat) (L : List Int), k ≤ len ∧ i = .int .i64 k ∧ Hid (PM wr (w.heap.size + 2) w.heap.size (w.heap.size + 1) L) ∧ Hid (L.length = m) ∧ Hid (Mod [] w wr)) (fun i _ => len - (intOf i).toNat)
  case atStart => exact ⟨0, _, Nat.zero_le _, rfl, HQ.out, by show List.length _ = m; simp, HM1.out⟩
  case round =>
    obtain ⟨k, L, hk, rfl, hp, hl, hmr⟩ := hrel
    by_cases hlt : k < len
    · obtain ⟨x0, x1, x2⟩ := HX.out k hlt
      have y0 : wr.cell? ⟨b, off + k * 3, none⟩ = some (.int .i64 (X k)) := (hmr.out.cell hbB (by simp)).trans x0
      have y1 : wr.cell? ⟨b, off + k * 3 + 1, none⟩ = some (.int .i64 (Y k)) := (hmr.out.cell hbB (by simp)).trans x1
      have y2 : wr.cell? ⟨b, off + k * 3 + 2, none⟩ = some (.int .i64 (Z k)) := (hmr.out.cell hbB (by simp)).trans x2
      clear x0 x1 x2
      have hX : (X k == 1) = true ∨ (X k == 1) = false := by cases (X k == 1) <;> simp
      rcases hX with hX | hX
      case' inl =>
        go_wp2_with (first
          | (go_at_call 12; refine (clear_st hp.out hl.out _).mono ?_; rintro e w2 ⟨v, c, L2, rfl, hp2, hl2, hm2⟩; have HP2 := hid hp2; have HM2 := hid (hmr.out.trans hm2 (by simp)); clear hp2 hm2))
      case' inr =>
        go_wp2_with fail
        go_still_tail 11, (by kernel_rfl)
        change wpList _ _ _ _ _ wr.drew
        go_wp2_with (first
          | (go_at_call 10; refine (set_st hp.out.drew hl.out _ _).mono ?_; rintro e w2 ⟨c, L2, rfl, hp2, hl2, hm2⟩; have HP2 := hid hp2; have HM2 := hid (hmr.out.drew.trans hm2 (by simp)); clear hp2 hm2))
      all_goals
        have hpl := pairs_len_le HP2.out.good
        refine (list_u HP2.out).mono ?_
        rintro e w3 ⟨A, cap3, rfl, hc3, hm3⟩
        have HC := hid hc3
        have HP3 := hid (HP2.out.mod hm3 (by simp) (by simp) (by simp))
        have HM3 := hid (HM2.out.trans hm3 (by simp))
        clear hc3 hm3 y0 y1 y2
        go_wp2_with fail
        go_loopw [10] (fun i wz => ∃ (j q : Nat), j ≤ (pairs L2).length ∧ i = .int .i64 j ∧ wz = w3.drewN q) (fun i _ => (pairs L2).length - (intOf i).toNat)
        case atStart => exact ⟨0, 0, Nat.zero_le _, rfl, rfl⟩
        case round =>
          obtain ⟨j, q, hj, rfl, rfl⟩ := hrel
          by_cases hjl : j < (pairs L2).length
          · obtain ⟨x, hx⟩ : ∃ x, (pairs L2)[j]? = some x := ⟨_, List.getElem?_eq_getElem hjl⟩
            obtain ⟨g, rfl, c1, c2⟩ := HC.out j x hx
            have HXJ := hid hx
            clear hx
            rcases j with _ | j
            · go_wp2_with (first
                | (go_at_call 13; refine (get_pair (HP3.out.drewN _) HXJ.out).mono ?_; rintro e w' ⟨rfl, rfl⟩)
                | (go_at_call 14; refine (find_pair (HP3.out.drewN _) HXJ.out).mono ?_; rintro e w' ⟨rfl, rfl⟩))
              go_quiet (fail)
              go_wp2
              go_roundw
              case rel => exact ⟨1, _, by omega, by go_num, rfl⟩
              case measure => simp [intOf]; omega
            · obtain ⟨y, hy⟩ : ∃ y, (pairs L2)[j]? = some y := ⟨_, List.getElem?_eq_getElem (by omega)⟩
              obtain ⟨g', hg', d1, _⟩ := HC.out j y hy
              have hgg : g' = g := by injection hg' with h; injection h with h; exact h.symm
              subst hgg
              have hr := pair_rise hy HXJ.out
              have hlt' : (y.1 < x.1) := hr
              clear hg' hr hy
              go_wp2_with (first
                | (go_at_call 13; refine (get_pair (HP3.out.drewN _) HXJ.out).mono ?_; rintro e w' ⟨rfl, rfl⟩)
                | (go_at_call 14; refine (find_pair (HP3.out.drewN _) HXJ.out).mono ?_; rintro e w' ⟨rfl, rfl⟩))
              go_quiet (fail)
              go_wp2
              go_roundw
              case rel => exact ⟨j + 1 + 1, _, by omega, by go_num, rfl⟩
              case measure => simp [intOf]; omega
          · have hje : j = (pairs L2).length := by omega
            have hN := HN.out
            have hL2 := hl2.out
            rcases hole_law L2 with ⟨h, hv, he, hlen2, hle, hgt⟩ | ⟨hv, he, hlen2⟩
            · have hHole := hole_f (HP3.out.drewN q)
              rw [hv, he] at hHole
              have HH := hid hHole
              have hlt2 : ((pairs L2).length : Int) < n % 49 := by omega
              clear hHole hv he hlen2 hN hL2 hje
              by_cases hhl : h < (pairs L2).length
              · obtain ⟨x, hx⟩ : ∃ x, (pairs L2)[h]? = some x := ⟨_, List.getElem?_eq_getElem hhl⟩
                obtain ⟨g, rfl, c1, c2⟩ := HC.out h x hx
                have hgx := hgt x hx
                clear hgt hx
                go_wp2_with (first
                  | (go_at_call 9; refine HH.out.mono ?_; rintro e w' ⟨rfl, rfl⟩))
                go_roundw
                case rel => exact ⟨k + 1, L2, by omega, by go_num, HP3.out.drewN _, hl2, HM3.out.drewN _⟩
                case measure => simp [intOf]; omega
              · have hhe : (pairs L2).length ≤ h := by omega
                clear hgt hhl
                go_wp2_with (first
                  | (go_at_call 9; refine HH.out.mono ?_; rintro e w' ⟨rfl, rfl⟩))
                go_roundw
                case rel => exact ⟨k + 1, L2, by omega, by go_num, HP3.out.drewN _, hl2, HM3.out.drewN _⟩
                case measure => simp [intOf]; omega
            · have hHole := hole_f (HP3.out.drewN q)
              rw [hv, he] at hHole
              have HH := hid hHole
              have hlt2 : n % 49 ≤ ((pairs L2).length : Int) := by omega
              clear hHole hv he hlen2 hN hL2 hje
              go_wp2_with (first
                | (go_at_call 9; refine HH.out.mono ?_; rintro e w' ⟨rfl, rfl⟩))
              go_roundw
              case rel => exact ⟨k + 1, L2, by omega, by go_num, HP3.out.drewN _, hl2, HM3.out.drewN _⟩
              case measure => simp [intOf]; omega
    · have hke : k = len := by omega
      have hsz := size_f hp.out
      have hN : (L.length : Int) = n % 49 := by have := hl.out; have := HN.out; omega
      rw [hN] at hsz
      have HS := hid hsz
      clear hsz hN hke
      go_wp2_with (first
        | (go_at_call 15; refine HS.out.mono ?_; rintro e w' ⟨rfl, rfl⟩))
      go_ret
      exact ⟨rfl, hmr.out.below (Nat.le_refl _) (by simp)⟩

end Go.Proofs.Ytgpmaljekfbchaa
