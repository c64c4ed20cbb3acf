/-
  Layer 3: PmapFills: the walk.
-/
import Derived.Test.YtgpmaljekfbchaaPd
import Derived.OpenShut
namespace Go.Proofs.Ytgpmaljekfbchaa
open Go.RowKit Go.Tn Go.Tn.P3

/-- What stands at the places in the end. -/
def fullL (n : Nat) (fr : Int) : List Int := (List.range n).map fun (j : Nat) => (fr + (j : Int)) % 256

theorem fullL_len (n : Nat) (fr : Int) : (fullL n fr).length = n := by simp [fullL]
theorem at_fullL {n j : Nat} (fr : Int) (h : j < n) : at_ (fullL n fr) j = (fr + (j : Int)) % 256 := by simp [at_, fullL, h]
theorem fullL_ok {n : Nat} (fr : Int) (h : n ≤ 48) : Ok3 (fullL n fr) := by
  refine ⟨by rw [fullL_len]; exact h, fun i hi => ?_, fun i j hij hj h0 => ?_⟩
  · rw [fullL_len] at hi
    rw [at_fullL fr hi]; omega
  · rw [fullL_len] at hj
    rw [at_fullL fr hj, at_fullL fr (by omega)]; omega
theorem fullL_nonneg {n j : Nat} (fr : Int) (h : j < n) : 0 ≤ at_ (fullL n fr) j := by rw [at_fullL fr h]; omega
theorem hole_low {n k : Nat} (fr : Int) (h : k < n) : holeV (lowTo (fullL n fr) k) = k ∧ holeE (lowTo (fullL n fr) k) = 0 := by
  refine hole_found (by rw [lowTo_len, fullL_len]; exact h) (fun j hj => ?_) ?_
  · rw [at_lowTo, if_pos ⟨hj, by rw [fullL_len]; omega⟩]
    exact fullL_nonneg fr (by omega)
  · rw [at_lowTo, if_neg (by omega)]; omega
theorem hole_full (n : Nat) (fr : Int) : holeV (fullL n fr) = 0 ∧ holeE (fullL n fr) = 6 :=
  hole_not fun j hj => fullL_nonneg fr (by rw [fullL_len] at hj; exact hj)
theorem pairsTo_full {n : Nat} (fr : Int) : ∀ k, k ≤ n → (pairsTo (fullL n fr) k).length = k
  | 0, _ => rfl
  | k + 1, h => by
    have h0 := fullL_nonneg (n := n) fr (show k < n by omega)
    have ih := pairsTo_full (n := n) fr k (by omega)
    simp [pairsTo, h0, ih]
theorem pairs_full (n : Nat) (fr : Int) : (pairs (fullL n fr)).length = n := by
  unfold pairs; rw [fullL_len]; exact pairsTo_full fr n (Nat.le_refl _)
theorem pairs_full_get {n j : Nat} (fr : Int) (h : j < n) : (pairs (fullL n fr))[j]? = some ((j : Int), (fr + (j : Int)) % 256) := by
  have hj : j < (pairsTo (fullL n fr) (fullL n fr).length).length := by rw [fullL_len, pairsTo_full fr n (Nat.le_refl _)]; exact h
  obtain ⟨k, h1, h2, h3, h4⟩ := pairs_get (L := fullL n fr) _ (Nat.le_refl _) j hj
  rw [fullL_len] at h1
  rw [pairsTo_full fr k (by omega)] at h4
  subst h4
  rw [at_fullL fr h1] at h3
  exact h3

theorem hole_low_f {p bf bp n k : Nat} {fr : Int} {w : World} (h : PM w p bf bp (lowTo (fullL n fr) k)) (hk : k < n) :
    Calls Try.prog 9 #[.pointer (some ⟨p, 0, none⟩)] w fun e w' => e = .returned (.tuple #[.int .i64 k, .int .i64 0]) ∧ w = w' := by
  have := hole_f h
  rw [(hole_low fr hk).1, (hole_low fr hk).2] at this
  exact this
theorem set_full_f {p bf bp n k : Nat} {fr : Int} {w : World} (h : PM w p bf bp (lowTo (fullL n fr) k)) (G : Ok3 (fullL n fr)) (hk : k < n) :
    Calls Try.prog 10 #[.pointer (some ⟨p, 0, none⟩), .int .i64 k, .int .i64 ((fr + (k : Int)) % 256)] w fun e w' => e = .returned (.int .i64 0) ∧ PM w' p bf bp (lowTo (fullL n fr) (k + 1)) ∧ Mod [bf, bp] w w' := by
  have h1 := set_f h (k : Int) (at_ (fullL n fr) k)
  rw [lowTo_setE G (by rw [fullL_len]; exact hk) (fullL_nonneg fr hk), lowTo_set G (by rw [fullL_len]; exact hk) (fullL_nonneg fr hk), at_fullL fr hk] at h1
  exact h1

theorem lowTo_full (n : Nat) (fr : Int) : lowTo (fullL n fr) n = fullL n fr := by
  have := lowTo_all (fullL n fr)
  rwa [fullL_len] at this
theorem hole_full_f {p bf bp n : Nat} {fr : Int} {w : World} (h : PM w p bf bp (fullL n fr)) :
    Calls Try.prog 9 #[.pointer (some ⟨p, 0, none⟩)] w fun e w' => e = .returned (.tuple #[.int .i64 0, .int .i64 6]) ∧ w = w' := by
  have := hole_f h
  rw [(hole_full n fr).1, (hole_full n fr).2] at this
  exact this
theorem list_full_pos {p bf bp n : Nat} {fr : Int} {w : World} (h : PM w p bf bp (fullL n fr)) (hn : 0 < n) :
    Calls Try.prog 11 #[.pointer (some ⟨p, 0, none⟩)] w fun e w' => ∃ g cap, e = .returned (.slice (some ⟨g, 0, none⟩) n cap) ∧
      (∀ k, k < n → w'.cell? ⟨g, k * 2, none⟩ = some (.int .i64 k) ∧ w'.cell? ⟨g, k * 2 + 1, none⟩ = some (.int .i64 ((fr + (k : Int)) % 256))) ∧ Mod [] w w' := by
  have h1 := list_pos h (by rw [pairs_full]; exact hn)
  rw [pairs_full] at h1
  refine h1.mono ?_
  rintro e w' ⟨g, cap, rfl, _, hc, _, hm⟩
  exact ⟨g, cap, rfl, fun k hk => hc k _ (pairs_full_get fr hk), hm⟩

set_option maxHeartbeats 1000000 in
theorem fills_walk (n fr : Int) (w : World) (hn : 0 ≤ n) (hn' : n ≤ 255) (hf : 0 ≤ fr) (hf' : fr ≤ 255) :
    Calls Try.prog 3 #[.int .u8 n, .int .u8 fr] w fun e w' => e = .returned (.bool true) ∧ Below w.heap.size w w' := by
  obtain ⟨m, hm⟩ : ∃ m : Nat, n % 49 = (m : Int) := ⟨(n % 49).toNat, by omega⟩
  have hm48 : m ≤ 48 := by omega
  have hG := hid (fullL_ok fr hm48)
  go_enter Try.func3, Try.ntmps3
  go_wp2_with (first
      | (go_at_call 8; refine (new_ok m _ hm48).mono ?_; rintro e w1 ⟨rfl, hq, hm1⟩; have HQ := hid hq; have HM1 := hid hm1; clear hq hm1))
  go_loopw [8] (fun i wr => ∃ k : Nat, k ≤ m ∧ i = .int .i64 k ∧ Hid (PM wr (w.heap.size + 2) w.heap.size (w.heap.size + 1) (lowTo (fullL m fr) k)) ∧ Hid (Mod [] w wr)) (fun i _ => m - (intOf i).toNat)
  case atStart =>
    refine ⟨0, Nat.zero_le _, rfl, ?_, HM1.out⟩
    show PM _ _ _ _ _
    rw [lowTo_zero, fullL_len]; exact HQ.out
  case round =>
    obtain ⟨k, hk, rfl, hp, hmr⟩ := hrel
    by_cases hlt : k < m
    · go_wp2_with (first
        | (go_at_call 9; refine (hole_low_f hp.out hlt).mono ?_; rintro e w' ⟨rfl, rfl⟩)
        | (go_at_call 10; refine (set_full_f hp.out hG.out hlt).mono ?_; rintro e w2 ⟨rfl, hp2, hm2⟩; have HP2 := hid hp2; have HM2 := hid hm2; clear hp2 hm2))
      go_roundw
      case rel => exact ⟨k + 1, by omega, by go_num, HP2.out, hmr.out.trans HM2.out (by simp)⟩
      case measure => simp [intOf]; omega
    · have hkm : k = m := by omega
      subst hkm
      have hp' : PM wr (w.heap.size + 2) w.heap.size (w.heap.size + 1) (fullL k fr) := by
        have := hp.out
        rwa [lowTo_full] at this
      have HP := hid hp'
      clear hp hp'
      by_cases h0 : 0 < k
      · go_wp2_with (first
          | (go_at_call 9; refine (hole_full_f HP.out).mono ?_; rintro e w' ⟨rfl, rfl⟩)
          | (go_at_call 11; refine (list_full_pos HP.out h0).mono ?_; rintro e w2 ⟨g, cap, rfl, hcell, hm2⟩; have HC := hid hcell; have HM2 := hid hm2; clear hcell hm2))
        go_loopw [14] (fun i wz => ∃ j : Nat, j ≤ k ∧ i = .int .i64 j ∧ wz = w2) (fun i _ => k - (intOf i).toNat)
        case atStart => exact ⟨0, Nat.zero_le _, rfl, rfl⟩
        case round =>
          obtain ⟨j, hj, rfl, rfl⟩ := hrel
          by_cases hjl : j < k
          · have hx1 := (HC.out j hjl).1
            have hx2 := (HC.out j hjl).2
            go_wp2
            go_roundw
            case rel => exact ⟨j + 1, by omega, by go_num, trivial⟩
            case measure => simp [intOf]; omega
          · have hjk : j = k := by omega
            subst hjk
            go_wp2
            go_ret
            exact ⟨rfl, (hmr.out.trans HM2.out (by simp)).below (Nat.le_refl _) (by simp)⟩
      · have hk0 : k = 0 := by omega
        subst hk0
        go_wp2_with (first
          | (go_at_call 9; refine (hole_full_f HP.out).mono ?_; rintro e w' ⟨rfl, rfl⟩)
          | (go_at_call 11; refine (list_zero HP.out (pairs_full 0 fr)).mono ?_; rintro e w2 ⟨A, cap, rfl, hm2⟩; have HM2 := hid hm2; clear hm2))
        refine wp_loop_rounds 1 ?_
        rw [rounds_succ]
        go_wp2
        go_ret
        exact ⟨rfl, (hmr.out.trans HM2.out (by simp)).below (Nat.le_refl _) (by simp)⟩

theorem fills_row (n : Int) (hn : (Lit.int .u8 n).wf = true) (fr : Int) (hf : (Lit.int .u8 fr).wf = true) (w : World) :
    Calls Try.prog 3 #[.int .u8 n, .int .u8 fr] w fun e w' => e = .returned (.bool true) ∧ Below w.heap.size w w' :=
  fills_walk n fr w (bounds_u8 hn).1 (bounds_u8 hn).2 (bounds_u8 hf).1 (bounds_u8 hf).2

end Go.Proofs.Ytgpmaljekfbchaa
