/-
  Layer 12: ImageTrims: the walk.
-/
import Derived.Test.YtpabfghpfigoaaaWc
import Derived.Test.YtpabfghpfigoaaaDi
import Derived.Test.YtpabfghpfigoaaaStr
import Derived.Test.YtpabfghpfigoaaaReg
import Derived.Deep.RegionHeld3
import Derived.Deep.RegionWith
import Derived.BigQuiet
import Derived.Deep.Cut
namespace Go.Proofs.Ytpabfghpfigoaaa
open Go.RowKit Go.Tn Go.Shelf
open Go.Proofs

theorem num_zero {f : Int → Option (Nat → Int)} (h : ∀ y, f y = none) (k : Nat) : num f k = 0 := by
  have : f = fun _ => none := funext h
  rw [this, num_none]

/-- The law's 'awake'. -/
theorem awake_f (w : World) : Calls Try.prog 19 #[] w fun e w' => e = .returned (.bool true) ∧ Tn.Mod [] w w' := by
  have hmk := make_bytes 128 128 rfl (by omega) w
  have e1 : (((1 : Nat) : Int) - ((num (fun _ => none) 2 : Nat) : Int)) = 1 := by rw [num_none]; rfl
  have HE := hid e1
  clear e1
  go_enter Try.func19, Try.ntmps19
  go_wp2_with (first
    | (go_at_call 8; refine (new_j w.heap.size 0 2 128 1 (fun _ => 0) _ (by omega) (by omega) (Nat.le_refl _) (by simp) (fun j hj => by rw [Nat.zero_add, (Blk.new w 5 (zeros 128)).cell]; exact zeros_get hj)).mono ?_
       rintro e w1 ⟨p, mb, B, rfl, hJ, _, _, hm1⟩
       have HJ := hid hJ
       have HM := hid (((Mod.refl [] w).alloc (.cells (zeros 128) 5)).andThen hm1)
       clear hJ hm1)
    | (go_at_call 16; refine (sectors_j HJ.out).mono ?_; rintro e w2 ⟨rfl, rfl⟩)
    | (go_at_call 13; refine (free_j HJ.out).mono ?_; rintro e w2 ⟨rfl, hm2⟩; rw [HE.out]; have HM2 := hid (HM.out.andThen hm2); clear hm2))
  go_ret
  exact ⟨rfl, HM2.out⟩
/-- What bytes gives for a fill. -/
theorem fill_note : True := trivial
/-- Nothing is written. -/
def f00 : Int → Option (Nat → Int) := fun _ => none
theorem f00_at (y : Int) : f00 y = none := rfl
theorem put_all {f : Int → Option (Nat → Int)} {x : Int} (h : ∀ y, y ≠ x → f y = none) : ∀ y, put f x none y = none := fun y => by
  unfold put
  split
  · rfl
  · rename_i hy; exact h y hy
theorem put_all2 {f : Int → Option (Nat → Int)} {x : Int} (h : ∀ y, y ≠ x → put f x none y = none) : ∀ y, put f x none y = none := fun y => by
  by_cases hy : y = x
  · unfold put; rw [if_pos hy]
  · exact h y hy
theorem num_put_none {f : Int → Option (Nat → Int)} {x : Int} (h : ∀ y, y ≠ x → f y = none) (n k : Nat) : (n : Int) - ((num (put f x none) k : Nat) : Int) = (n : Int) := by
  rw [num_zero (put_all h) k]; simp
theorem put_oth {f : Int → Option (Nat → Int)} {x : Int} {v : Option (Nat → Int)} (h : ∀ y, y ≠ x → f y = none) : ∀ y, y ≠ x → put f x v y = none := fun y hy => by
  unfold put
  rw [if_neg hy]
  exact h y hy

theorem bytes_fl (t0 t1 t2 fl : Int) (sa : Option Addr) (cp : Nat) (w : World) : Calls Try.prog 11 #[.agg #[.int .i64 t0, .int .i64 t1, .int .i64 t2, .int .u8 fl, .slice sa 0 cp]] w fun e w' => ∃ q, e = .returned (.slice (some ⟨q, 0, none⟩) 64 64) ∧ (∀ j, j < 64 → w'.cell? ⟨q, j, none⟩ = some (.int .u8 fl)) ∧ w.heap.size ≤ q ∧ q < w'.heap.size ∧ Tn.Mod [] w w' := by
  refine (bytes_fill t0 t1 t2 fl sa cp w).mono ?_
  rintro e w' ⟨q, rfl, hr, h1, h2, _, h4⟩
  refine ⟨q, rfl, fun j hj => ?_, h1, h2, h4⟩
  have := hr j (.int .u8 fl) (by rw [Array.getElem?_toList, sec_at _ _ _ hj])
  rwa [Nat.zero_add] at this

set_option maxRecDepth 100000 in
set_option maxHeartbeats 2000000 in
theorem trims_long (a : Option Addr) (len cap : Nat) (g : Nat → Int) (bl : Nat) (hbl : bl ≤ 255) (x : Int) (fl : Int) (w : World) (hb : Bys w a len g) (hl : len ≤ 140737488351232) (h : 16384 < len) :
    Calls Try.prog 6 #[.slice a len cap, .int .u8 (bl : Nat), .int .i64 x, .int .u8 fl] w fun e w' => e = .returned (.bool true) ∧ Below w.heap.size w w' := by
  have HB := hid hb
  have HL := hid hl
  have t1 : ((bl : Nat) : Int).tmod 9 = ((bl % 9 : Nat) : Int) := by rw [Int.tmod_eq_emod_of_nonneg (by omega)]; omega
  obtain ⟨n, hn⟩ : ∃ n, bl % 9 = n := ⟨_, rfl⟩
  have hnb : n ≤ 8 := by omega
  rw [hn] at t1
  have hnI : (n : Int) ≤ 8 := by omega
  have hlI : (len : Int) ≤ 140737488351232 := by omega
  have HQ := hid (Blk.new w 5 #[])
  have hm0 := hid ((Mod.refl [] w).alloc (.cells #[] 5))
  have HX := hid h
  clear hb hl hn h
  go_enter Try.func6, Try.ntmps6
  go_wp2_with (at_builtin; refine wpList_app5 rfl _ _ rfl w.heap.size rfl a len cap rfl g HQ.out (HB.out.mod hm0.out (by simp)) (by have := HL.out; omega) ?_)
  intro q' c' w1 h1 h2 h3 cs h4 h5 h6
  have HM1 := hid (hm0.out.trans h5 (by simp))
  have H2 := hid h2
  have H3 := hid h3
  have H6 := hid h6
  clear h1 h2 h3 h4 h5 h6
  go_wp2_with (first
    | (go_at_call 8; refine (new_long _ len c' (n : Int) w1 HX.out).mono ?_; rintro e w2 ⟨rfl, rfl⟩)
    | (go_at_call 19; refine (awake_f _).mono ?_; rintro e w9 ⟨rfl, hm9⟩; have HM9 := hid (HM1.out.andThen hm9); clear hm9))
  go_ret
  exact ⟨rfl, HM9.out.below (Nat.le_refl _) (by simp)⟩

set_option maxRecDepth 100000 in
set_option maxHeartbeats 2000000 in
theorem trims_arg (a : Option Addr) (len cap : Nat) (g : Nat → Int) (bl : Nat) (hbl : bl ≤ 255) (x : Int) (fl : Int) (w : World) (hb : Bys w a len g) (hl : len ≤ 140737488351232) (h : len ≤ 16384) (h64 : len % 64 ≠ 0) :
    Calls Try.prog 6 #[.slice a len cap, .int .u8 (bl : Nat), .int .i64 x, .int .u8 fl] w fun e w' => e = .returned (.bool true) ∧ Below w.heap.size w w' := by
  have HB := hid hb
  have HL := hid hl
  have t1 : ((bl : Nat) : Int).tmod 9 = ((bl % 9 : Nat) : Int) := by rw [Int.tmod_eq_emod_of_nonneg (by omega)]; omega
  obtain ⟨n, hn⟩ : ∃ n, bl % 9 = n := ⟨_, rfl⟩
  have hnb : n ≤ 8 := by omega
  rw [hn] at t1
  have hnI : (n : Int) ≤ 8 := by omega
  have hlI : (len : Int) ≤ 140737488351232 := by omega
  have HQ := hid (Blk.new w 5 #[])
  have hm0 := hid ((Mod.refl [] w).alloc (.cells #[] 5))
  have HX := hid h
  have H64 := hid h64
  clear hb hl hn h h64
  go_enter Try.func6, Try.ntmps6
  go_wp2_with (at_builtin; refine wpList_app5 rfl _ _ rfl w.heap.size rfl a len cap rfl g HQ.out (HB.out.mod hm0.out (by simp)) (by have := HL.out; omega) ?_)
  intro q' c' w1 h1 h2 h3 cs h4 h5 h6
  have HM1 := hid (hm0.out.trans h5 (by simp))
  have H2 := hid h2
  have H3 := hid h3
  have H6 := hid h6
  clear h1 h2 h3 h4 h5 h6
  go_wp2_with (first
    | (go_at_call 8; refine (new_arg _ len c' (n : Int) w1 HX.out (fun h => H64.out h.1)).mono ?_; rintro e w2 ⟨rfl, rfl⟩)
    | (go_at_call 19; refine (awake_f _).mono ?_; rintro e w9 ⟨rfl, hm9⟩; have HM9 := hid (HM1.out.andThen hm9); clear hm9))
  go_ret
  exact ⟨rfl, HM9.out.below (Nat.le_refl _) (by simp)⟩

set_option maxRecDepth 100000 in
set_option maxHeartbeats 2000000 in
/-- No such sector. -/
theorem trims_out (a : Option Addr) (len cap : Nat) (g : Nat → Int) (bl : Nat) (hbl : bl ≤ 255) (x : Int) (fl : Int) (w : World) (hb : Bys w a len g) (hl : len ≤ 140737488351232) (h : len ≤ 16384) (h64 : len % 64 = 0) (hx : ¬ (0 ≤ x ∧ x < ((len / 64 : Nat) : Int))) :
    Calls Try.prog 6 #[.slice a len cap, .int .u8 (bl : Nat), .int .i64 x, .int .u8 fl] w fun e w' => e = .returned (.bool true) ∧ Below w.heap.size w w' := by
  have HB := hid hb
  have HL := hid hl
  have t1 : ((bl : Nat) : Int).tmod 9 = ((bl % 9 : Nat) : Int) := by rw [Int.tmod_eq_emod_of_nonneg (by omega)]; omega
  obtain ⟨n, hn⟩ : ∃ n, bl % 9 = n := ⟨_, rfl⟩
  have hnb : n ≤ 8 := by omega
  rw [hn] at t1
  have hnI : (n : Int) ≤ 8 := by omega
  have hlI : (len : Int) ≤ 140737488351232 := by omega
  have HQ := hid (Blk.new w 5 #[])
  have hm0 := hid ((Mod.refl [] w).alloc (.cells #[] 5))
  obtain ⟨k, rfl⟩ : ∃ k, len = 64 * k := ⟨len / 64, by omega⟩
  have hk6 : k ≤ 256 := by omega
  have hkI : (k : Int) ≤ 256 := by omega
  have t2 : ((64 * k : Nat) : Int).tdiv 64 = (k : Int) := by rw [Int.tdiv_eq_ediv_of_nonneg (by omega)]; omega
  have hxk : ¬ (0 ≤ x ∧ x < (k : Int)) := by rw [show 64 * k / 64 = k by omega] at hx; exact hx
  have HE := hid (show wrE k n f00 x 64 = 1 by unfold wrE; rw [if_pos hxk])
  have HF := hid (show wrF k n f00 x 64 (fun _ => fl) = f00 by unfold wrF; rw [HE.out]; rfl)
  have HSE := hid (show secE k x = 1 by unfold secE; rw [if_neg hxk])
  have HT := hid (show ∀ y, y ≠ x → f00 y = none from fun _ _ => rfl)
  have HK := hid hk6
  clear hb hl hn h h64 hx
  by_cases h0 : 0 ≤ x
  · have hx2 : decide (x < (k : Int)) = false := decide_eq_false (by omega)
    clear hxk
    go_enter Try.func6, Try.ntmps6
    go_wp2_with (at_builtin; refine wpList_app5 rfl _ _ rfl w.heap.size rfl a (64 * k) cap rfl g HQ.out (HB.out.mod hm0.out (by simp)) (by have := HL.out; omega) ?_)
    intro q' c' w1 h1 h2 h3 cs h4 h5 h6
    have HM1 := hid (hm0.out.trans h5 (by simp))
    have H2 := hid h2
    have H3 := hid h3
    have H6 := hid h6
    clear h1 h2 h3 h4 h5 h6
    go_wp2_with (first
      | (go_at_call 8; refine (new_j q' 0 k c' n g w1 (by omega) (by omega) H6.out H2.out (fun j hj => by rw [Nat.zero_add]; exact H3.out j hj)).mono ?_
         rintro e w2 ⟨p, mb, B, rfl, hJ, hmb, _, hm2⟩
         have HJ := hid (show JM w2 p mb B g k n f00 from hJ)
         have HMB := hid (show w.heap.size ≤ mb from Nat.le_trans HM1.out.size hmb)
         have HMM := hid (HM1.out.andThen hm2)
         clear hJ hmb hm2)
      | (go_at_call 11; refine (bytes_fl 0 0 0 fl none 0 _).mono ?_
         rintro e w3 ⟨q, rfl, hc3, _, hq3, hm3⟩
         have HC := hid hc3
         have HQ3 := hid hq3
         have HJ := hid (HJ.out.mod0 hm3)
         have HMM := hid (HMM.out.andThen hm3)
         clear hc3 hq3 hm3)
      | (go_at_call 10; refine (write_j HJ.out _ q 0 64 64 (fun _ => fl) HQ3.out (fun j hj => by rw [Nat.zero_add]; exact HC.out j hj)).mono ?_
         rw [HE.out, HF.out]
         rintro e w4 ⟨rfl, hJ4, hm4⟩
         have HJ := hid hJ4
         have HMM := hid (HMM.out.trans hm4 (by intro s hs; simp at hs; subst hs; exact .inr HMB.out))
         clear hJ4 hm4)
      | (go_at_call 9; refine (trim_j HJ.out _).mono ?_
         rw [HSE.out]
         rintro e w5 ⟨rfl, hJ5, hm5⟩
         have HR := hid (num_put_none HT.out n k)
         have HT := hid (put_oth (v := none) HT.out)
         have HJ := hid hJ5
         have HMM := hid (HMM.out.trans hm5 (by intro s hs; simp at hs; subst hs; exact .inr HMB.out))
         clear hJ5 hm5)
      | (go_at_call 13; refine (free_j HJ.out).mono ?_
         rw [HR.out]
         rintro e w6 ⟨rfl, hm6⟩
         have HJ := hid (HJ.out.mod0 hm6)
         have HMM := hid (HMM.out.andThen hm6)
         clear hm6))
    go_ret
    exact ⟨rfl, HMM.out.below (Nat.le_refl _) (by simp)⟩
  · have hx2 : x < 0 := by omega
    clear hxk h0
    go_enter Try.func6, Try.ntmps6
    go_wp2_with (at_builtin; refine wpList_app5 rfl _ _ rfl w.heap.size rfl a (64 * k) cap rfl g HQ.out (HB.out.mod hm0.out (by simp)) (by have := HL.out; omega) ?_)
    intro q' c' w1 h1 h2 h3 cs h4 h5 h6
    have HM1 := hid (hm0.out.trans h5 (by simp))
    have H2 := hid h2
    have H3 := hid h3
    have H6 := hid h6
    clear h1 h2 h3 h4 h5 h6
    go_wp2_with (first
      | (go_at_call 8; refine (new_j q' 0 k c' n g w1 (by omega) (by omega) H6.out H2.out (fun j hj => by rw [Nat.zero_add]; exact H3.out j hj)).mono ?_
         rintro e w2 ⟨p, mb, B, rfl, hJ, hmb, _, hm2⟩
         have HJ := hid (show JM w2 p mb B g k n f00 from hJ)
         have HMB := hid (show w.heap.size ≤ mb from Nat.le_trans HM1.out.size hmb)
         have HMM := hid (HM1.out.andThen hm2)
         clear hJ hmb hm2)
      | (go_at_call 11; refine (bytes_fl 0 0 0 fl none 0 _).mono ?_
         rintro e w3 ⟨q, rfl, hc3, _, hq3, hm3⟩
         have HC := hid hc3
         have HQ3 := hid hq3
         have HJ := hid (HJ.out.mod0 hm3)
         have HMM := hid (HMM.out.andThen hm3)
         clear hc3 hq3 hm3)
      | (go_at_call 10; refine (write_j HJ.out _ q 0 64 64 (fun _ => fl) HQ3.out (fun j hj => by rw [Nat.zero_add]; exact HC.out j hj)).mono ?_
         rw [HE.out, HF.out]
         rintro e w4 ⟨rfl, hJ4, hm4⟩
         have HJ := hid hJ4
         have HMM := hid (HMM.out.trans hm4 (by intro s hs; simp at hs; subst hs; exact .inr HMB.out))
         clear hJ4 hm4)
      | (go_at_call 9; refine (trim_j HJ.out _).mono ?_
         rw [HSE.out]
         rintro e w5 ⟨rfl, hJ5, hm5⟩
         have HR := hid (num_put_none HT.out n k)
         have HT := hid (put_oth (v := none) HT.out)
         have HJ := hid hJ5
         have HMM := hid (HMM.out.trans hm5 (by intro s hs; simp at hs; subst hs; exact .inr HMB.out))
         clear hJ5 hm5)
      | (go_at_call 13; refine (free_j HJ.out).mono ?_
         rw [HR.out]
         rintro e w6 ⟨rfl, hm6⟩
         have HJ := hid (HJ.out.mod0 hm6)
         have HMM := hid (HMM.out.andThen hm6)
         clear hm6))
    go_ret
    exact ⟨rfl, HMM.out.below (Nat.le_refl _) (by simp)⟩

set_option maxRecDepth 100000 in
set_option maxHeartbeats 2000000 in
/-- No block at all. -/
theorem trims_full (a : Option Addr) (len cap : Nat) (g : Nat → Int) (bl : Nat) (hbl : bl ≤ 255) (x : Int) (fl : Int) (w : World) (hb : Bys w a len g) (hl : len ≤ 140737488351232) (h : len ≤ 16384) (h64 : len % 64 = 0) (hx : 0 ≤ x ∧ x < ((len / 64 : Nat) : Int)) (hn0 : bl % 9 = 0) :
    Calls Try.prog 6 #[.slice a len cap, .int .u8 (bl : Nat), .int .i64 x, .int .u8 fl] w fun e w' => e = .returned (.bool true) ∧ Below w.heap.size w w' := by
  have HB := hid hb
  have HL := hid hl
  have t1 : ((bl : Nat) : Int).tmod 9 = ((bl % 9 : Nat) : Int) := by rw [Int.tmod_eq_emod_of_nonneg (by omega)]; omega
  obtain ⟨n, hn⟩ : ∃ n, bl % 9 = n := ⟨_, rfl⟩
  have hnb : n ≤ 8 := by omega
  rw [hn] at t1
  have hnI : (n : Int) ≤ 8 := by omega
  have hlI : (len : Int) ≤ 140737488351232 := by omega
  have HQ := hid (Blk.new w 5 #[])
  have hm0 := hid ((Mod.refl [] w).alloc (.cells #[] 5))
  obtain ⟨k, rfl⟩ : ∃ k, len = 64 * k := ⟨len / 64, by omega⟩
  have hk6 : k ≤ 256 := by omega
  have hkI : (k : Int) ≤ 256 := by omega
  have t2 : ((64 * k : Nat) : Int).tdiv 64 = (k : Int) := by rw [Int.tdiv_eq_ediv_of_nonneg (by omega)]; omega
  have hxk : 0 ≤ x ∧ x < (k : Int) := by rw [show 64 * k / 64 = k by omega] at hx; exact hx
  obtain rfl : n = 0 := by omega
  have HE := hid (show wrE k 0 f00 x 64 = 71 by unfold wrE; rw [if_neg (by simpa using hxk), if_neg (by simp), if_pos ⟨rfl, num_none k⟩])
  have HF := hid (show wrF k 0 f00 x 64 (fun _ => fl) = f00 by unfold wrF; rw [HE.out]; rfl)
  have HSE := hid (show secE k x = 0 by unfold secE; rw [if_pos hxk])
  have HT := hid (show ∀ y, y ≠ x → f00 y = none from fun _ _ => rfl)
  have HK := hid hk6
  have hx0 := hxk.1
  have hx1 := hxk.2
  clear hb hl hn h h64 hx hxk hn0
  go_enter Try.func6, Try.ntmps6
  go_wp2_with (at_builtin; refine wpList_app5 rfl _ _ rfl w.heap.size rfl a (64 * k) cap rfl g HQ.out (HB.out.mod hm0.out (by simp)) (by have := HL.out; omega) ?_)
  intro q' c' w1 h1 h2 h3 cs h4 h5 h6
  have HM1 := hid (hm0.out.trans h5 (by simp))
  have H2 := hid h2
  have H3 := hid h3
  have H6 := hid h6
  clear h1 h2 h3 h4 h5 h6
  go_wp2_with (first
    | (go_at_call 8; refine (new_j q' 0 k c' 0 g w1 (by omega) (by omega) H6.out H2.out (fun j hj => by rw [Nat.zero_add]; exact H3.out j hj)).mono ?_
       rintro e w2 ⟨p, mb, B, rfl, hJ, hmb, _, hm2⟩
       have HJ := hid (show JM w2 p mb B g k 0 f00 from hJ)
       have HMB := hid (show w.heap.size ≤ mb from Nat.le_trans HM1.out.size hmb)
       have HMM := hid (HM1.out.andThen hm2)
       clear hJ hmb hm2)
    | (go_at_call 11; refine (bytes_fl 0 0 0 fl none 0 _).mono ?_
       rintro e w3 ⟨q, rfl, hc3, _, hq3, hm3⟩
       have HC := hid hc3
       have HQ3 := hid hq3
       have HJ := hid (HJ.out.mod0 hm3)
       have HMM := hid (HMM.out.andThen hm3)
       clear hc3 hq3 hm3)
    | (go_at_call 10; refine (write_j HJ.out _ q 0 64 64 (fun _ => fl) HQ3.out (fun j hj => by rw [Nat.zero_add]; exact HC.out j hj)).mono ?_
       rw [HE.out, HF.out]
       rintro e w4 ⟨rfl, hJ4, hm4⟩
       have HJ := hid hJ4
       have HMM := hid (HMM.out.trans hm4 (by intro s hs; simp at hs; subst hs; exact .inr HMB.out))
       clear hJ4 hm4)
    | (go_at_call 9; refine (trim_j HJ.out _).mono ?_
       rw [HSE.out]
       rintro e w5 ⟨rfl, hJ5, hm5⟩
       have HR := hid (num_put_none HT.out 0 k)
       have HT := hid (put_oth (v := none) HT.out)
       have HJ := hid hJ5
       have HMM := hid (HMM.out.trans hm5 (by intro s hs; simp at hs; subst hs; exact .inr HMB.out))
       clear hJ5 hm5)
    | (go_at_call 13; refine (free_j HJ.out).mono ?_
       rw [HR.out]
       rintro e w6 ⟨rfl, hm6⟩
       have HJ := hid (HJ.out.mod0 hm6)
       have HMM := hid (HMM.out.andThen hm6)
       clear hm6))
  go_ret
  exact ⟨rfl, HMM.out.below (Nat.le_refl _) (by simp)⟩

theorem cur_none {d : Nat → Int} {f : Int → Option (Nat → Int)} {X : Nat} (h : f (X : Int) = none) : cur d f X = fun j => d (64 * X + j) := by
  unfold cur; rw [h]
theorem cur_some {d g : Nat → Int} {f : Int → Option (Nat → Int)} {X : Nat} (h : f (X : Int) = some g) : cur d f X = g := by
  unfold cur; rw [h]
theorem put_at (f : Int → Option (Nat → Int)) (x : Int) (v : Option (Nat → Int)) : put f x v x = v := by unfold put; rw [if_pos rfl]
theorem Bys_win {w : World} {b off len l n : Nat} {g : Nat → Int} (h : Bys w (some ⟨b, off, none⟩) len g) (hl : l + n ≤ len) : Bys w (some ⟨b, off + l, none⟩) n (fun j => g (l + j)) := fun h0 => by
  obtain ⟨b', off', e, hb, hc⟩ := h (by omega)
  cases e
  exact ⟨b, off + l, rfl, hb, fun j hj => by rw [Nat.add_assoc]; exact hc _ (by omega)⟩
theorem slice_64 {b off len cap l h : Nat} (hlh : l + 64 = h) (hh : h ≤ cap) (W : World) :
    (Instr.slice 27 (.slice (some ⟨b, off, none⟩) len cap) (some (.int .i64 (l : Int))) (some (.int .i64 (h : Int))) none).run Try.prog W = .ok (.slice (some ⟨b, off + l, none⟩) 64 (cap - l)) W := by
  have := slice_win (b := b) (off := off) (len := len) (cap := cap) (l := l) (h := h) (by omega) hh W
  rwa [show h - l = 64 by omega] at this

set_option maxRecDepth 100000 in
set_option maxHeartbeats 20000000 in
/-- A block there is. -/
theorem trims_ok (b off len cap : Nat) (g : Nat → Int) (bl : Nat) (hbl : bl ≤ 255) (X : Nat) (fl : Int) (w : World) (hb : Bys w (some ⟨b, off, none⟩) len g) (hl : len ≤ 140737488351232) (hcap : len ≤ cap) (h : len ≤ 16384) (h64 : len % 64 = 0) (hx : X < len / 64) (hn0 : bl % 9 ≠ 0) :
    Calls Try.prog 6 #[.slice (some ⟨b, off, none⟩) len cap, .int .u8 (bl : Nat), .int .i64 (X : Nat), .int .u8 fl] w fun e w' => e = .returned (.bool true) ∧ Below w.heap.size w w' := by
  have HB := hid hb
  have HL := hid hl
  have t1 : ((bl : Nat) : Int).tmod 9 = ((bl % 9 : Nat) : Int) := by rw [Int.tmod_eq_emod_of_nonneg (by omega)]; omega
  obtain ⟨n, hn⟩ : ∃ n, bl % 9 = n := ⟨_, rfl⟩
  have hnb : n ≤ 8 := by omega
  rw [hn] at t1
  have hnI : (n : Int) ≤ 8 := by omega
  have hlI : (len : Int) ≤ 140737488351232 := by omega
  have HQ := hid (Blk.new w 5 #[])
  have hm0 := hid ((Mod.refl [] w).alloc (.cells #[] 5))
  obtain ⟨k, rfl⟩ : ∃ k, len = 64 * k := ⟨len / 64, by omega⟩
  have hk6 : k ≤ 256 := by omega
  have hkI : (k : Int) ≤ 256 := by omega
  have t2 : ((64 * k : Nat) : Int).tdiv 64 = (k : Int) := by rw [Int.tdiv_eq_ediv_of_nonneg (by omega)]; omega
  have hxk : X < k := by omega
  have hxI : (X : Int) < (k : Int) := by omega
  obtain ⟨N1, hN1⟩ : ∃ N1, n = N1 + 1 := ⟨n - 1, by omega⟩
  have t3 : (n : Int) - 1 = (N1 : Int) := by omega
  have hne : (n : Int) ≠ 0 := by omega
  have hN1b : (N1 : Int) ≤ 8 := by omega
  have hw1 : IntKind.i64.wrap (N1 : Int) = (N1 : Int) := by rw [IntKind.wrap_i64]; omega
  have hw2 : IntKind.i64.wrap ((n : Int) - 1) = (N1 : Int) := by rw [IntKind.wrap_i64]; omega
  have hne2 : n ≠ 0 := by omega
  have HE := hid (show wrE k n f00 (X : Int) 64 = 0 by unfold wrE; rw [if_neg (by simp; omega), if_neg (by simp), if_neg (by rw [show num f00 k = 0 from num_none k]; omega)])
  have HF := hid (show wrF k n f00 (X : Int) 64 (fun _ => fl) = put f00 (X : Int) (some (fun _ => fl)) by unfold wrF; rw [HE.out]; rfl)
  have HSE := hid (show secE k (X : Int) = 0 by unfold secE; rw [if_pos (by omega)])
  have HT := hid (put_oth (x := (X : Int)) (v := some (fun _ : Nat => fl)) (show ∀ y, y ≠ (X : Int) → f00 y = none from fun _ _ => rfl))
  have HR := hid (show (n : Int) - ((num (put f00 (X : Int) (some (fun _ => fl))) k : Nat) : Int) = (N1 : Int) by
    have h1 := num_put f00 (X : Int) (some (fun _ => fl)) k (by omega)
    rw [f00_at, show num f00 k = 0 from num_none k] at h1
    simp at h1
    rw [h1]; omega)
  have HK := hid hk6
  have HXK := hid hxk
  have HN0 := hid hnb
  obtain ⟨L, hL⟩ : ∃ L, X * 64 = L := ⟨_, rfl⟩
  obtain ⟨H, hH⟩ : ∃ H, (X + 1) * 64 = H := ⟨_, rfl⟩
  have t4 : (X : Int) * 64 = (L : Int) := by omega
  have t5 : ((X : Int) + 1) * 64 = (H : Int) := by omega
  have hLI : (L : Int) ≤ 16384 := by omega
  have hHI : (H : Int) ≤ 16384 := by omega
  have hXI : (X : Int) ≤ 256 := by omega
  have hw3 : IntKind.i64.wrap ((X : Int) * 64) = (L : Int) := by rw [IntKind.wrap_i64]; omega
  have hw4 : IntKind.i64.wrap ((X : Int) + 1) = (X : Int) + 1 := by rw [IntKind.wrap_i64]; omega
  have hw5 : IntKind.i64.wrap (((X : Int) + 1) * 64) = (H : Int) := by rw [IntKind.wrap_i64]; omega
  have hw6 : IntKind.i64.wrap (L : Int) = (L : Int) := by rw [IntKind.wrap_i64]; omega
  have hw7 : IntKind.i64.wrap (H : Int) = (H : Int) := by rw [IntKind.wrap_i64]; omega
  have hsl := slice_64 (b := b) (off := off) (len := 64 * k) (cap := cap) (l := L) (h := H) (by omega) (by omega)
  have HLX := hid (show L = 64 * X by omega)
  have HLK := hid (show L + 64 ≤ 64 * k by omega)
  clear hl hn h h64 hx hn0 hN1 hL hH hxk hb
  go_enter Try.func6, Try.ntmps6
  go_wp2_with (at_builtin; refine wpList_app5 rfl _ _ rfl w.heap.size rfl (some ⟨b, off, none⟩) (64 * k) cap rfl g HQ.out (HB.out.mod hm0.out (by simp)) (by have := HL.out; omega) ?_)
  intro q' c' w1 h1 h2 h3 cs h4 h5 h6
  have HM1 := hid (hm0.out.trans h5 (by simp))
  have H2 := hid h2
  have H3 := hid h3
  have H6 := hid h6
  clear h1 h2 h3 h4 h5 h6
  go_upto_region 14 with (first
    | (go_at_call 8; refine (new_j q' 0 k c' n g w1 HK.out (by have := HN0.out; omega) H6.out H2.out (fun j hj => by rw [Nat.zero_add]; exact H3.out j hj)).mono ?_
       rintro e w2 ⟨p, mb, B, rfl, hJ, hmb, _, hm2⟩
       have HJ := hid (show JM w2 p mb B g k n f00 from hJ)
       have HMB := hid (show w.heap.size ≤ mb from Nat.le_trans HM1.out.size hmb)
       have HMM := hid (HM1.out.andThen hm2)
       clear hJ hmb hm2)
    | (go_at_call 11; refine (bytes_fl 0 0 0 fl none 0 _).mono ?_
       rintro e w3 ⟨q, rfl, hc3, _, hq3, hm3⟩
       have HC := hid hc3
       have HQ3 := hid hq3
       have HJ := hid (HJ.out.mod0 hm3)
       have HMM := hid (HMM.out.andThen hm3)
       clear hc3 hq3 hm3)
    | (go_at_call 10; refine (write_j HJ.out _ q 0 64 64 (fun _ => fl) HQ3.out (fun j hj => by rw [Nat.zero_add]; exact HC.out j hj)).mono ?_
       rw [HE.out, HF.out]
       rintro e w4 ⟨rfl, hJ4, hm4⟩
       have HJ := hid hJ4
       have HMM := hid (HMM.out.trans hm4 (by intro s hs; simp at hs; subst hs; exact .inr HMB.out))
       clear hJ4 hm4)
    | (go_at_call 14; refine (read_j HJ.out X HXK.out).mono ?_
       rw [cur_some (put_at f00 (X : Int) (some (fun _ => fl)))]
       rintro e w5 ⟨q2, rfl, hb2, _, hm5⟩
       have HS := hid hb2
       have HJ := hid (HJ.out.mod0 (hm5.drew))
       have HMM := hid ((HMM.out.andThen hm5).drew)
       clear hb2 hm5))
  have hcv := fun (W : World) (hW : Blk W q2 62 (sec (fun _ => fl) 0)) => str_of (Bys_sec hW) 64
  refine wp_region_held_drew (S := fun w' => Blk w' q2 62 (sec (fun _ => fl) 0)) (by kernel_rfl) HS.out (fun hHeld => ?_)
  refine wpAnyH_take (i := 0) (v := ?_) (drop_get rfl) (by kernel_rfl) (by kernel_rfl) (by kernel_rfl) (fun _ _ _ h => h) (Or.inl ⟨by rfl, ?_⟩) HS.out ?_
  rotate_left
  · intro w9 hS9
    go_simp
    try with_reducible rfl
  simp only [Act.put, List.setIfInBounds_toArray, List.set_cons_zero, List.set_cons_succ]
  refine wpAnyH_take (i := 1) (v := ?_) (drop_get rfl) (by kernel_rfl) (by kernel_rfl) (by kernel_rfl) (fun _ _ _ h => h) (Or.inl ⟨by rfl, ?_⟩) HS.out ?_
  rotate_left
  · intro w9 hS9
    go_simp
    try with_reducible rfl
  simp only [Act.put, List.setIfInBounds_toArray, List.set_cons_zero, List.set_cons_succ]
  refine wpAnyH_take (i := 2) (v := ?_) (drop_get rfl) (by kernel_rfl) (by kernel_rfl) (by kernel_rfl) (fun _ _ _ h => h) (Or.inl ⟨by rfl, ?_⟩) HS.out ?_
  rotate_left
  · intro w9 hS9
    go_simp
    try with_reducible rfl
  simp only [Act.put, List.setIfInBounds_toArray, List.set_cons_zero, List.set_cons_succ]
  refine wpAnyH_take (i := 3) (v := ?_) (drop_get rfl) (by kernel_rfl) (by kernel_rfl) (by kernel_rfl) (fun _ _ _ h => h) (Or.inl ⟨by rfl, ?_⟩) HS.out ?_
  rotate_left
  · intro w9 hS9
    go_simp
    try with_reducible rfl
  simp only [Act.put, List.setIfInBounds_toArray, List.set_cons_zero, List.set_cons_succ]
  refine wpAnyH_take (i := 4) (v := ?_) (drop_get rfl) (by kernel_rfl) (by kernel_rfl) (by kernel_rfl) (fun _ _ _ h => h) (Or.inl ⟨by rfl, ?_⟩) HS.out ?_
  rotate_left
  · intro w9 hS9
    go_simp
    try with_reducible rfl
  simp only [Act.put, List.setIfInBounds_toArray, List.set_cons_zero, List.set_cons_succ]
  refine wpAnyH_take (i := 5) (v := ?_) (drop_get rfl) (by kernel_rfl) (by kernel_rfl) (by kernel_rfl) (fun _ _ _ h => h) (Or.inl ⟨by rfl, ?_⟩) HS.out ?_
  rotate_left
  · intro w9 hS9
    go_simp
    try with_reducible rfl
  simp only [Act.put, List.setIfInBounds_toArray, List.set_cons_zero, List.set_cons_succ]
  refine wpAnyH_take (i := 6) (v := ?_) (drop_get rfl) (by kernel_rfl) (by kernel_rfl) (by kernel_rfl) (fun _ _ _ h => h) (Or.inl ⟨by rfl, ?_⟩) HS.out ?_
  rotate_left
  · intro w9 hS9
    go_simp
    try with_reducible rfl
  simp only [Act.put, List.setIfInBounds_toArray, List.set_cons_zero, List.set_cons_succ]
  refine wpAnyH_ready (rs := [7]) (by kernel_rfl) (by simp) ?_
  refine AllReadyH.cons (drop_get rfl) (fun K hK => ?_) AllReadyH.nil
  go_simp
  go_at_call 11
  refine (bytes_fl 0 0 0 fl none 0 _).mono ?_
  rintro e w7 ⟨q3, rfl, hc3, _, hq3, hm3⟩
  have hcv2 := str_of (Bys_cells hq3 hc3) 64
  have HJ := hid (HJ.out.mod0 hm3)
  have HS := hid (Blk.mod HS.out ((Mod.refl [] w5).drew.andThen hm3) (by simp))
  have HMM := hid (HMM.out.andThen hm3)
  clear hc3 hq3 hm3
  refine hK _ _ HS.out ?_
  clear hK K
  intro _
  refine wpAnyH_ready (rs := [8]) (by kernel_rfl) (by simp) ?_
  refine AllReadyH.cons (drop_get rfl) (fun K hK => ?_) AllReadyH.nil
  go_simp
  refine hK _ _ HS.out ?_
  clear hK K
  intro _
  refine wpAnyH_take (i := 9) (v := ?_) (drop_get rfl) (by kernel_rfl) (by kernel_rfl) (by kernel_rfl) (fun _ _ _ h => h) (Or.inl ⟨by rfl, ?_⟩) HS.out ?_
  rotate_left
  · intro w9 hS9
    go_simp
    try with_reducible rfl
  simp only [Act.put, List.setIfInBounds_toArray, List.set_cons_zero, List.set_cons_succ]
  refine wpAnyH_take (i := 10) (v := ?_) (drop_get rfl) (by kernel_rfl) (by kernel_rfl) (by kernel_rfl) (fun _ _ _ h => h) (Or.inl ⟨by rfl, ?_⟩) HS.out ?_
  rotate_left
  · intro w9 hS9
    go_simp
    try with_reducible rfl
  simp only [Act.put, List.setIfInBounds_toArray, List.set_cons_zero, List.set_cons_succ]
  refine wpAnyH_take (i := 11) (v := ?_) (drop_get rfl) (by kernel_rfl) (by kernel_rfl) (by kernel_rfl) (fun _ _ _ h => h) (Or.inl ⟨by rfl, ?_⟩) HS.out ?_
  rotate_left
  · intro w9 hS9
    go_simp
    try with_reducible rfl
  simp only [Act.put, List.setIfInBounds_toArray, List.set_cons_zero, List.set_cons_succ]
  refine wpAnyH_take (i := 12) (v := ?_) (drop_get rfl) (by kernel_rfl) (by kernel_rfl) (by kernel_rfl) (fun _ _ _ h => h) (Or.inl ⟨by rfl, ?_⟩) HS.out ?_
  rotate_left
  · intro w9 hS9
    go_simp
    try with_reducible rfl
  simp only [Act.put, List.setIfInBounds_toArray, List.set_cons_zero, List.set_cons_succ]
  refine wpAnyH_take (i := 14) (v := ?_) (drop_get rfl) (by kernel_rfl) (by kernel_rfl) (by kernel_rfl) (fun _ _ _ h => h) (Or.inl ⟨by rfl, ?_⟩) HS.out ?_
  rotate_left
  · intro w9 hS9
    go_simp
    try with_reducible rfl
  simp only [Act.put, List.setIfInBounds_toArray, List.set_cons_zero, List.set_cons_succ]
  refine wpAnyH_take (i := 15) (v := ?_) (drop_get rfl) (by kernel_rfl) (by kernel_rfl) (by kernel_rfl) (fun _ _ _ h => h) (Or.inl ⟨by rfl, ?_⟩) HS.out ?_
  rotate_left
  · intro w9 hS9
    go_simp
    try with_reducible rfl
  simp only [Act.put, List.setIfInBounds_toArray, List.set_cons_zero, List.set_cons_succ]
  refine wpAnyH_ready (rs := [13]) (by kernel_rfl) (by simp) ?_
  refine AllReadyH.cons (drop_get rfl) (fun K hK => ?_) AllReadyH.nil
  go_simp
  go_at_call 13
  refine (free_j HJ.out).mono ?_
  rw [HR.out]
  rintro e w6 ⟨rfl, hm6⟩
  have HS := hid (Blk.mod HS.out hm6 (by simp))
  have HJ := hid (HJ.out.mod0 hm6)
  have HMM := hid (HMM.out.andThen hm6)
  clear hm6
  refine hK _ _ HS.out ?_
  clear hK K
  intro _
  refine wpAnyH_take (i := 16) (v := ?_) (drop_get rfl) (by kernel_rfl) (by kernel_rfl) (by kernel_rfl) (fun _ _ _ h => h) (Or.inl ⟨by rfl, ?_⟩) HS.out ?_
  rotate_left
  · intro w9 hS9
    go_simp
    try with_reducible rfl
  simp only [Act.put, List.setIfInBounds_toArray, List.set_cons_zero, List.set_cons_succ]
  refine wpAnyH_take (i := 17) (v := ?_) (drop_get rfl) (by kernel_rfl) (by kernel_rfl) (by kernel_rfl) (fun _ _ _ h => h) (Or.inl ⟨by rfl, ?_⟩) HS.out ?_
  rotate_left
  · intro w9 hS9
    go_simp
    try with_reducible rfl
  simp only [Act.put, List.setIfInBounds_toArray, List.set_cons_zero, List.set_cons_succ]
  refine wpAnyH_take (i := 18) (v := ?_) (drop_get rfl) (by kernel_rfl) (by kernel_rfl) (by kernel_rfl) (fun _ _ _ h => h) (Or.inl ⟨by rfl, ?_⟩) HS.out ?_
  rotate_left
  · intro w9 hS9
    go_simp
    try with_reducible rfl
  simp only [Act.put, List.setIfInBounds_toArray, List.set_cons_zero, List.set_cons_succ]
  refine wpAnyH_take (i := 19) (v := ?_) (drop_get rfl) (by kernel_rfl) (by kernel_rfl) (by kernel_rfl) (fun _ _ _ h => h) (Or.inl ⟨by rfl, ?_⟩) HS.out ?_
  rotate_left
  · intro w9 hS9
    go_simp
    try with_reducible rfl
  simp only [Act.put, List.setIfInBounds_toArray, List.set_cons_zero, List.set_cons_succ]
  refine wpAnyH_take (i := 20) (v := ?_) (drop_get rfl) (by kernel_rfl) (by kernel_rfl) (by kernel_rfl) (fun _ _ _ h => h) (Or.inl ⟨by rfl, ?_⟩) HS.out ?_
  rotate_left
  · intro w9 hS9
    go_simp
    try with_reducible rfl
  simp only [Act.put, List.setIfInBounds_toArray, List.set_cons_zero, List.set_cons_succ]
  refine wpAnyH_ready (rs := [21]) (by kernel_rfl) (by simp) ?_
  refine AllReadyH.cons (drop_get rfl) (fun K hK => ?_) AllReadyH.nil
  go_simp
  go_at_call 9
  refine (trim_j HJ.out _).mono ?_
  rw [HSE.out]
  rintro e w5 ⟨rfl, hJ5, hm5⟩
  have HR := hid (num_put_none HT.out n k)
  have HT := hid (put_oth (v := none) HT.out)
  have HS := hid (Blk.mod HS.out hm5 (by simp; exact HS.out.ne_map HJ.out.im.is.imap))
  have HJ := hid hJ5
  have HMM := hid (HMM.out.trans hm5 (by intro s hs; simp at hs; subst hs; exact .inr HMB.out))
  clear hJ5 hm5
  refine hK _ _ HS.out ?_
  clear hK K
  intro _
  refine wpAnyH_take (i := 22) (v := ?_) (drop_get rfl) (by kernel_rfl) (by kernel_rfl) (by kernel_rfl) (fun _ _ _ h => h) (Or.inl ⟨by rfl, ?_⟩) HS.out ?_
  rotate_left
  · intro w9 hS9
    go_simp
    try with_reducible rfl
  simp only [Act.put, List.setIfInBounds_toArray, List.set_cons_zero, List.set_cons_succ]
  refine wpAnyH_take (i := 23) (v := ?_) (drop_get rfl) (by kernel_rfl) (by kernel_rfl) (by kernel_rfl) (fun _ _ _ h => h) (Or.inl ⟨by rfl, ?_⟩) HS.out ?_
  rotate_left
  · intro w9 hS9
    go_simp
    try with_reducible rfl
  simp only [Act.put, List.setIfInBounds_toArray, List.set_cons_zero, List.set_cons_succ]
  refine wpAnyH_take (i := 24) (v := ?_) (drop_get rfl) (by kernel_rfl) (by kernel_rfl) (by kernel_rfl) (fun _ _ _ h => h) (Or.inl ⟨by rfl, ?_⟩) HS.out ?_
  rotate_left
  · intro w9 hS9
    go_simp
    try with_reducible rfl
  simp only [Act.put, List.setIfInBounds_toArray, List.set_cons_zero, List.set_cons_succ]
  refine wpAnyH_take (i := 25) (v := ?_) (drop_get rfl) (by kernel_rfl) (by kernel_rfl) (by kernel_rfl) (fun _ _ _ h => h) (Or.inl ⟨by rfl, ?_⟩) HS.out ?_
  rotate_left
  · intro w9 hS9
    go_simp
    try with_reducible rfl
  simp only [Act.put, List.setIfInBounds_toArray, List.set_cons_zero, List.set_cons_succ]
  refine wpAnyH_take (i := 27) (v := ?_) (drop_get rfl) (by kernel_rfl) (by kernel_rfl) (by kernel_rfl) (fun _ _ _ h => h) (Or.inl ⟨by rfl, ?_⟩) HS.out ?_
  rotate_left
  · intro w9 hS9
    go_simp
    try with_reducible rfl
  simp only [Act.put, List.setIfInBounds_toArray, List.set_cons_zero, List.set_cons_succ]
  refine wpAnyH_ready (rs := [26]) (by kernel_rfl) (by simp) ?_
  refine AllReadyH.cons (drop_get rfl) (fun K hK => ?_) AllReadyH.nil
  go_simp
  go_at_call 13
  refine (free_j HJ.out).mono ?_
  rw [HR.out]
  rintro e w6 ⟨rfl, hm6⟩
  have HS := hid (Blk.mod HS.out hm6 (by simp))
  have HJ := hid (HJ.out.mod0 hm6)
  have HMM := hid (HMM.out.andThen hm6)
  clear hm6
  refine hK _ _ HS.out ?_
  clear hK K
  intro _
  refine wpAnyH_take (i := 28) (v := ?_) (drop_get rfl) (by kernel_rfl) (by kernel_rfl) (by kernel_rfl) (fun _ _ _ h => h) (Or.inl ⟨by rfl, ?_⟩) HS.out ?_
  rotate_left
  · intro w9 hS9
    go_simp
    try with_reducible rfl
  simp only [Act.put, List.setIfInBounds_toArray, List.set_cons_zero, List.set_cons_succ]
  refine wpAnyH_take (i := 29) (v := ?_) (drop_get rfl) (by kernel_rfl) (by kernel_rfl) (by kernel_rfl) (fun _ _ _ h => h) (Or.inl ⟨by rfl, ?_⟩) HS.out ?_
  rotate_left
  · intro w9 hS9
    go_simp
    try with_reducible rfl
  simp only [Act.put, List.setIfInBounds_toArray, List.set_cons_zero, List.set_cons_succ]
  refine wpAnyH_take (i := 30) (v := ?_) (drop_get rfl) (by kernel_rfl) (by kernel_rfl) (by kernel_rfl) (fun _ _ _ h => h) (Or.inl ⟨by rfl, ?_⟩) HS.out ?_
  rotate_left
  · intro w9 hS9
    go_simp
    try with_reducible rfl
  simp only [Act.put, List.setIfInBounds_toArray, List.set_cons_zero, List.set_cons_succ]
  refine wpAnyH_take (i := 31) (v := ?_) (drop_get rfl) (by kernel_rfl) (by kernel_rfl) (by kernel_rfl) (fun _ _ _ h => h) (Or.inl ⟨by rfl, ?_⟩) HS.out ?_
  rotate_left
  · intro w9 hS9
    go_simp
    try with_reducible rfl
  simp only [Act.put, List.setIfInBounds_toArray, List.set_cons_zero, List.set_cons_succ]
  refine wpAnyH_take (i := 32) (v := ?_) (drop_get rfl) (by kernel_rfl) (by kernel_rfl) (by kernel_rfl) (fun _ _ _ h => h) (Or.inl ⟨by rfl, ?_⟩) HS.out ?_
  rotate_left
  · intro w9 hS9
    go_simp
    try with_reducible rfl
  simp only [Act.put, List.setIfInBounds_toArray, List.set_cons_zero, List.set_cons_succ]
  refine wpAnyH_ready (rs := [33]) (by kernel_rfl) (by simp) ?_
  refine AllReadyH.cons (drop_get rfl) (fun K hK => ?_) AllReadyH.nil
  go_simp
  go_at_call 9
  refine (trim_j HJ.out _).mono ?_
  rw [HSE.out]
  rintro e w5 ⟨rfl, hJ5, hm5⟩
  have HR := hid (num_put_none HT.out n k)
  have HT := hid (put_oth (v := none) HT.out)
  have HS := hid (Blk.mod HS.out hm5 (by simp; exact HS.out.ne_map HJ.out.im.is.imap))
  have HJ := hid hJ5
  have HMM := hid (HMM.out.trans hm5 (by intro s hs; simp at hs; subst hs; exact .inr HMB.out))
  clear hJ5 hm5
  refine hK _ _ HS.out ?_
  clear hK K
  intro _
  refine wpAnyH_take (i := 34) (v := ?_) (drop_get rfl) (by kernel_rfl) (by kernel_rfl) (by kernel_rfl) (fun _ _ _ h => h) (Or.inl ⟨by rfl, ?_⟩) HS.out ?_
  rotate_left
  · intro w9 hS9
    go_simp
    try with_reducible rfl
  simp only [Act.put, List.setIfInBounds_toArray, List.set_cons_zero, List.set_cons_succ]
  refine wpAnyH_take (i := 35) (v := ?_) (drop_get rfl) (by kernel_rfl) (by kernel_rfl) (by kernel_rfl) (fun _ _ _ h => h) (Or.inl ⟨by rfl, ?_⟩) HS.out ?_
  rotate_left
  · intro w9 hS9
    go_simp
    try with_reducible rfl
  simp only [Act.put, List.setIfInBounds_toArray, List.set_cons_zero, List.set_cons_succ]
  refine wpAnyH_take (i := 36) (v := ?_) (drop_get rfl) (by kernel_rfl) (by kernel_rfl) (by kernel_rfl) (fun _ _ _ h => h) (Or.inl ⟨by rfl, ?_⟩) HS.out ?_
  rotate_left
  · intro w9 hS9
    go_simp
    try with_reducible rfl
  simp only [Act.put, List.setIfInBounds_toArray, List.set_cons_zero, List.set_cons_succ]
  refine wpAnyH_take (i := 37) (v := ?_) (drop_get rfl) (by kernel_rfl) (by kernel_rfl) (by kernel_rfl) (fun _ _ _ h => h) (Or.inl ⟨by rfl, ?_⟩) HS.out ?_
  rotate_left
  · intro w9 hS9
    go_simp
    try with_reducible rfl
  simp only [Act.put, List.setIfInBounds_toArray, List.set_cons_zero, List.set_cons_succ]
  refine wpAnyH_take (i := 39) (v := ?_) (drop_get rfl) (by kernel_rfl) (by kernel_rfl) (by kernel_rfl) (fun _ _ _ h => h) (Or.inl ⟨by rfl, ?_⟩) HS.out ?_
  rotate_left
  · intro w9 hS9
    go_simp
    try with_reducible rfl
  simp only [Act.put, List.setIfInBounds_toArray, List.set_cons_zero, List.set_cons_succ]
  refine wpAnyH_ready (rs := [38]) (by kernel_rfl) (by simp) ?_
  refine AllReadyH.cons (drop_get rfl) (fun K hK => ?_) AllReadyH.nil
  go_simp
  go_at_call 13
  refine (free_j HJ.out).mono ?_
  rw [HR.out]
  rintro e w6 ⟨rfl, hm6⟩
  have HS := hid (Blk.mod HS.out hm6 (by simp))
  have HJ := hid (HJ.out.mod0 hm6)
  have HMM := hid (HMM.out.andThen hm6)
  clear hm6
  refine hK _ _ HS.out ?_
  clear hK K
  intro _
  refine wpAnyH_take (i := 40) (v := ?_) (drop_get rfl) (by kernel_rfl) (by kernel_rfl) (by kernel_rfl) (fun _ _ _ h => h) (Or.inl ⟨by rfl, ?_⟩) HS.out ?_
  rotate_left
  · intro w9 hS9
    go_simp
    try with_reducible rfl
  simp only [Act.put, List.setIfInBounds_toArray, List.set_cons_zero, List.set_cons_succ]
  refine wpAnyH_take (i := 41) (v := ?_) (drop_get rfl) (by kernel_rfl) (by kernel_rfl) (by kernel_rfl) (fun _ _ _ h => h) (Or.inl ⟨by rfl, ?_⟩) HS.out ?_
  rotate_left
  · intro w9 hS9
    go_simp
    try with_reducible rfl
  simp only [Act.put, List.setIfInBounds_toArray, List.set_cons_zero, List.set_cons_succ]
  refine wpAnyH_done (by kernel_rfl) ?_ _
  go_wp2_with (first
    | (go_at_call 14; refine (read_j HJ.out X HXK.out).mono ?_
       rw [cur_none (put_at _ (X : Int) none)]
       rintro e w8 ⟨q4, rfl, hb4, _, hm8⟩
       have hcv4 := str_of (w := w8.drew) (Bys_sec hb4) 64
       have HS4 := hid hb4
       have HJ := hid (HJ.out.mod0 (hm8.drew))
       have HMM := hid ((HMM.out.andThen hm8).drew)
       clear hb4 hm8))
  have HBW := hid (show Bys w8.drew (some ⟨b, off + L, none⟩) 64 (fun j => g (64 * X + j)) by
    have h1 := Bys_win (l := L) (n := 64) (HB.out.mod HMM.out (by simp)) HLK.out
    rw [HLX.out] at h1
    rw [HLX.out]
    exact h1)
  have HND := hid (num_zero (put_all2 HT.out) k)
  have HS5 := hid (show Blk w8.drew q4 62 (sec (fun j => g (64 * X + j)) 0) ∧ Bys w8.drew (some ⟨b, off + L, none⟩) 64 (fun j => g (64 * X + j)) from ⟨HS4.out, HBW.out⟩)
  clear hcv4 hcv hcv2
  refine wp_region_held_drew (S := fun w' => Blk w' q4 62 (sec (fun j => g (64 * X + j)) 0) ∧ Bys w' (some ⟨b, off + L, none⟩) 64 (fun j => g (64 * X + j))) (by kernel_rfl) HS5.out (fun hHeld => ?_)
  refine wpAnyH_take (i := 0) (v := ?_) (drop_get rfl) (by kernel_rfl) (by kernel_rfl) (by kernel_rfl) (fun _ _ _ h => h) (Or.inl ⟨by rfl, ?_⟩) HS5.out ?_
  rotate_left
  · intro w9 hS9
    have k9 := str_of (Bys_sec hS9.1) 64
    have k8 := str_of hS9.2 (cap - L)
    go_simp
    try with_reducible rfl
  simp only [Act.put, List.setIfInBounds_toArray, List.set_cons_zero, List.set_cons_succ]
  refine wpAnyH_take (i := 1) (v := ?_) (drop_get rfl) (by kernel_rfl) (by kernel_rfl) (by kernel_rfl) (fun _ _ _ h => h) (Or.inl ⟨by rfl, ?_⟩) HS5.out ?_
  rotate_left
  · intro w9 hS9
    have k9 := str_of (Bys_sec hS9.1) 64
    have k8 := str_of hS9.2 (cap - L)
    go_simp
    try with_reducible rfl
  simp only [Act.put, List.setIfInBounds_toArray, List.set_cons_zero, List.set_cons_succ]
  refine wpAnyH_take (i := 2) (v := ?_) (drop_get rfl) (by kernel_rfl) (by kernel_rfl) (by kernel_rfl) (fun _ _ _ h => h) (Or.inl ⟨by rfl, ?_⟩) HS5.out ?_
  rotate_left
  · intro w9 hS9
    have k9 := str_of (Bys_sec hS9.1) 64
    have k8 := str_of hS9.2 (cap - L)
    go_simp
    try with_reducible rfl
  simp only [Act.put, List.setIfInBounds_toArray, List.set_cons_zero, List.set_cons_succ]
  refine wpAnyH_take (i := 3) (v := ?_) (drop_get rfl) (by kernel_rfl) (by kernel_rfl) (by kernel_rfl) (fun _ _ _ h => h) (Or.inl ⟨by rfl, ?_⟩) HS5.out ?_
  rotate_left
  · intro w9 hS9
    have k9 := str_of (Bys_sec hS9.1) 64
    have k8 := str_of hS9.2 (cap - L)
    go_simp
    try with_reducible rfl
  simp only [Act.put, List.setIfInBounds_toArray, List.set_cons_zero, List.set_cons_succ]
  refine wpAnyH_take (i := 4) (v := ?_) (drop_get rfl) (by kernel_rfl) (by kernel_rfl) (by kernel_rfl) (fun _ _ _ h => h) (Or.inl ⟨by rfl, ?_⟩) HS5.out ?_
  rotate_left
  · intro w9 hS9
    have k9 := str_of (Bys_sec hS9.1) 64
    have k8 := str_of hS9.2 (cap - L)
    go_simp
    try with_reducible rfl
  simp only [Act.put, List.setIfInBounds_toArray, List.set_cons_zero, List.set_cons_succ]
  refine wpAnyH_take (i := 5) (v := ?_) (drop_get rfl) (by kernel_rfl) (by kernel_rfl) (by kernel_rfl) (fun _ _ _ h => h) (Or.inl ⟨by rfl, ?_⟩) HS5.out ?_
  rotate_left
  · intro w9 hS9
    have k9 := str_of (Bys_sec hS9.1) 64
    have k8 := str_of hS9.2 (cap - L)
    go_simp
    try with_reducible rfl
  simp only [Act.put, List.setIfInBounds_toArray, List.set_cons_zero, List.set_cons_succ]
  refine wpAnyH_take (i := 6) (v := ?_) (drop_get rfl) (by kernel_rfl) (by kernel_rfl) (by kernel_rfl) (fun _ _ _ h => h) (Or.inl ⟨by rfl, ?_⟩) HS5.out ?_
  rotate_left
  · intro w9 hS9
    have k9 := str_of (Bys_sec hS9.1) 64
    have k8 := str_of hS9.2 (cap - L)
    go_simp
    try with_reducible rfl
  simp only [Act.put, List.setIfInBounds_toArray, List.set_cons_zero, List.set_cons_succ]
  refine wpAnyH_take (i := 7) (v := ?_) (drop_get rfl) (by kernel_rfl) (by kernel_rfl) (by kernel_rfl) (fun _ _ _ h => h) (Or.inl ⟨by rfl, ?_⟩) HS5.out ?_
  rotate_left
  · intro w9 hS9
    have k9 := str_of (Bys_sec hS9.1) 64
    have k8 := str_of hS9.2 (cap - L)
    go_simp
    try with_reducible rfl
  simp only [Act.put, List.setIfInBounds_toArray, List.set_cons_zero, List.set_cons_succ]
  refine wpAnyH_take (i := 8) (v := ?_) (drop_get rfl) (by kernel_rfl) (by kernel_rfl) (by kernel_rfl) (fun _ _ _ h => h) (Or.inl ⟨by rfl, ?_⟩) HS5.out ?_
  rotate_left
  · intro w9 hS9
    have k9 := str_of (Bys_sec hS9.1) 64
    have k8 := str_of hS9.2 (cap - L)
    go_simp
    try with_reducible rfl
  simp only [Act.put, List.setIfInBounds_toArray, List.set_cons_zero, List.set_cons_succ]
  refine wpAnyH_take (i := 9) (v := ?_) (drop_get rfl) (by kernel_rfl) (by kernel_rfl) (by kernel_rfl) (fun _ _ _ h => h) (Or.inl ⟨by rfl, ?_⟩) HS5.out ?_
  rotate_left
  · intro w9 hS9
    have k9 := str_of (Bys_sec hS9.1) 64
    have k8 := str_of hS9.2 (cap - L)
    go_simp
    try with_reducible rfl
  simp only [Act.put, List.setIfInBounds_toArray, List.set_cons_zero, List.set_cons_succ]
  refine wpAnyH_take (i := 10) (v := ?_) (drop_get rfl) (by kernel_rfl) (by kernel_rfl) (by kernel_rfl) (fun _ _ _ h => h) (Or.inl ⟨by rfl, ?_⟩) HS5.out ?_
  rotate_left
  · intro w9 hS9
    have k9 := str_of (Bys_sec hS9.1) 64
    have k8 := str_of hS9.2 (cap - L)
    go_simp
    try with_reducible rfl
  simp only [Act.put, List.setIfInBounds_toArray, List.set_cons_zero, List.set_cons_succ]
  refine wpAnyH_take (i := 11) (v := ?_) (drop_get rfl) (by kernel_rfl) (by kernel_rfl) (by kernel_rfl) (fun _ _ _ h => h) (Or.inl ⟨by rfl, ?_⟩) HS5.out ?_
  rotate_left
  · intro w9 hS9
    have k9 := str_of (Bys_sec hS9.1) 64
    have k8 := str_of hS9.2 (cap - L)
    go_simp
    try with_reducible rfl
  simp only [Act.put, List.setIfInBounds_toArray, List.set_cons_zero, List.set_cons_succ]
  refine wpAnyH_take (i := 12) (v := ?_) (drop_get rfl) (by kernel_rfl) (by kernel_rfl) (by kernel_rfl) (fun _ _ _ h => h) (Or.inl ⟨by rfl, ?_⟩) HS5.out ?_
  rotate_left
  · intro w9 hS9
    have k9 := str_of (Bys_sec hS9.1) 64
    have k8 := str_of hS9.2 (cap - L)
    go_simp
    try with_reducible rfl
  simp only [Act.put, List.setIfInBounds_toArray, List.set_cons_zero, List.set_cons_succ]
  refine wpAnyH_ready (rs := [13]) (by kernel_rfl) (by simp) ?_
  refine AllReadyH.cons (drop_get rfl) (fun K hK => ?_) AllReadyH.nil
  go_simp
  go_at_call 17
  refine (dirty_j HJ.out).mono ?_
  rw [HND.out]
  rintro e w9 ⟨A9, c9, rfl, _, hm9⟩
  have HS5 := hid (show Blk w9 q4 62 (sec (fun j => g (64 * X + j)) 0) ∧ Bys w9 (some ⟨b, off + L, none⟩) 64 (fun j => g (64 * X + j)) from ⟨HS5.out.1.mod hm9 (by simp), HS5.out.2.mod hm9 (by simp)⟩)
  have HMM := hid (HMM.out.andThen hm9)
  clear hm9
  refine hK _ _ HS5.out ?_
  clear hK K
  intro _
  refine wpAnyH_take (i := 14) (v := ?_) (drop_get rfl) (by kernel_rfl) (by kernel_rfl) (by kernel_rfl) (fun _ _ _ h => h) (Or.inl ⟨by rfl, ?_⟩) HS5.out ?_
  rotate_left
  · intro w9 hS9
    have k9 := str_of (Bys_sec hS9.1) 64
    have k8 := str_of hS9.2 (cap - L)
    go_simp
    try with_reducible rfl
  simp only [Act.put, List.setIfInBounds_toArray, List.set_cons_zero, List.set_cons_succ]
  refine wpAnyH_take (i := 15) (v := ?_) (drop_get rfl) (by kernel_rfl) (by kernel_rfl) (by kernel_rfl) (fun _ _ _ h => h) (Or.inl ⟨by rfl, ?_⟩) HS5.out ?_
  rotate_left
  · intro w9 hS9
    have k9 := str_of (Bys_sec hS9.1) 64
    have k8 := str_of hS9.2 (cap - L)
    go_simp
    try with_reducible rfl
  simp only [Act.put, List.setIfInBounds_toArray, List.set_cons_zero, List.set_cons_succ]
  refine wpAnyH_take (i := 16) (v := ?_) (drop_get rfl) (by kernel_rfl) (by kernel_rfl) (by kernel_rfl) (fun _ _ _ h => h) (Or.inl ⟨by rfl, ?_⟩) HS5.out ?_
  rotate_left
  · intro w9 hS9
    have k9 := str_of (Bys_sec hS9.1) 64
    have k8 := str_of hS9.2 (cap - L)
    go_simp
    try with_reducible rfl
  simp only [Act.put, List.setIfInBounds_toArray, List.set_cons_zero, List.set_cons_succ]
  refine wpAnyH_take (i := 17) (v := ?_) (drop_get rfl) (by kernel_rfl) (by kernel_rfl) (by kernel_rfl) (fun _ _ _ h => h) (Or.inl ⟨by rfl, ?_⟩) HS5.out ?_
  rotate_left
  · intro w9 hS9
    have k9 := str_of (Bys_sec hS9.1) 64
    have k8 := str_of hS9.2 (cap - L)
    go_simp
    try with_reducible rfl
  simp only [Act.put, List.setIfInBounds_toArray, List.set_cons_zero, List.set_cons_succ]
  refine wpAnyH_done (by kernel_rfl) ?_ _
  go_wp2
  go_ret
  exact ⟨rfl, HMM.out.below (Nat.le_refl _) (by simp)⟩
end Go.Proofs.Ytpabfghpfigoaaa
