/-
  Frames: the bytes of a grant: Unpack, of a whole page.
-/
import Derived.Test.YtfolppcadckmaaaGreatVw
import Derived.IntWalk
namespace Go.Proofs.YtfolppcadckmaaaGreat
open Go.RowKit Go.Tn
open Go.Proofs

/-- A grant that can be packed. -/
structure GOk (K D P O L : Int) : Prop where
  k0 : 0 ≤ K
  k1 : K ≤ 2
  d0 : 0 ≤ D
  d1 : D < 65536
  p0 : 0 ≤ P
  p1 : P < 65536
  o0 : 0 ≤ O
  o1 : O ≤ 255
  l0 : 1 ≤ L
  l1 : O + L ≤ 256

def gB (K : Int) (ro sub : Bool) (D P O L : Int) (j : Nat) : Int :=
  match j with
  | 0 => K + (if ro then 4 else 0) + (if sub then 8 else 0)
  | 1 => 0
  | 2 => D % 256
  | 3 => D / 256
  | 4 => P % 256
  | 5 => P / 256
  | 6 => if sub then O else 0
  | _ => if sub then L - 1 else 255

def gV (K : Int) (ro sub : Bool) (D P O L : Int) : Value := .agg #[.int .i64 K, .bool ro, .bool sub, .int .i64 D, .int .i64 P, .int .i64 O, .int .i64 L]
def gOff (sub : Bool) (O : Int) : Int := if sub then O else 0
def gLen (sub : Bool) (L : Int) : Int := if sub then L else 256

theorem bits_i64 (a b : Nat) (ha : a < 4294967296) (hb : b < 4294967296) : bits .or .i64 (a : Int) (b : Int) = ((a ||| b : Nat) : Int) := by
  have hx : a ||| b < 2 ^ 32 := Nat.or_lt_two_pow (by omega) (by omega)
  have h1 : (BitVec.ofInt 64 (a : Int)).toNat = a := by
    rw [BitVec.ofInt_natCast, BitVec.toNat_ofNat]; exact Nat.mod_eq_of_lt (by omega)
  have h2 : (BitVec.ofInt 64 (b : Int)).toNat = b := by
    rw [BitVec.ofInt_natCast, BitVec.toNat_ofNat]; exact Nat.mod_eq_of_lt (by omega)
  show IntKind.i64.wrap ((BitVec.ofInt 64 (a : Int) ||| BitVec.ofInt 64 (b : Int)).toNat : Int) = _
  rw [BitVec.toNat_or, h1, h2, IntKind.wrap_i64]
  omega
theorem or_hi (x y : Nat) (hx : x < 256) (hy : y < 256) : bits .or .i64 (x : Int) ((y : Int) * 256) = ((x + 256 * y : Nat) : Int) := by
  have h := bits_i64 x (y * 256) (by omega) (by omega)
  have h3 := Nat.two_pow_add_eq_or_of_lt (i := 8) (b := x) hx y
  rw [show ((y : Int) * 256) = ((y * 256 : Nat) : Int) by omega, h, Nat.or_comm, Nat.mul_comm y 256]
  simp only [Nat.reducePow] at h3
  rw [← h3, Nat.add_comm]

set_option maxRecDepth 100000 in
set_option maxHeartbeats 4000000 in
theorem word_f (b q : Nat) (i : Nat) (cp : Nat) (x y : Nat) (w : World) (hi : i + 1 < 8) (cb : w.cell? ⟨b, 0, none⟩ = some (.slice (some ⟨q, 0, none⟩) 8 cp)) (c0 : w.cell? ⟨q, i, none⟩ = some (.int .u8 (x : Nat))) (c1 : w.cell? ⟨q, i + 1, none⟩ = some (.int .u8 (y : Nat)))
    (hx : x < 256) (hy : y < 256) : Calls Tryz.prog 120 #[.int .i64 (i : Nat), .pointer (some ⟨b, 0, none⟩)] w fun e w' => e = .returned (.int .i64 ((x + 256 * y : Nat))) ∧ ∃ n, w' = w.drewN n := by
  have hiI : (i : Int) + 1 < 8 := by omega
  have hiJ : (i : Int) < 8 := by omega
  go_enter Tryz.func120, Tryz.ntmps120
  go_wp2
  go_quiet (fail)
  go_wp2
  rw [or_hi x y hx hy]
  go_ret
  exact ⟨rfl, _, rfl⟩

/-- What the closure gives at 0, 2, 4. -/
def wd (K : Int) (ro sub : Bool) (D P : Int) (i : Int) : Int := if i = 0 then K + (if ro then 4 else 0) + (if sub then 8 else 0) else if i = 2 then D else P

theorem word_g (K : Int) (ro sub : Bool) (D P O L : Int) (b q cp : Nat) (w : World) (hv : GOk K D P O L) (cb : w.cell? ⟨b, 0, none⟩ = some (.slice (some ⟨q, 0, none⟩) 8 cp)) (hB : ∀ j, j < 8 → w.cell? ⟨q, j, none⟩ = some (.int .u8 (gB K ro sub D P O L j))) (i : Int) (hi : i = 0 ∨ i = 2 ∨ i = 4) :
    Calls Tryz.prog 120 #[.int .i64 i, .pointer (some ⟨b, 0, none⟩)] w fun e w' => e = .returned (.int .i64 (wd K ro sub D P i)) ∧ ∃ n, w' = w.drewN n := by
  obtain ⟨k0, k1, d0, d1, p0, p1, o0, o1, l0, l1⟩ := hv
  have hk : 0 ≤ gB K ro sub D P O L 0 ∧ gB K ro sub D P O L 0 < 256 ∧ gB K ro sub D P O L 0 = wd K ro sub D P 0 := by
    unfold gB wd
    cases ro <;> cases sub <;> simp <;> omega
  have key : ∀ (a : Nat) (x y : Int), a + 1 < 8 → 0 ≤ x → x < 256 → 0 ≤ y → y < 256 → gB K ro sub D P O L a = x → gB K ro sub D P O L (a + 1) = y → x + 256 * y = wd K ro sub D P a → Calls Tryz.prog 120 #[.int .i64 (a : Nat), .pointer (some ⟨b, 0, none⟩)] w fun e w' => e = .returned (.int .i64 (wd K ro sub D P a)) ∧ ∃ n, w' = w.drewN n := by
    intro a x y ha hx0 hx1 hy0 hy1 hx hy hxy
    have h0 := hB a (by omega)
    have h1 := hB (a + 1) ha
    rw [hx, show x = ((x.toNat : Nat) : Int) by omega] at h0
    rw [hy, show y = ((y.toNat : Nat) : Int) by omega] at h1
    refine (word_f b q a cp x.toNat y.toNat w ha cb h0 h1 (by omega) (by omega)).mono ?_
    rintro e w' ⟨rfl, hw⟩
    refine ⟨?_, hw⟩
    rw [← hxy]
    congr 3
    omega
  rcases hi with rfl | rfl | rfl
  · exact key 0 (gB K ro sub D P O L 0) 0 (by omega) hk.1 hk.2.1 (by omega) (by omega) rfl rfl (by rw [hk.2.2]; simp)
  · exact key 2 (D % 256) (D / 256) (by omega) (by omega) (by omega) (by omega) (by omega) rfl rfl (by show _ = D; omega)
  · exact key 4 (P % 256) (P / 256) (by omega) (by omega) (by omega) (by omega) (by omega) rfl rfl (by show _ = P; omega)

/-! UNPACK -/

/-- What the region of Unpack reads. -/
def US (b q cp : Nat) (O L : Int) (w' : World) : Prop := w'.cell? ⟨b, 0, none⟩ = some (.slice (some ⟨q, 0, none⟩) 8 cp) ∧ w'.cell? ⟨q, 6, none⟩ = some (.int .u8 O) ∧ w'.cell? ⟨q, 7, none⟩ = some (.int .u8 L)

set_option maxRecDepth 100000 in
set_option maxHeartbeats 4000000 in
theorem unpack_false (K : Int) (ro : Bool) (D P O L : Int) (q cp : Nat) (w : World) (hv : GOk K D P O L) (hB : Bys w (some ⟨q, 0, none⟩) 8 (gB K ro false D P O L)) :
    Calls Tryz.prog 119 #[.slice (some ⟨q, 0, none⟩) 8 cp] w fun e w' => e = .returned (.tuple #[gV K ro false D P 0 256, .int .i64 0]) ∧ Tn.Mod [] w w' := by
  obtain ⟨q', o', hqe, hql, hcell⟩ := hB (by omega)
  injection hqe with hqe
  injection hqe with hqe1 hqe2 hqe3
  subst hqe1 hqe2
  have hB' : ∀ j, j < 8 → w.cell? ⟨q, j, none⟩ = some (.int .u8 (gB K ro false D P O L j)) := fun j hj => by have := hcell j hj; rwa [Nat.zero_add] at this
  have hm0 : Tn.Mod [] w ((w.alloc (.cells #[.slice (some ⟨q, 0, none⟩) 8 cp] 22)).alloc (.cells #[.int .i64 0, .bool false, .bool false, .int .i64 0, .int .i64 0, .int .i64 0, .int .i64 0] 45)) := ((Mod.refl [] w).alloc _).alloc _
  obtain ⟨W0, hW0⟩ : ∃ W0, (w.alloc (.cells #[.slice (some ⟨q, 0, none⟩) 8 cp] 22)).alloc (.cells #[.int .i64 0, .bool false, .bool false, .int .i64 0, .int .i64 0, .int .i64 0, .int .i64 0] 45) = W0 := ⟨_, rfl⟩
  have hbx : Blk W0 w.heap.size 22 #[.slice (some ⟨q, 0, none⟩) 8 cp] := by
    rw [← hW0]
    exact (Blk.new w 22 _).mod ((Mod.refl [] _).alloc _) (by simp)
  rw [hW0] at hm0
  have hc := hbx.cell 0
  simp only [List.getElem?_toArray, List.getElem?_cons_zero] at hc
  have hB0 : ∀ j, j < 8 → W0.cell? ⟨q, j, none⟩ = some (.int .u8 (gB K ro false D P O L j)) := fun j hj => (hm0.cell (p := ⟨q, j, none⟩) hql (by simp)).trans (hB' j hj)
  have hW : ∀ (i : Int) W, (i = 0 ∨ i = 2 ∨ i = 4) → Tn.Mod [] W0 W → Calls Tryz.prog 120 #[.int .i64 i, .pointer (some ⟨w.heap.size, 0, none⟩)] W fun e w' => e = .returned (.int .i64 (wd K ro false D P i)) ∧ ∃ n, w' = W.drewN n := fun i W hi hm =>
    word_g K ro false D P O L w.heap.size q cp W hv ((hm.cell (p := ⟨_, 0, none⟩) hbx.lt (by simp)).trans hc) (fun j hj => (hm.cell (p := ⟨q, j, none⟩) (cell_lt (hB0 0 (by omega))) (by simp)).trans (hB0 j hj)) i hi
  obtain ⟨k0, k1, d0, d1, p0, p1, o0, o1, l0, l1⟩ := hv
  have HW := hid hW
  have e0 : wd K ro false D P 0 = K + (if ro then 4 else 0) + 0 := rfl
  have e2 : wd K ro false D P 2 = D := rfl
  have e4 : wd K ro false D P 4 = P := rfl
  have hK : K = 0 ∨ K = 1 ∨ K = 2 := by omega
  have b3 : bits .and .i64 (wd K ro false D P 0) 3 = K := by rw [e0]; rcases hK with rfl | rfl | rfl <;> cases ro <;> decide
  have b4 : (bits .and .i64 (wd K ro false D P 0) 4 == 0) = !ro := by rw [e0]; rcases hK with rfl | rfl | rfl <;> cases ro <;> decide
  have b8 : bits .and .i64 (wd K ro false D P 0) 8 = 0 := by rw [e0]; rcases hK with rfl | rfl | rfl <;> cases ro <;> decide
  have b16 : wd K ro false D P 0 < 16 := by rw [e0]; cases ro <;> simp <;> omega
  have b5 : (bits .and .i64 (wd K ro false D P 0) 4 != 0) = ro := by rw [bne, b4, Bool.not_not]
  clear hW hB hB' hB0 hcell hK e0
  subst hW0
  clear hm0 hbx hc
  generalize hfl : wd K ro false D P 0 = fl at *
  have k3 : (K == 3) = false := by simp; omega
  go_enter Tryz.func119, Tryz.ntmps119
  go_wp2_with (go_at_call 120; refine (HW.out _ _ (by decide) (by first | exact Mod.refl _ _ | exact (Mod.refl _ _).drewN _ | exact ((Mod.refl _ _).drewN _).drewN _)).mono ?_; rintro e w5 ⟨rfl, n5, rfl⟩)
  refine bodyPost_ret (v := .tuple #[gV K ro false D P 0 256, .int .i64 0]) (by simp [results, Tryz.results119, go_sem, gV]) rfl ⟨rfl, ?_⟩
  repeat' first | with_reducible refine Mod.alloc ?_ _ | with_reducible refine Mod.setCell ?_ (.inr (by simp)) _ | with_reducible refine Mod.drewN ?_ _ | with_reducible refine Mod.drew ?_ | with_reducible exact Mod.refl _ _

end Go.Proofs.YtfolppcadckmaaaGreat
