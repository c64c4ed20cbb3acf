/-
  Whole: the bytes of a grant: Pack of the reference, Unpack.
-/
import Derived.Test.YthakplgehanopaaVn
namespace Go.Proofs.Ythakplgehanopaa
open Go.RowKit Go.Tn
open Go.Proofs

/-- A grant that can be packed. -/
structure GOk (K D P O L : Int) : Prop where
  k0 : 0 ≤ K
  k1 : K ≤ 2
  d0 : 0 ≤ D
  d1 : D < 65536
  p0 : 0 ≤ P
  p1 : P < 65536
  o0 : 0 ≤ O
  o1 : O ≤ 255
  l0 : 1 ≤ L
  l1 : O + L ≤ 256

def gB (K : Int) (ro sub : Bool) (D P O L : Int) (j : Nat) : Int :=
  match j with
  | 0 => K + (if ro then 4 else 0) + (if sub then 8 else 0)
  | 1 => 0
  | 2 => D % 256
  | 3 => D / 256
  | 4 => P % 256
  | 5 => P / 256
  | 6 => if sub then O else 0
  | _ => if sub then L - 1 else 255

def gV (K : Int) (ro sub : Bool) (D P O L : Int) : Value := .agg #[.int .i64 K, .bool ro, .bool sub, .int .i64 D, .int .i64 P, .int .i64 O, .int .i64 L]
def gOff (sub : Bool) (O : Int) : Int := if sub then O else 0
def gLen (sub : Bool) (L : Int) : Int := if sub then L else 256

set_option maxRecDepth 100000 in
set_option maxHeartbeats 4000000 in
theorem pack_bad (K : Int) (ro sub : Bool) (D P O L : Int) (w : World) (hv : ¬ GOk K D P O L) (r1 : -9223372036854775808 ≤ O) (r2 : O ≤ 9223372036854775807) (r3 : -9223372036854775808 ≤ L) (r4 : L ≤ 9223372036854775807) : Calls Try.prog 10 #[.agg #[.int .i64 K, .bool ro, .bool sub, .int .i64 D, .int .i64 P, .int .i64 O, .int .i64 L]] w fun e w' =>
    e = .returned (.tuple #[.slice none 0 0, .int .i64 1]) ∧ Tn.Mod [] w w' := by
  by_cases h0 : K < 0
  · clear hv
    go_enter Try.func10, Try.ntmps10
    go_wp2
    go_ret2
    exact ⟨rfl, (Mod.refl [] w).alloc _⟩
  by_cases h1 : 2 < K
  · clear hv
    go_enter Try.func10, Try.ntmps10
    go_wp2
    go_ret2
    exact ⟨rfl, (Mod.refl [] w).alloc _⟩
  by_cases h2 : D < 0
  · clear hv
    go_enter Try.func10, Try.ntmps10
    go_wp2
    go_ret2
    exact ⟨rfl, (Mod.refl [] w).alloc _⟩
  by_cases h3 : 65536 ≤ D
  · clear hv
    go_enter Try.func10, Try.ntmps10
    go_wp2
    go_ret2
    exact ⟨rfl, (Mod.refl [] w).alloc _⟩
  by_cases h4 : P < 0
  · clear hv
    go_enter Try.func10, Try.ntmps10
    go_wp2
    go_ret2
    exact ⟨rfl, (Mod.refl [] w).alloc _⟩
  by_cases h5 : 65536 ≤ P
  · clear hv
    go_enter Try.func10, Try.ntmps10
    go_wp2
    go_ret2
    exact ⟨rfl, (Mod.refl [] w).alloc _⟩
  by_cases h6 : O < 0
  · clear hv
    go_enter Try.func10, Try.ntmps10
    go_wp2
    go_ret2
    exact ⟨rfl, (Mod.refl [] w).alloc _⟩
  by_cases h7 : 255 < O
  · clear hv
    go_enter Try.func10, Try.ntmps10
    go_wp2
    go_ret2
    exact ⟨rfl, (Mod.refl [] w).alloc _⟩
  by_cases h8 : L < 1
  · clear hv
    go_enter Try.func10, Try.ntmps10
    go_wp2
    go_ret2
    exact ⟨rfl, (Mod.refl [] w).alloc _⟩
  by_cases h9 : 256 < L
  · clear hv
    go_enter Try.func10, Try.ntmps10
    go_wp2
    go_ret2
    exact ⟨rfl, (Mod.refl [] w).alloc _⟩
  by_cases h10 : 256 < O + L
  · clear hv
    go_enter Try.func10, Try.ntmps10
    go_wp2
    go_ret2
    exact ⟨rfl, (Mod.refl [] w).alloc _⟩
  exact absurd ⟨by omega, by omega, by omega, by omega, by omega, by omega, by omega, by omega, by omega, by omega⟩ hv

set_option maxRecDepth 100000 in
set_option maxHeartbeats 4000000 in
theorem pack_ok (K : Int) (ro sub : Bool) (D P O L : Int) (w : World) (hv : GOk K D P O L) : Calls Try.prog 10 #[.agg #[.int .i64 K, .bool ro, .bool sub, .int .i64 D, .int .i64 P, .int .i64 O, .int .i64 L]] w fun e w' =>
    ∃ q, e = .returned (.tuple #[.slice (some ⟨q, 0, none⟩) 8 8, .int .i64 0]) ∧ Bys w' (some ⟨q, 0, none⟩) 8 (gB K ro sub D P O L) ∧ Tn.Mod [] w w' := by
  obtain ⟨k0, k1, d0, d1, p0, p1, o0, o1, l0, l1⟩ := hv
  cases ro <;> cases sub
  all_goals
    go_enter Try.func10, Try.ntmps10
    go_wp2
    go_ret2
    refine ⟨_, rfl, fun _ => ⟨_, 0, rfl, by simp, fun j hj => ?_⟩, ((Mod.refl [] w).alloc _).alloc _⟩
    have e : j = 0 ∨ j = 1 ∨ j = 2 ∨ j = 3 ∨ j = 4 ∨ j = 5 ∨ j = 6 ∨ j = 7 := by omega
    rcases e with rfl | rfl | rfl | rfl | rfl | rfl | rfl | rfl <;> simp [gB, go_sem]
  all_goals omega

theorem unpack_nil (w : World) : Calls Try.prog 11 #[.slice none 0 0] w fun e w' => e = .returned (.tuple #[.agg #[.int .i64 0, .bool false, .bool false, .int .i64 0, .int .i64 0, .int .i64 0, .int .i64 0], .int .i64 1]) ∧ Tn.Mod [] w w' := by
  go_enter Try.func11, Try.ntmps11
  go_wp2
  exact bodyPost_ret (v := .tuple #[.agg #[.int .i64 0, .bool false, .bool false, .int .i64 0, .int .i64 0, .int .i64 0, .int .i64 0], .int .i64 1]) (by simp [results, Try.results11, go_sem]) rfl ⟨rfl, ((Mod.refl [] w).alloc _).alloc _⟩

end Go.Proofs.Ythakplgehanopaa
