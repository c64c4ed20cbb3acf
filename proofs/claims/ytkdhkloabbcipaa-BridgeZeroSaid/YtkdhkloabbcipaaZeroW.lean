/-
  Layer 14: BridgeZero: the walk.
-/
import Derived.Test.YtkdhkloabbcipaaB
import Derived.WalkMore
import Derived.Laws.ResultCell
namespace Go.Proofs.Ytkdhkloabbcipaa
open Go.RowKit Go.Tn Go.Tn.P14
attribute [local go_sem] look57 nilM

theorem none_zero (d : Nat) (w : World) (c1 : w.cell? ⟨d, 1, none⟩ = some (.map none)) :
    Calls Try.prog 30 #[.pointer (some ⟨d, 0, none⟩)] w fun e w' => e = .returned (.bool true) ∧ w = w' := by
  go_enter Try.func30, Try.ntmps30
  go_wp2
  go_ret
  exact ⟨rfl, rfl⟩
theorem none_nil (w : World) : Calls Try.prog 30 #[.pointer none] w fun e w' => e = .returned (.bool true) ∧ w = w' := by
  go_enter Try.func30, Try.ntmps30
  go_wp2
  go_ret
  exact ⟨rfl, rfl⟩
theorem at_zero (d : Nat) (x : Int) (w : World) (c1 : w.cell? ⟨d, 1, none⟩ = some (.map none)) :
    Calls Try.prog 27 #[.pointer (some ⟨d, 0, none⟩), .int .i64 x] w fun e w' => e = .returned (.tuple #[.pointer none, .int .i64 7]) ∧ w = w' := by
  have H := hid c1
  clear c1
  go_enter Try.func27, Try.ntmps27
  go_wp2_with (go_at_call 30; refine (none_zero _ _ H.out).mono ?_; rintro e w' ⟨rfl, rfl⟩)
  go_ret2
  exact ⟨rfl, rfl⟩
theorem at_nil (x : Int) (w : World) : Calls Try.prog 27 #[.pointer none, .int .i64 x] w fun e w' => e = .returned (.tuple #[.pointer none, .int .i64 7]) ∧ w = w' := by
  go_enter Try.func27, Try.ntmps27
  go_wp2_with (go_at_call 30; refine (none_nil _).mono ?_; rintro e w' ⟨rfl, rfl⟩)
  go_ret2
  exact ⟨rfl, rfl⟩

set_option maxRecDepth 100000 in
set_option maxHeartbeats 1000000 in
theorem send_zero (d : Nat) (x : Int) (w : World) (c1 : w.cell? ⟨d, 1, none⟩ = some (.map none)) :
    Calls Try.prog 11 #[.pointer (some ⟨d, 0, none⟩), .int .i64 x, .slice none 0 0] w fun e w' => e = .returned (.int .i64 7) ∧ w = w' := by
  have H := hid c1
  clear c1
  go_enter Try.func11, Try.ntmps11
  go_wp2
  go_step3
  go_wp2_with (go_at_call 27; refine (at_zero _ _ _ H.out).mono ?_; rintro e w' ⟨rfl, rfl⟩)
  try rw [Exit.noGoto_ret]
  go_ret
  exact ⟨rfl, rfl⟩

theorem counts_nil (x : Int) (w : World) : Calls Try.prog 14 #[.pointer none, .int .i64 x] w fun e w' => e = .returned (.tuple #[.agg #[.int .i64 0, .int .i64 0, .int .i64 0, .int .i64 0, .int .i64 0, .int .i64 0, .int .i64 0, .int .i64 0, .int .i64 0], .int .i64 7]) ∧
    w' = w.alloc (.cells #[.int .i64 0, .int .i64 0, .int .i64 0, .int .i64 0, .int .i64 0, .int .i64 0, .int .i64 0, .int .i64 0, .int .i64 0] 36) := by
  go_enter Try.func14, Try.ntmps14
  go_wp2_with (go_at_call 27; refine (at_nil _ _).mono ?_; rintro e w' ⟨rfl, rfl⟩)
  refine bodyPost_ret (by rw [results_cell_tmp rfl]; go_simp; rfl) rfl ?_
  exact ⟨rfl, rfl⟩

set_option maxRecDepth 100000 in
set_option maxHeartbeats 4000000 in
theorem zero_walk (x : Int) (_ : (Lit.int .i64 x).wf = true) (y : Int) (_ : (Lit.int .i64 y).wf = true) (w : World) :
    Calls Try.prog 6 #[.int .i64 x, .int .i64 y] w fun e w' => e = .returned (.bool true) ∧ Below w.heap.size w w' := by
  go_enter Try.func6, Try.ntmps6
  go_wp2_with (first | (go_at_call 11; refine (send_zero _ _ _ (by go_simp)).mono ?_; rintro e w' ⟨rfl, rfl⟩) | (go_at_call 14; refine (counts_nil _ _).mono ?_; rintro e w' ⟨rfl, rfl⟩) | go_in)
  go_ret
  exact ⟨rfl, ((((Mod.refl [] w).alloc _).alloc _).alloc _).below (Nat.le_refl _) (by simp)⟩

end Go.Proofs.Ytkdhkloabbcipaa
