/-
  Layer 12: ImageZero: the walk.
-/
import Derived.Test.YtpabfghpfigoaaaRows
import Derived.Test.YtpabfghpfigoaaaArr
import Derived.Deep.RegionWith
namespace Go.Proofs.Ytpabfghpfigoaaa
open Go.RowKit Go.Tn

theorem none_nil (w : World) : Calls Try.prog 27 #[.pointer none] w fun e w' => e = .returned (.bool true) ∧ w = w' := by
  go_enter Try.func27, Try.ntmps27
  go_wp2
  go_ret
  exact ⟨rfl, rfl⟩
theorem none_zero (d : Nat) (w : World) (c0 : w.cell? ⟨d, 0, none⟩ = some (.bool false)) : Calls Try.prog 27 #[.pointer (some ⟨d, 0, none⟩)] w fun e w' => e = .returned (.bool true) ∧ w = w' := by
  go_enter Try.func27, Try.ntmps27
  go_wp2
  go_ret
  exact ⟨rfl, rfl⟩

set_option maxHeartbeats 1000000 in
theorem written_nil (x : Int) (w : World) : Calls Try.prog 26 #[.pointer none, .int .i64 x] w fun e w' => e = .returned (.tuple #[.agg z62, .bool false]) ∧ Mod [] w w' := by
  go_enter Try.func26, Try.ntmps26
  go_wp2_with (first
    | (refine wpList_alloc62 rfl rfl ?_)
    | (refine wpList_build62 rfl rfl ?_)
    | (refine wpList_store_row rfl 62 _ _ rfl w.heap.size z62 rfl rfl 62 z62 (heap_alloc_new w _) size62 rfl z62_one ?_)
    | (go_at_call 27; refine (none_nil _).mono ?_; rintro e w' ⟨rfl, rfl⟩))
  have hb : Blk ((w.alloc (.cells z62 62)).setRow w.heap.size z62) w.heap.size 62 z62 := (Blk.new w 62 z62).setRow
  refine bodyPost_ret (v := .tuple #[.agg z62, .bool false]) (by rw [results62 (p := 4) (u := 5) rfl rfl hb z62_size]; rfl) rfl ⟨rfl, ((Mod.refl [] w).alloc _).setRow (.inr (Nat.le_refl _)) _⟩

theorem sector_nil (x : Int) (w : World) : Calls Try.prog 25 #[.pointer none, .int .i64 x] w fun e w' => e = .returned (.int .i64 7) ∧ w = w' := by
  go_enter Try.func25, Try.ntmps25
  go_wp2_with (go_at_call 27; refine (none_nil _).mono ?_; rintro e w' ⟨rfl, rfl⟩)
  go_ret
  exact ⟨rfl, rfl⟩
theorem sector_zero (d : Nat) (x : Int) (w : World) (c0 : w.cell? ⟨d, 0, none⟩ = some (.bool false)) : Calls Try.prog 25 #[.pointer (some ⟨d, 0, none⟩), .int .i64 x] w fun e w' => e = .returned (.int .i64 7) ∧ w = w' := by
  have H := hid c0
  clear c0
  go_enter Try.func25, Try.ntmps25
  go_wp2_with (go_at_call 27; refine (none_zero _ _ H.out).mono ?_; rintro e w' ⟨rfl, rfl⟩)
  go_ret
  exact ⟨rfl, rfl⟩
theorem base_nil (x : Int) (w : World) : Calls Try.prog 15 #[.pointer none, .int .i64 x] w fun e w' => e = .returned (.tuple #[.slice none 0 0, .int .i64 7]) ∧ w = w' := by
  go_enter Try.func15, Try.ntmps15
  go_wp2_with (go_at_call 25; refine (sector_nil _ _).mono ?_; rintro e w' ⟨rfl, rfl⟩)
  go_ret2
  exact ⟨rfl, rfl⟩
theorem base_zero (d : Nat) (x : Int) (w : World) (c0 : w.cell? ⟨d, 0, none⟩ = some (.bool false)) : Calls Try.prog 15 #[.pointer (some ⟨d, 0, none⟩), .int .i64 x] w fun e w' => e = .returned (.tuple #[.slice none 0 0, .int .i64 7]) ∧ w = w' := by
  have H := hid c0
  clear c0
  go_enter Try.func15, Try.ntmps15
  go_wp2_with (go_at_call 25; refine (sector_zero _ _ _ H.out).mono ?_; rintro e w' ⟨rfl, rfl⟩)
  go_ret2
  exact ⟨rfl, rfl⟩
theorem read_nil (x : Int) (w : World) : Calls Try.prog 14 #[.pointer none, .int .i64 x] w fun e w' => e = .returned (.tuple #[.slice none 0 0, .int .i64 7]) ∧ Mod [] w w' := by
  go_enter Try.func14, Try.ntmps14
  go_wp2_with (first
    | (go_at_call 26; refine (written_nil _ _).mono ?_; rintro e w1 ⟨rfl, hm1⟩; have HM1 := hid hm1; clear hm1)
    | (refine wpList_alloc62 rfl rfl ?_)
    | (refine wpList_store_row rfl 62 _ _ rfl w1.heap.size z62 rfl rfl 62 z62 (heap_alloc_new w1 _) size62 rfl z62_one ?_)
    | (go_at_call 15; refine (base_nil _ _).mono ?_; rintro e w2 ⟨rfl, rfl⟩))
  go_ret2
  exact ⟨rfl, (HM1.out.alloc _).setRow (.inr HM1.out.size) _⟩
theorem sectors_nil (w : World) : Calls Try.prog 16 #[.pointer none] w fun e w' => e = .returned (.int .i64 0) ∧ w = w' := by
  go_enter Try.func16, Try.ntmps16
  go_wp2_with (go_at_call 27; refine (none_nil _).mono ?_; rintro e w' ⟨rfl, rfl⟩)
  go_ret
  exact ⟨rfl, rfl⟩
theorem each_none (v : Value) (w : World) : Calls Try.prog 28 #[.pointer none, .int .i64 0, .int .i64 0, v] w fun e w' => e = .returned (.tuple #[]) ∧ w = w' := by
  go_enter Try.func28, Try.ntmps28
  go_wp2
  refine wp_loop_rounds 1 ?_
  rw [rounds_succ]
  go_wp2
  go_end0
  exact ⟨rfl, rfl⟩
theorem dirty_nil (w : World) : Calls Try.prog 17 #[.pointer none] w fun e w' => e = .returned (.slice none 0 0) ∧ Mod [] w w' := by
  go_enter Try.func17, Try.ntmps17
  go_wp2_with (first
    | (go_at_call 16; refine (sectors_nil _).mono ?_; rintro e w' ⟨rfl, rfl⟩)
    | (go_at_call 28; refine (each_none _ _).mono ?_; rintro e w' ⟨rfl, rfl⟩))
  go_ret
  exact ⟨rfl, (Mod.refl [] w).alloc _⟩
theorem copy_nil (w : World) : Calls Try.prog 18 #[.pointer none] w fun e w' => e = .returned (.pointer none) ∧ w = w' := by
  go_enter Try.func18, Try.ntmps18
  go_wp2_with (go_at_call 27; refine (none_nil _).mono ?_; rintro e w' ⟨rfl, rfl⟩)
  go_ret
  exact ⟨rfl, rfl⟩
theorem copy_zero (d : Nat) (w : World) (c0 : w.cell? ⟨d, 0, none⟩ = some (.bool false)) : Calls Try.prog 18 #[.pointer (some ⟨d, 0, none⟩)] w fun e w' => e = .returned (.pointer none) ∧ w = w' := by
  have H := hid c0
  clear c0
  go_enter Try.func18, Try.ntmps18
  go_wp2_with (go_at_call 27; refine (none_zero _ _ H.out).mono ?_; rintro e w' ⟨rfl, rfl⟩)
  go_ret
  exact ⟨rfl, rfl⟩
theorem free_zero (d : Nat) (w : World) (c0 : w.cell? ⟨d, 0, none⟩ = some (.bool false)) : Calls Try.prog 13 #[.pointer (some ⟨d, 0, none⟩)] w fun e w' => e = .returned (.int .i64 0) ∧ w = w' := by
  have H := hid c0
  clear c0
  go_enter Try.func13, Try.ntmps13
  go_wp2_with (go_at_call 27; refine (none_zero _ _ H.out).mono ?_; rintro e w' ⟨rfl, rfl⟩)
  go_ret
  exact ⟨rfl, rfl⟩
theorem need_nil (x y : Int) (w : World) : Calls Try.prog 12 #[.pointer none, .int .i64 x, .int .i64 y] w fun e w' => e = .returned (.tuple #[.int .i64 0, .int .i64 7]) ∧ w = w' := by
  go_enter Try.func12, Try.ntmps12
  go_wp2_with (go_at_call 27; refine (none_nil _).mono ?_; rintro e w' ⟨rfl, rfl⟩)
  go_ret2
  exact ⟨rfl, rfl⟩
theorem write_zero (d : Nat) (x : Int) (v : Value) (w : World) (c0 : w.cell? ⟨d, 0, none⟩ = some (.bool false)) : Calls Try.prog 10 #[.pointer (some ⟨d, 0, none⟩), .int .i64 x, v] w fun e w' => e = .returned (.int .i64 7) ∧ w = w' := by
  have H := hid c0
  clear c0
  go_enter Try.func10, Try.ntmps10
  go_wp2_with (go_at_call 25; refine (sector_zero _ _ _ H.out).mono ?_; rintro e w' ⟨rfl, rfl⟩)
  go_ret
  exact ⟨rfl, rfl⟩
theorem trim_nil (x : Int) (w : World) : Calls Try.prog 9 #[.pointer none, .int .i64 x] w fun e w' => e = .returned (.int .i64 7) ∧ w = w' := by
  go_enter Try.func9, Try.ntmps9
  go_wp2_with (go_at_call 25; refine (sector_nil _ _).mono ?_; rintro e w' ⟨rfl, rfl⟩)
  go_ret
  exact ⟨rfl, rfl⟩

set_option maxRecDepth 100000 in
set_option maxHeartbeats 800000 in
theorem zero_walk (x : Int) (_ : (Lit.int .i64 x).wf = true) (y : Int) (_ : (Lit.int .i64 y).wf = true) (w : World) :
    Calls Try.prog 4 #[.int .i64 x, .int .i64 y] w fun e w' => e = .returned (.bool true) ∧ Below w.heap.size w w' := by
  have hb : Blk (w.alloc (.cells #[.bool false, .slice none 0 0, .map none, .int .i64 0] 40)) w.heap.size 40 #[.bool false, .slice none 0 0, .map none, .int .i64 0] := Blk.new w 40 _
  have hm : Mod [] w (w.alloc (.cells #[.bool false, .slice none 0 0, .map none, .int .i64 0] 40)) := (Mod.refl [] w).alloc _
  have HB := hid hb
  have HM := hid hm
  clear hb hm
  go_enter Try.func4, Try.ntmps4
  go_wp2_with (first
    | (go_at_call 14; refine (read_nil _ _).mono ?_; rintro e w1 ⟨rfl, hm1⟩; have HM1 := hid hm1; have K1 := hid (show w1.cell? ⟨w.heap.size, 0, none⟩ = some (.bool false) from (HB.out.mod hm1 (by simp)).cell 0); clear hm1)
    | (go_at_call 15; refine (base_zero _ _ _ K1.out).mono ?_; rintro e w' ⟨rfl, rfl⟩)
    | (go_at_call 12; refine (need_nil _ _ _).mono ?_; rintro e w' ⟨rfl, rfl⟩)
    | (go_at_call 10; refine (write_zero _ _ _ _ K1.out).mono ?_; rintro e w' ⟨rfl, rfl⟩)
    | (go_at_call 9; refine (trim_nil _ _).mono ?_; rintro e w' ⟨rfl, rfl⟩)
    | (go_at_call 16; refine (sectors_nil _).mono ?_; rintro e w' ⟨rfl, rfl⟩)
    | (go_at_call 13; refine (free_zero _ _ K1.out).mono ?_; rintro e w' ⟨rfl, rfl⟩)
    | (go_at_call 17; refine (dirty_nil _).mono ?_; rintro e w2 ⟨rfl, hm2⟩; have HM2 := hid hm2; have K2 := hid (show w2.cell? ⟨w.heap.size, 0, none⟩ = some (.bool false) from (hm2.cell (World.block_lt_of_cell? _ _ K1.out) (by simp)).trans K1.out); clear hm2)
    | (go_at_call_of 18 (Value.pointer none); refine (copy_nil _).mono ?_; rintro e w' ⟨rfl, rfl⟩)
    | (go_at_call 18; refine (copy_zero _ _ K2.out).mono ?_; rintro e w' ⟨rfl, rfl⟩))
  go_ret
  exact ⟨rfl, ((HM.out.andThen HM1.out).andThen HM2.out).below (Nat.le_refl _) (by simp)⟩

end Go.Proofs.Ytpabfghpfigoaaa
