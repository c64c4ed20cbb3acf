/-
  Whole: Read, Frame, kinds, Get, Put of a machine of four frames.
-/
import Derived.Test.YtfolppcadckmaaaGreatRd
namespace Go.Proofs.YtfolppcadckmaaaGreat
open Go.RowKit Go.Tn
open Go.Proofs

def zeros (n : Nat) : Array Value := madeCells #[.int .u8 0] n
theorem zeros_size (n : Nat) : (zeros n).size = n := by simp [zeros, madeCells]
theorem info5 : (Tryz.prog.info? 5).map (fun i => (i.zero, i.size, i.bytes)) = some (some (.int .u8 0), 1, 1) := by kernel_rfl
theorem make_bytes (n : Nat) (x : Int) (hx : x = n) (hn : n ≤ 100000) (w : World) : (Instr.makeSlice 22 (.int .i64 x) (.int .i64 x)).run Tryz.prog w = .ok (.slice (some ⟨w.heap.size, 0, none⟩) n n) (w.alloc (.cells (zeros n) 5)) := by
  obtain ⟨i5, hi5, hz0, hz1, hz2⟩ := info_parts info5
  subst hx
  have hr := run_make (P := Tryz.prog) w 22 5 i5 _ Tryz.underlying22 hi5 hz0 .i64 .i64 n n (by omega) (Int.le_refl _) (by rw [hz2]; omega) (by omega)
  rw [hz1] at hr
  simp only [Int.toNat_natCast, Nat.mul_one] at hr
  exact hr

section
variable {w w' : World} {m fb : Nat} {F : Nat → Nat → Int}

theorem PH.bys (h : PH w m fb F) (i off n : Nat) (hi : i < 14) (hn : off + n ≤ 256) : Bys w (some ⟨fb, i * 260 + 4 + off, none⟩) n (fun j => F i (4 + off + j)) := fun _ =>
  ⟨fb, _, rfl, h.fr.lt, fun j hj => by
    have := h.cell i (4 + off + j) hi (by omega)
    rw [show i * 260 + 4 + off + j = i * 260 + (4 + off + j) by omega, this]
    unfold cellG
    rw [if_neg (by omega)]⟩

set_option maxRecDepth 100000 in
set_option maxHeartbeats 1000000 in
theorem read_f (h : PH w m fb F) (i off n : Nat) (hi : i < 14) (hn : off + n ≤ 256) :
    Calls Tryz.prog 52 #[.pointer (some ⟨m, 0, none⟩), .int .i64 (i : Nat), .int .i64 (off : Nat), .int .i64 (n : Nat)] w fun e w' => ∃ q, w.heap.size ≤ q ∧ e = .returned (.tuple #[.slice (some ⟨q, 0, none⟩) n n, .int .i64 0]) ∧ Bys w' (some ⟨q, 0, none⟩) n (fun j => F i (4 + off + j)) ∧ Tn.Mod [] w w' := by
  have H := hid h
  have hI := hid hi
  have HN := hid hn
  have hoI : (off : Int) ≤ 256 := by omega
  have hnI : (n : Int) ≤ 256 := by omega
  have hmk := make_bytes n n rfl (by omega) w
  have hm1 : Tn.Mod [] w (w.alloc (.cells (zeros n) 5)) := (Mod.refl [] w).alloc _
  have HM1 := hid hm1
  have HB := hid ((h.mod0 hm1).bys i off n hi hn)
  have HQ := hid (Blk.new w 5 (zeros n))
  by_cases h2 : 256 = off
  · have h256 : (256 = off) = True := by simp [h2]
    have hn0 : n = 0 := by omega
    subst hn0
    have hmk := make_bytes 0 0 rfl (by omega) w
    clear h hi hn hm1 h2
    go_enter Tryz.func52, Tryz.ntmps52
    go_wp2_with (first
      | (go_at_call 32; refine (part_f H.out i off 0 hI.out HN.out).mono ?_; rintro e w' ⟨rfl, rfl⟩)
      | (refine wpList_cp rfl _ _ rfl w.heap.size 0 0 0 rfl _ (256 - off) (256 - off) rfl (zeros 0) 5 HQ.out (fun _ => 0) 0 (by simp) (Bys_zero _ _) (by simp) ?_))
    intro cur hs
    have HM2 := hid (HM1.out.setRow (.inr (Nat.le_refl _)) cur)
    clear hs
    go_wp2
    go_ret2
    exact ⟨w.heap.size, Nat.le_refl _, rfl, Bys_zero _ _, HM2.out⟩
  · have h256 : (256 = off) = False := by simp [h2]
    have HMIN := hid (show Nat.min (256 - off) n = n from Nat.min_eq_right (by omega))
    clear h hi hn hm1 h2
    go_enter Tryz.func52, Tryz.ntmps52
    go_wp2_with (first
      | (go_at_call 32; refine (part_f H.out i off n hI.out HN.out).mono ?_; rintro e w' ⟨rfl, rfl⟩)
      | (refine wpList_cp rfl _ _ rfl w.heap.size 0 n n rfl _ (256 - off) (256 - off) rfl (zeros n) 5 HQ.out (fun j => F i (4 + off + j)) n HMIN.out HB.out (by rw [zeros_size]; omega) ?_))
    intro cur hs
    have HS := hid hs
    have HM2 := hid (HM1.out.setRow (.inr (Nat.le_refl _)) cur)
    have HQ2 := hid (HQ.out.setRow (cs := cur))
    clear hs
    go_wp2
    go_ret2
    refine ⟨w.heap.size, Nat.le_refl _, rfl, fun _ => ⟨w.heap.size, 0, rfl, HQ2.out.lt, fun j hj => ?_⟩, HM2.out⟩
    rw [HQ2.out.cell, Nat.zero_add, HS.out.at_ j, if_pos ⟨by omega, by omega⟩, Nat.sub_zero]

theorem kinds_f (h : PH w m fb F) (i kd : Nat) (hi : i < 14) (hk : kd ≤ 3) : Calls Tryz.prog 60 #[.pointer (some ⟨m, 0, none⟩), .int .i64 (i : Nat), .int .i64 (kd : Nat)] w fun e w' => e = .returned (.tuple #[.pointer (some ⟨fb, i * 260, none⟩), .int .i64 0]) ∧ w = w' := by
  have H := hid h
  have hI := hid hi
  have hkI : (kd : Int) ≤ 3 := by omega
  clear h hi hk
  go_enter Tryz.func60, Tryz.ntmps60
  go_wp2_with (go_at_call 61; refine (at_f H.out i hI.out).mono ?_; rintro e w' ⟨rfl, rfl⟩)
  go_ret2
  exact ⟨rfl, rfl⟩

set_option maxRecDepth 100000 in
set_option maxHeartbeats 1000000 in
theorem frame_f (h : PH w m fb F) (i : Nat) (hi : i < 14) : Calls Tryz.prog 36 #[.pointer (some ⟨m, 0, none⟩), .int .i64 (i : Nat)] w fun e w' => e = .returned (.tuple #[.agg #[.int .i64 (F i 0), .int .i64 (F i 1), .int .i64 (F i 2), .int .i64 (F i 3)], .int .i64 0]) ∧ Tn.Mod [] w w' := by
  have hm1 : Tn.Mod [] w (w.alloc (.cells #[.int .i64 0, .int .i64 0, .int .i64 0, .int .i64 0] 70)) := (Mod.refl [] w).alloc _
  have H := hid (h.mod0 hm1)
  have HM := hid hm1
  have c0 := H.out.num i 0 hi (by omega)
  have c1 := H.out.num i 1 hi (by omega)
  have c2 := H.out.num i 2 hi (by omega)
  have c3 := H.out.num i 3 hi (by omega)
  rw [Nat.add_zero] at c0
  have hI := hid hi
  generalize F i 0 = v0 at c0 ⊢
  generalize F i 1 = v1 at c1 ⊢
  generalize F i 2 = v2 at c2 ⊢
  generalize F i 3 = v3 at c3 ⊢
  clear h hi hm1
  go_enter Tryz.func36, Tryz.ntmps36
  go_wp2_with (go_at_call 61; refine (at_f H.out i hI.out).mono ?_; rintro e w' ⟨rfl, rfl⟩)
  have hmz : Tn.Mod [] w (w.alloc (.cells #[.int .i64 v0, .int .i64 v1, .int .i64 v2, .int .i64 v3] 70)) := (Mod.refl [] w).alloc _
  refine bodyPost_ret (v := .tuple #[.agg #[.int .i64 v0, .int .i64 v1, .int .i64 v2, .int .i64 v3], .int .i64 0]) ?_ rfl ⟨rfl, hmz⟩
  rw [results_cell_tmp (p := 4) (u := 5) rfl]
  go_simp
end
end Go.Proofs.YtfolppcadckmaaaGreat
