/-
  Frames: rings in the heap: New, Open, the small functions.
-/
import Derived.Test.YtfolppcadckmaaaGreatVw
import Derived.Deep.RegionHeld3
import Derived.Deep.QuietTactic
namespace Go.Proofs.YtfolppcadckmaaaGreat
open Go.RowKit Go.Tn
open Go.Proofs
set_option maxRecDepth 100000

/-- The difference of two numbers of two bytes. -/
def df (a b : Nat) : Nat := (a + 65536 - b) % 65536
theorem df_wrap {a b : Nat} (ha : a < 65536) (hb : b < 65536) : IntKind.u16.wrap ((a : Int) - (b : Int)) = ((df a b : Nat) : Int) := by
  rw [IntKind.wrap_u16]; unfold df; omega
theorem df_lt (a b : Nat) : df a b < 65536 := Nat.mod_lt _ (by omega)
theorem df_self {a : Nat} (ha : a < 65536) : df a a = 0 := by unfold df; omega
/-- One more. -/
def sc (a : Nat) : Nat := (a + 1) % 65536
theorem sc_lt (a : Nat) : sc a < 65536 := Nat.mod_lt _ (by omega)
theorem sc_wrap (a : Nat) : IntKind.u16.wrap ((a : Int) + 1) = ((sc a : Nat) : Int) := by rw [IntKind.wrap_u16]; unfold sc; omega

/-- A ring's back end at b. -/
def RB (w : World) (b mfn i o s : Nat) : Prop := Blk w b 147 #[.bool true, .int .i64 (mfn : Nat), .int .u16 (i : Nat), .int .u16 (o : Nat), .int .u16 (s : Nat)]
/-- A ring's front end at f. -/
def RF (w : World) (f m mfn i o : Nat) : Prop := Blk w f 108 #[.bool true, .int .i64 (mfn : Nat), .int .u16 (i : Nat), .int .u16 (o : Nat), .pointer (some ⟨m, 0, none⟩)]

section
variable {w w' : World} {b f m mfn i o s fb : Nat} {F : Nat → Nat → Int}
theorem RB.mod (h : RB w b mfn i o s) {S : List Nat} (hm : Tn.Mod S w w') (h1 : b ∉ S) : RB w' b mfn i o s := Blk.mod h hm h1
theorem RB.mod0 (h : RB w b mfn i o s) (hm : Tn.Mod [] w w') : RB w' b mfn i o s := h.mod hm (by simp)
theorem RF.mod (h : RF w f m mfn i o) {S : List Nat} (hm : Tn.Mod S w w') (h1 : f ∉ S) : RF w' f m mfn i o := Blk.mod h hm h1
theorem RF.mod0 (h : RF w f m mfn i o) (hm : Tn.Mod [] w w') : RF w' f m mfn i o := h.mod hm (by simp)
theorem RB.cells (h : RB w b mfn i o s) : w.cell? ⟨b, 0, none⟩ = some (.bool true) ∧ w.cell? ⟨b, 1, none⟩ = some (.int .i64 (mfn : Nat)) ∧ w.cell? ⟨b, 2, none⟩ = some (.int .u16 (i : Nat)) ∧ w.cell? ⟨b, 3, none⟩ = some (.int .u16 (o : Nat)) ∧ w.cell? ⟨b, 4, none⟩ = some (.int .u16 (s : Nat)) :=
  ⟨Blk.cell h 0, Blk.cell h 1, Blk.cell h 2, Blk.cell h 3, Blk.cell h 4⟩
theorem RF.cells (h : RF w f m mfn i o) : w.cell? ⟨f, 0, none⟩ = some (.bool true) ∧ w.cell? ⟨f, 1, none⟩ = some (.int .i64 (mfn : Nat)) ∧ w.cell? ⟨f, 2, none⟩ = some (.int .u16 (i : Nat)) ∧ w.cell? ⟨f, 3, none⟩ = some (.int .u16 (o : Nat)) ∧ w.cell? ⟨f, 4, none⟩ = some (.pointer (some ⟨m, 0, none⟩)) :=
  ⟨Blk.cell h 0, Blk.cell h 1, Blk.cell h 2, Blk.cell h 3, Blk.cell h 4⟩

theorem rbnone_f (h : RB w b mfn i o s) : Calls Tryz.prog 73 #[.pointer (some ⟨b, 0, none⟩)] w fun e w' => e = .returned (.bool false) ∧ w = w' := by
  have c0 := h.cells.1
  clear h
  go_enter Tryz.func73, Tryz.ntmps73
  go_wp2
  go_ret
  exact ⟨rfl, rfl⟩
theorem rfnone_f (h : RF w f m mfn i o) : Calls Tryz.prog 42 #[.pointer (some ⟨f, 0, none⟩)] w fun e w' => e = .returned (.bool false) ∧ w = w' := by
  have c0 := h.cells.1
  clear h
  go_enter Tryz.func42, Tryz.ntmps42
  go_wp2
  go_ret
  exact ⟨rfl, rfl⟩

theorem between_f (mfn : Int) (i o : Nat) (hi : i < 65536) (ho : o < 65536) (w : World) : Calls Tryz.prog 51 #[.agg #[.bool true, .int .i64 mfn, .int .u16 (i : Nat), .int .u16 (o : Nat)]] w fun e w' => e = .returned (.int .i64 (df i o : Nat)) ∧ Tn.Mod [] w w' := by
  have hd := df_wrap hi ho
  have hl := df_lt i o
  clear hi ho
  go_enter Tryz.func51, Tryz.ntmps51
  go_wp2
  go_ret
  exact ⟨rfl, by repeat (first | exact Mod.refl _ _ | apply Mod.drew | apply Mod.drewN | apply Mod.alloc)⟩

/-- Where the slot of request n, of response n lies. -/
def qs (n : Nat) : Nat := 16 + 16 * (n % 8)
def rs (n : Nat) : Nat := 144 + 8 * (n % 8)
theorem slotq_f (n : Nat) (w : World) : Calls Tryz.prog 43 #[.int .i64 16, .int .u16 (n : Nat)] w fun e w' => e = .returned (.tuple #[.int .i64 (qs n : Nat), .int .i64 16]) ∧ Tn.Mod [] w w' := by
  go_enter Tryz.func43, Tryz.ntmps43
  go_wp2
  go_quiet (fail)
  go_wp2
  go_ret2
  exact ⟨by unfold qs; simp, ((Mod.refl [] w).alloc _).drewN _⟩
theorem slotr_f (n : Nat) (w : World) : Calls Tryz.prog 53 #[.int .i64 144, .int .u16 (n : Nat)] w fun e w' => e = .returned (.tuple #[.int .i64 (rs n : Nat), .int .i64 8]) ∧ Tn.Mod [] w w' := by
  go_enter Tryz.func53, Tryz.ntmps53
  go_wp2
  go_quiet (fail)
  go_wp2
  go_ret2
  exact ⟨by unfold rs; simp, ((Mod.refl [] w).alloc _).drewN _⟩

/-- Two bytes of a number. -/
def tb (n : Nat) (j : Nat) : Int := if j = 0 then ((n % 256 : Nat) : Int) else ((n / 256 : Nat) : Int)
theorem two_f (n : Nat) (hn : n < 65536) (w : World) : Calls Tryz.prog 45 #[.int .u16 (n : Nat)] w fun e w' => ∃ q, w.heap.size ≤ q ∧ e = .returned (.slice (some ⟨q, 0, none⟩) 2 2) ∧ Bys w' (some ⟨q, 0, none⟩) 2 (tb n) ∧ Tn.Mod [] w w' := by
  go_enter Tryz.func45, Tryz.ntmps45
  go_wp2
  go_ret
  have hb := Blk.new w 5 #[Value.int .u8 ((n : Int) % 256), Value.int .u8 ((n : Int) / 256)]
  refine ⟨w.heap.size, Nat.le_refl _, rfl, fun _ => ⟨w.heap.size, 0, rfl, hb.lt, fun j hj => ?_⟩, (Mod.refl [] w).alloc _⟩
  have hj2 : j = 0 ∨ j = 1 := by omega
  rcases hj2 with rfl | rfl
  · rw [hb.cell]; simp [tb]
  · rw [hb.cell]; simp [tb]

theorem ahead_f (i o : Nat) (hi : i < 65536) (ho : o < 65536) (hd8 : df i o ≤ 8) (w : World) : Calls Tryz.prog 76 #[.int .u16 (i : Nat), .int .u16 (o : Nat)] w fun e w' => e = .returned (.tuple #[.int .i64 (df i o : Nat), .bool false]) ∧ w = w' := by
  have hd := df_wrap hi ho
  have hl : ((df i o : Nat) : Int) ≤ 8 := by omega
  clear hi ho hd8
  go_enter Tryz.func76, Tryz.ntmps76
  go_wp2
  go_ret2
  exact ⟨rfl, rfl⟩
end
end Go.Proofs.YtfolppcadckmaaaGreat
