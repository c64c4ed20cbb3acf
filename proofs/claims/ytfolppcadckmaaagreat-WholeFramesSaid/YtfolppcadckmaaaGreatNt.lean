/-
  Frames: the network backend: the small functions; Pack of the three grants.
-/
import Derived.Test.YtfolppcadckmaaaGreatLe
import Derived.Test.YtfolppcadckmaaaGreatRi
namespace Go.Proofs.YtfolppcadckmaaaGreat
open Go.RowKit Go.Tn
open Go.Proofs
set_option maxRecDepth 100000

theorem nin_f (x most : Int) (h0 : 0 ≤ x) (h1 : x ≤ most) (w : World) : Calls Tryz.prog 39 #[.int .i64 x, .int .i64 most] w fun e w' => e = .returned (.bool true) ∧ w = w' := by
  go_enter Tryz.func39, Tryz.ntmps39
  go_wp2
  go_ret
  exact ⟨rfl, rfl⟩
theorem ndomain_f (n : Nat) (hn : n < 8) (w : World) : Calls Tryz.prog 35 #[.int .i64 (n : Nat)] w fun e w' => e = .returned (.bool true) ∧ w = w' := by
  have h : (n : Int) < 8 := by omega
  go_enter Tryz.func35, Tryz.ntmps35
  go_wp2
  go_ret
  exact ⟨rfl, rfl⟩

/-- The bytes of a request: the grant, its length, its number. -/
def rq (len id : Nat) (j : Nat) : Int := if j = 0 then 3 else if j = 2 then (len : Nat) else if j = 4 then ((id % 256 : Nat) : Int) else if j = 5 then ((id / 256 : Nat) : Int) else 0

theorem zeros_get {n j : Nat} (h : j < n) : (zeros n)[j]? = some (.int .u8 0) := by
  have : (zeros n).size = n := zeros_size n
  simp only [zeros, madeCells, Array.getElem?_map, Array.getElem?_range]
  rw [if_pos (by simpa using h)]
  simp only [Option.map_some, List.size_toArray, List.length_cons, List.length_nil, Nat.zero_add, Nat.mod_one]
  rfl

set_option maxHeartbeats 4000000 in
/-- 'Packet', of grant 3 from its begin on. -/
theorem packet_f (len id : Nat) (hl : len ≤ 255) (hi : id ≤ 65535) (w : World) : Calls Tryz.prog 16 #[.int .i64 3, .int .i64 0, .int .i64 (len : Nat), .int .i64 (id : Nat)] w fun e w' =>
    ∃ q, w.heap.size ≤ q ∧ e = .returned (.tuple #[.slice (some ⟨q, 0, none⟩) 16 16, .int .i64 0]) ∧ Bys w' (some ⟨q, 0, none⟩) 16 (rq len id) ∧ Tn.Mod [] w w' := by
  have hl1 : (len : Int) ≤ 255 := by omega
  have hi1 : (id : Int) ≤ 65535 := by omega
  have hmk := make_bytes 16 16 rfl (by omega) w
  have hb := Blk.new w 5 (zeros 16)
  have hm1 : Tn.Mod [] w (w.alloc (.cells (zeros 16) 5)) := (Mod.refl [] w).alloc _
  generalize w.alloc (.cells (zeros 16) 5) = W1 at hmk hb hm1
  have z : ∀ k, k < 16 → W1.cell? ⟨w.heap.size, k, none⟩ = some (.int .u8 0) := fun k hk => (hb.cell k).trans (zeros_get hk)
  have z0 := z 0 (by omega)
  have z1 := z 1 (by omega)
  have z2 := z 2 (by omega)
  have z4 := z 4 (by omega)
  have z5 := z 5 (by omega)
  have fz := hb.frozen
  have lz := hb.lt
  have HB := hid hb
  have HM1 := hid hm1
  clear hb hm1 z
  go_enter Tryz.func16, Tryz.ntmps16
  go_wp2_with (go_at_call 39; refine (nin_f _ _ (by omega) (by omega) _).mono ?_; rintro e w' ⟨rfl, rfl⟩)
  go_ret2
  have h5 := ((((HB.out.set_ 0 (.int .u8 3)).set_ 1 (.int .u8 0)).set_ 2 (.int .u8 (len : Nat))).set_ 4 (.int .u8 ((id : Int) % 256))).set_ 5 (.int .u8 ((id : Int) / 256))
  refine ⟨w.heap.size, Nat.le_refl _, rfl, fun _ => ⟨w.heap.size, 0, rfl, h5.lt, fun j hj => ?_⟩, ((((HM1.out.setCell (.inr (Nat.le_refl _)) _).setCell (.inr (Nat.le_refl _)) _).setCell (.inr (Nat.le_refl _)) _).setCell (.inr (Nat.le_refl _)) _).setCell (.inr (Nat.le_refl _)) _⟩
  rw [Nat.zero_add, h5.cell]
  have hz := zeros_get (n := 16) (j := j) hj
  have hs := zeros_size 16
  unfold rq
  have hj16 : j = 0 ∨ j = 1 ∨ j = 2 ∨ j = 4 ∨ j = 5 ∨ (j ≠ 0 ∧ j ≠ 1 ∧ j ≠ 2 ∧ j ≠ 4 ∧ j ≠ 5) := by omega
  rcases hj16 with rfl | rfl | rfl | rfl | rfl | ⟨n0, n1, n2, n4, n5⟩
  · simp [Array.getElem?_setIfInBounds, hs]
  · simp [Array.getElem?_setIfInBounds, hs]
  · simp [Array.getElem?_setIfInBounds, hs]
  · simp [Array.getElem?_setIfInBounds, hs]
  · simp [Array.getElem?_setIfInBounds, hs]
  · simp only [Array.getElem?_setIfInBounds, if_neg n0.symm, if_neg n1.symm, if_neg n2.symm, if_neg n4.symm, if_neg n5.symm, if_neg n0, if_neg n2, if_neg n4, if_neg n5, hz]

/-- 'Reply', of eight bytes: status and length. -/
theorem reply_f {w : World} {q cp : Nat} {R : Nat → Int} (h : Bys w (some ⟨q, 0, none⟩) 8 R) (h2 : 0 ≤ R 2 ∧ R 2 ≤ 255) (h3 : 0 ≤ R 3 ∧ R 3 ≤ 255) : Calls Tryz.prog 56 #[.slice (some ⟨q, 0, none⟩) 8 cp] w fun e w' => (∃ u : Int, e = .returned (.tuple #[.int .i64 u, .int .i64 (R 2), .int .i64 (R 3), .int .i64 0])) ∧ Tn.Mod [] w w' := by
  have a0 := h.at_ 0 (by omega)
  have a1 := h.at_ 1 (by omega)
  have a2 := h.at_ 2 (by omega)
  have a3 := h.at_ 3 (by omega)
  generalize R 0 = r0 at a0
  generalize R 1 = r1 at a1
  generalize R 2 = r2 at a2 h2 ⊢
  generalize R 3 = r3 at a3 h3 ⊢
  have e2 : wrap64 r2 = r2 := by rw [wrap64]; omega
  have e3 : wrap64 r3 = r3 := by rw [wrap64]; omega
  clear h h2 h3
  go_enter Tryz.func56, Tryz.ntmps56
  go_wp2
  go_quiet (fail)
  go_wp2
  refine bodyPost_ret (v := .tuple #[.int .i64 (bits .or .i64 (wrap64 r0) (wrap64 (wrap64 r1 * 256))), .int .i64 r2, .int .i64 r3, .int .i64 0]) ?_ rfl ⟨⟨_, rfl⟩, (Mod.refl [] w).drewN _⟩
  simp [results, Tryz.results56, go_sem]
  exact ⟨e2, e3⟩

theorem size135 : (Tryz.prog.info? 135).map (·.size) = some 0 := by kernel_rfl
/-- 'nothing'. -/
theorem nothing_f (w : World) : Calls Tryz.prog 49 #[] w fun e w' => e = .returned (.tuple #[.agg #[], .bool true]) ∧ Tn.Mod [] w w' := by
  go_enter Tryz.func49, Tryz.ntmps49
  go_wp2
  exact bodyPost_ret (ret_row rfl rfl (Blk.new w 135 #[]) _ Tryz.underlying135 size135) rfl ⟨rfl, (Mod.refl [] w).alloc _⟩
end Go.Proofs.YtfolppcadckmaaaGreat
