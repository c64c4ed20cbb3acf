/-
  Layer 14, the reference: direct.
-/
import Derived.Test.YtkdhkloabbcipaaDc
import Derived.Deep.RegionLaw
namespace Go.Proofs.Ytkdhkloabbcipaa
open Go.RowKit Go.Tn Go.Tn.P14

section
variable {w w' : World} {q rp ac : Nat} {A : Option Addr} {FP FP' : List Nat} {C : Nat → Option Addr × Nat} {S : St}

/-- A frame's own row. -/
theorem own_frame {g cap n : Nat} {fr : List Int} (hown : w'.ownsRow 0 5 1 (.slice (some ⟨g, 0, none⟩) n cap) n (bytesV fr)) : ∃ cs, Blk w' g 5 cs ∧ ∀ (j : Nat) (y : Int), fr[j]? = some y → cs[j]? = some (.int .u8 y) := by
  rcases hown.2 with ⟨h0, _⟩ | ⟨g', cap', cur, hv, _, hgg, _, _, _, ht⟩
  · cases h0
  · injection hv with h1
    injection h1 with h1
    injection h1 with h1
    subst h1
    refine ⟨cur, hgg, fun j y hj => ?_⟩
    have := bytesV_get hj
    rw [← ht, List.getElem?_take] at this
    split at this
    · simpa using this
    · cases this

set_option maxHeartbeats 4000000 in
/-- 'direct', where the queue is full. -/
theorem rdirect_full (h : RC w q rp A ac FP C S) {M : Int} (hM : M ≤ 1152921504606846976) {k : Nat} (hk : k < S.n) (G4 : 0 ≤ (S.L k).c 4 ∧ (S.L k).c 4 ≤ M) (G8 : 0 ≤ (S.L k).c 8 ∧ (S.L k).c 8 ≤ M) {F : Option Addr} {cf : Nat} {fr : List Int} (hA : Arg w F fr FP) (hl2 : 2 ≤ fr.length) (hl3 : fr.length ≤ 128) (hq4 : 4 ≤ (S.L k).q.length) :
    Calls Try.prog 39 #[.pointer (some ⟨q, 0, none⟩), .int .i64 k, .slice F fr.length cf] w fun e w' => e = .returned (.tuple #[]) ∧ AftR w w' q rp A ac FP (onP S k fun P => dirP P fr) := by
  have c0 := h.c0
  have e0 := h.num hk (show 0 < 13 by decide) (by decide)
  have e1 := h.num hk (show 1 < 13 by decide) (by decide)
  have e2 := h.num hk (show 2 < 13 by decide) (by decide)
  have e3 := h.que hk
  have e4 := h.num hk (show 4 < 13 by decide) (by decide)
  have e5 := h.num hk (show 5 < 13 by decide) (by decide)
  have e6 := h.num hk (show 6 < 13 by decide) (by decide)
  have e7 := h.num hk (show 7 < 13 by decide) (by decide)
  have e8 := h.num hk (show 8 < 13 by decide) (by decide)
  have e9 := h.num hk (show 9 < 13 by decide) (by decide)
  have e10 := h.num hk (show 10 < 13 by decide) (by decide)
  have e11 := h.num hk (show 11 < 13 by decide) (by decide)
  have e12 := h.num hk (show 12 < 13 by decide) (by decide)
  simp only [Nat.add_zero] at e0
  rw [show rr 0 = 9 from rfl] at e0
  rw [show rr 1 = 10 from rfl] at e1
  rw [show rr 2 = 11 from rfl] at e2
  rw [show rr 4 = 0 from rfl] at e4
  rw [show rr 5 = 1 from rfl] at e5
  rw [show rr 6 = 2 from rfl] at e6
  rw [show rr 7 = 3 from rfl] at e7
  rw [show rr 8 = 4 from rfl] at e8
  rw [show rr 9 = 5 from rfl] at e9
  rw [show rr 10 = 6 from rfl] at e10
  rw [show rr 11 = 7 from rfl] at e11
  rw [show rr 12 = 8 from rfl] at e12
  have l4 := G4.1
  have m4 := G4.2
  have l8 := G8.1
  have m8 := G8.2
  obtain ⟨x4, ex4⟩ : ∃ x, (S.L k).c 4 = x := ⟨_, rfl⟩
  obtain ⟨x8, ex8⟩ : ∃ x, (S.L k).c 8 = x := ⟨_, rfl⟩
  rw [ex4] at e8 l4 m4
  rw [ex8] at e12 l8 m8
  obtain ⟨qn, hqn⟩ : ∃ n, (S.L k).q.length = n := ⟨_, rfl⟩
  rw [hqn] at e3 hq4
  have H := hid h
  have HA := hid hA
  have EX4 := hid ex4
  have EX8 := hid ex8
  have HQN := hid hqn
  clear h G4 G8 hA ex4 ex8 hqn
  go_enter Try.func39, Try.ntmps39
  go_wp2_with fail
  have hB := hid (Blk.new w 88 #[.int .i64 ((S.L k).c 9), .int .i64 ((S.L k).c 10), .int .i64 ((S.L k).c 11), .slice (C k).1 qn (C k).2, .int .i64 ((S.L k).c 0), .int .i64 ((S.L k).c 1), .int .i64 ((S.L k).c 2), .int .i64 ((S.L k).c 3), .int .i64 (x4 + 1), .int .i64 ((S.L k).c 5), .int .i64 ((S.L k).c 6), .int .i64 ((S.L k).c 7), .int .i64 (x8 + 1)])
  have hM := hid ((Mod.refl [] w).alloc (.cells #[.int .i64 ((S.L k).c 9), .int .i64 ((S.L k).c 10), .int .i64 ((S.L k).c 11), .slice (C k).1 qn (C k).2, .int .i64 ((S.L k).c 0), .int .i64 ((S.L k).c 1), .int .i64 ((S.L k).c 2), .int .i64 ((S.L k).c 3), .int .i64 (x4 + 1), .int .i64 ((S.L k).c 5), .int .i64 ((S.L k).c 6), .int .i64 ((S.L k).c 7), .int .i64 (x8 + 1)] 88))
  generalize w.alloc (.cells #[.int .i64 ((S.L k).c 9), .int .i64 ((S.L k).c 10), .int .i64 ((S.L k).c 11), .slice (C k).1 qn (C k).2, .int .i64 ((S.L k).c 0), .int .i64 ((S.L k).c 1), .int .i64 ((S.L k).c 2), .int .i64 ((S.L k).c 3), .int .i64 (x4 + 1), .int .i64 ((S.L k).c 5), .int .i64 ((S.L k).c 6), .int .i64 ((S.L k).c 7), .int .i64 (x8 + 1)] 88) = w5 at *
  have t0 : w5.cell? ⟨w.heap.size, 0, none⟩ = some (.int .i64 ((S.L k).c 9)) := hB.out.cell 0
  have t1 : w5.cell? ⟨w.heap.size, 1, none⟩ = some (.int .i64 ((S.L k).c 10)) := hB.out.cell 1
  have t2 : w5.cell? ⟨w.heap.size, 2, none⟩ = some (.int .i64 ((S.L k).c 11)) := hB.out.cell 2
  have t3 : w5.cell? ⟨w.heap.size, 3, none⟩ = some (.slice (C k).1 qn (C k).2) := hB.out.cell 3
  have t4 : w5.cell? ⟨w.heap.size, 4, none⟩ = some (.int .i64 ((S.L k).c 0)) := hB.out.cell 4
  have t5 : w5.cell? ⟨w.heap.size, 5, none⟩ = some (.int .i64 ((S.L k).c 1)) := hB.out.cell 5
  have t6 : w5.cell? ⟨w.heap.size, 6, none⟩ = some (.int .i64 ((S.L k).c 2)) := hB.out.cell 6
  have t7 : w5.cell? ⟨w.heap.size, 7, none⟩ = some (.int .i64 ((S.L k).c 3)) := hB.out.cell 7
  have t8 : w5.cell? ⟨w.heap.size, 8, none⟩ = some (.int .i64 (x4 + 1)) := hB.out.cell 8
  have t9 : w5.cell? ⟨w.heap.size, 9, none⟩ = some (.int .i64 ((S.L k).c 5)) := hB.out.cell 9
  have t10 : w5.cell? ⟨w.heap.size, 10, none⟩ = some (.int .i64 ((S.L k).c 6)) := hB.out.cell 10
  have t11 : w5.cell? ⟨w.heap.size, 11, none⟩ = some (.int .i64 ((S.L k).c 7)) := hB.out.cell 11
  have t12 : w5.cell? ⟨w.heap.size, 12, none⟩ = some (.int .i64 (x8 + 1)) := hB.out.cell 12
  have H5 := hid (H.out.newer hM.out)
  have c0 : w5.cell? ⟨q, 0, none⟩ = some (.slice (some ⟨rp, 0, none⟩) S.n S.n) := H5.out.c0
  have g0 : w5.frozen? ⟨rp, k * 13, none⟩ = false := H5.out.rows.free _
  have g1 : w5.frozen? ⟨rp, k * 13 + 1, none⟩ = false := H5.out.rows.free _
  have g2 : w5.frozen? ⟨rp, k * 13 + 2, none⟩ = false := H5.out.rows.free _
  have g3 : w5.frozen? ⟨rp, k * 13 + 3, none⟩ = false := H5.out.rows.free _
  have g4 : w5.frozen? ⟨rp, k * 13 + 4, none⟩ = false := H5.out.rows.free _
  have g5 : w5.frozen? ⟨rp, k * 13 + 5, none⟩ = false := H5.out.rows.free _
  have g6 : w5.frozen? ⟨rp, k * 13 + 6, none⟩ = false := H5.out.rows.free _
  have g7 : w5.frozen? ⟨rp, k * 13 + 7, none⟩ = false := H5.out.rows.free _
  have g8 : w5.frozen? ⟨rp, k * 13 + 8, none⟩ = false := H5.out.rows.free _
  have g9 : w5.frozen? ⟨rp, k * 13 + 9, none⟩ = false := H5.out.rows.free _
  have g10 : w5.frozen? ⟨rp, k * 13 + 10, none⟩ = false := H5.out.rows.free _
  have g11 : w5.frozen? ⟨rp, k * 13 + 11, none⟩ = false := H5.out.rows.free _
  have g12 : w5.frozen? ⟨rp, k * 13 + 12, none⟩ = false := H5.out.rows.free _
  have s0 : w5.cell? ⟨rp, k * 13, none⟩ = some (.int .i64 ((S.L k).c 9)) := (hM.out.cell H.out.rows.row.lt (by simp)).trans e0
  have s1 : w5.cell? ⟨rp, k * 13 + 1, none⟩ = some (.int .i64 ((S.L k).c 10)) := (hM.out.cell H.out.rows.row.lt (by simp)).trans e1
  have s2 : w5.cell? ⟨rp, k * 13 + 2, none⟩ = some (.int .i64 ((S.L k).c 11)) := (hM.out.cell H.out.rows.row.lt (by simp)).trans e2
  have s3 : w5.cell? ⟨rp, k * 13 + 3, none⟩ = some (.slice (C k).1 qn (C k).2) := (hM.out.cell H.out.rows.row.lt (by simp)).trans e3
  have s4 : w5.cell? ⟨rp, k * 13 + 4, none⟩ = some (.int .i64 ((S.L k).c 0)) := (hM.out.cell H.out.rows.row.lt (by simp)).trans e4
  have s5 : w5.cell? ⟨rp, k * 13 + 5, none⟩ = some (.int .i64 ((S.L k).c 1)) := (hM.out.cell H.out.rows.row.lt (by simp)).trans e5
  have s6 : w5.cell? ⟨rp, k * 13 + 6, none⟩ = some (.int .i64 ((S.L k).c 2)) := (hM.out.cell H.out.rows.row.lt (by simp)).trans e6
  have s7 : w5.cell? ⟨rp, k * 13 + 7, none⟩ = some (.int .i64 ((S.L k).c 3)) := (hM.out.cell H.out.rows.row.lt (by simp)).trans e7
  have s8 : w5.cell? ⟨rp, k * 13 + 8, none⟩ = some (.int .i64 x4) := (hM.out.cell H.out.rows.row.lt (by simp)).trans e8
  have s9 : w5.cell? ⟨rp, k * 13 + 9, none⟩ = some (.int .i64 ((S.L k).c 5)) := (hM.out.cell H.out.rows.row.lt (by simp)).trans e9
  have s10 : w5.cell? ⟨rp, k * 13 + 10, none⟩ = some (.int .i64 ((S.L k).c 6)) := (hM.out.cell H.out.rows.row.lt (by simp)).trans e10
  have s11 : w5.cell? ⟨rp, k * 13 + 11, none⟩ = some (.int .i64 ((S.L k).c 7)) := (hM.out.cell H.out.rows.row.lt (by simp)).trans e11
  have s12 : w5.cell? ⟨rp, k * 13 + 12, none⟩ = some (.int .i64 x8) := (hM.out.cell H.out.rows.row.lt (by simp)).trans e12
  clear e0 e1 e2 e3 e4 e5 e6 e7 e8 e9 e10 e11 e12
  go_still_tail 7, (by kernel_rfl)
  change wpList _ _ _ _ _ w5.drew
  go_wp2
  go_end0
  have a0 := H5.out.keep (k := k) (j := 0) hk (by decide) (by decide) rfl
  have a1 := a0.keep (k := k) (j := 1) hk (by decide) (by decide) rfl
  have a2 := a1.keep (k := k) (j := 2) hk (by decide) (by decide) rfl
  have a3 := a2.keepq (k := k) hk HQN.out
  have a4 := a3.keep (k := k) (j := 4) hk (by decide) (by decide) rfl
  have a5 := a4.keep (k := k) (j := 5) hk (by decide) (by decide) rfl
  have a6 := a5.keep (k := k) (j := 6) hk (by decide) (by decide) rfl
  have a7 := a6.keep (k := k) (j := 7) hk (by decide) (by decide) rfl
  have a8 := a7.onp (i := k) hk (show 8 < 13 by decide) (by decide) (x4 + 1) (fun P => P.inc 4) (by unfold Po.inc; rw [EX4.out]; rfl)
  have a9 := a8.keep (k := k) (j := 9) (x := (S.L k).c 5) hk (by decide) (by decide) (by rw [onP_L]; rfl)
  have a10 := a9.keep (k := k) (j := 10) (x := (S.L k).c 6) hk (by decide) (by decide) (by rw [onP_L]; rfl)
  have a11 := a10.keep (k := k) (j := 11) (x := (S.L k).c 7) hk (by decide) (by decide) (by rw [onP_L]; rfl)
  have a12 := a11.onp (i := k) hk (show 12 < 13 by decide) (by decide) (x8 + 1) (fun P => P.inc 8) (by rw [onP_L]; simp [Po.inc, Po.set, EX8.out, rr])
  rw [onP_onP, onP_congr (g := fun P => dirP P fr) (by unfold dirP; rw [if_pos (by rw [HQN.out]; exact hq4)])] at a12
  have m0 := hM.out.mono (T := FP) (by simp)
  exact ⟨rfl, FP, C, a12.drew, Step.of_mod (((((((((((((m0.setCell (.inl H.out.rows.bpF) _).setCell (.inl H.out.rows.bpF) _).setCell (.inl H.out.rows.bpF) _).setCell (.inl H.out.rows.bpF) _).setCell (.inl H.out.rows.bpF) _).setCell (.inl H.out.rows.bpF) _).setCell (.inl H.out.rows.bpF) _).setCell (.inl H.out.rows.bpF) _).setCell (.inl H.out.rows.bpF) _).setCell (.inl H.out.rows.bpF) _).setCell (.inl H.out.rows.bpF) _).setCell (.inl H.out.rows.bpF) _).setCell (.inl H.out.rows.bpF) _).drew⟩

set_option maxHeartbeats 4000000 in
/-- 'direct', where there is room. -/
theorem rdirect_room (h : RC w q rp A ac FP C S) {M : Int} (hM : M ≤ 1152921504606846976) {k : Nat} (hk : k < S.n) (G4 : 0 ≤ (S.L k).c 4 ∧ (S.L k).c 4 ≤ M) (G8 : 0 ≤ (S.L k).c 8 ∧ (S.L k).c 8 ≤ M) {F : Option Addr} {cf : Nat} {fr : List Int} (hA : Arg w F fr FP) (hl2 : 2 ≤ fr.length) (hl3 : fr.length ≤ 128) (hq4 : ¬ 4 ≤ (S.L k).q.length) :
    Calls Try.prog 39 #[.pointer (some ⟨q, 0, none⟩), .int .i64 k, .slice F fr.length cf] w fun e w' => e = .returned (.tuple #[]) ∧ AftR w w' q rp A ac FP (onP S k fun P => dirP P fr) := by
  have c0 := h.c0
  have e0 := h.num hk (show 0 < 13 by decide) (by decide)
  have e1 := h.num hk (show 1 < 13 by decide) (by decide)
  have e2 := h.num hk (show 2 < 13 by decide) (by decide)
  have e3 := h.que hk
  have e4 := h.num hk (show 4 < 13 by decide) (by decide)
  have e5 := h.num hk (show 5 < 13 by decide) (by decide)
  have e6 := h.num hk (show 6 < 13 by decide) (by decide)
  have e7 := h.num hk (show 7 < 13 by decide) (by decide)
  have e8 := h.num hk (show 8 < 13 by decide) (by decide)
  have e9 := h.num hk (show 9 < 13 by decide) (by decide)
  have e10 := h.num hk (show 10 < 13 by decide) (by decide)
  have e11 := h.num hk (show 11 < 13 by decide) (by decide)
  have e12 := h.num hk (show 12 < 13 by decide) (by decide)
  simp only [Nat.add_zero] at e0
  rw [show rr 0 = 9 from rfl] at e0
  rw [show rr 1 = 10 from rfl] at e1
  rw [show rr 2 = 11 from rfl] at e2
  rw [show rr 4 = 0 from rfl] at e4
  rw [show rr 5 = 1 from rfl] at e5
  rw [show rr 6 = 2 from rfl] at e6
  rw [show rr 7 = 3 from rfl] at e7
  rw [show rr 8 = 4 from rfl] at e8
  rw [show rr 9 = 5 from rfl] at e9
  rw [show rr 10 = 6 from rfl] at e10
  rw [show rr 11 = 7 from rfl] at e11
  rw [show rr 12 = 8 from rfl] at e12
  have l4 := G4.1
  have m4 := G4.2
  have l8 := G8.1
  have m8 := G8.2
  obtain ⟨x4, ex4⟩ : ∃ x, (S.L k).c 4 = x := ⟨_, rfl⟩
  obtain ⟨x8, ex8⟩ : ∃ x, (S.L k).c 8 = x := ⟨_, rfl⟩
  rw [ex4] at e8 l4 m4
  rw [ex8] at e12 l8 m8
  obtain ⟨qn, hqn⟩ : ∃ n, (S.L k).q.length = n := ⟨_, rfl⟩
  rw [hqn] at e3 hq4
  have H := hid h
  have HA := hid hA
  have EX4 := hid ex4
  have EX8 := hid ex8
  have HQN := hid hqn
  obtain ⟨xs, hr, hf⟩ := h.rows.que k hk
  have hxl : qn = xs.length := by rw [← hqn]; exact hf.1.symm
  obtain ⟨fb, off, rfl, hfb, _⟩ := hA.by_.2 (by omega)
  obtain ⟨i5, hi5, hz0, hz1, hz2⟩ := info_parts info5
  obtain ⟨i23, hi23, hy0, hy1, hy2⟩ := info_parts info23
  have HR := hid hr
  have HF := hid hf
  have HX := hid hxl
  have hfb' := hid hfb
  clear h G4 G8 hA ex4 ex8 hqn hr hf hxl hfb
  go_enter Try.func39, Try.ntmps39
  go_wp2_with fail
  have hB := hid (Blk.new w 88 #[.int .i64 ((S.L k).c 9), .int .i64 ((S.L k).c 10), .int .i64 ((S.L k).c 11), .slice (C k).1 qn (C k).2, .int .i64 ((S.L k).c 0), .int .i64 ((S.L k).c 1), .int .i64 ((S.L k).c 2), .int .i64 ((S.L k).c 3), .int .i64 (x4 + 1), .int .i64 ((S.L k).c 5), .int .i64 ((S.L k).c 6), .int .i64 ((S.L k).c 7), .int .i64 x8])
  have hM := hid ((Mod.refl [] w).alloc (.cells #[.int .i64 ((S.L k).c 9), .int .i64 ((S.L k).c 10), .int .i64 ((S.L k).c 11), .slice (C k).1 qn (C k).2, .int .i64 ((S.L k).c 0), .int .i64 ((S.L k).c 1), .int .i64 ((S.L k).c 2), .int .i64 ((S.L k).c 3), .int .i64 (x4 + 1), .int .i64 ((S.L k).c 5), .int .i64 ((S.L k).c 6), .int .i64 ((S.L k).c 7), .int .i64 x8] 88))
  have hsz := hid (show (w.alloc (.cells #[.int .i64 ((S.L k).c 9), .int .i64 ((S.L k).c 10), .int .i64 ((S.L k).c 11), .slice (C k).1 qn (C k).2, .int .i64 ((S.L k).c 0), .int .i64 ((S.L k).c 1), .int .i64 ((S.L k).c 2), .int .i64 ((S.L k).c 3), .int .i64 (x4 + 1), .int .i64 ((S.L k).c 5), .int .i64 ((S.L k).c 6), .int .i64 ((S.L k).c 7), .int .i64 x8] 88)).heap.size = w.heap.size + 1 by simp)
  generalize w.alloc (.cells #[.int .i64 ((S.L k).c 9), .int .i64 ((S.L k).c 10), .int .i64 ((S.L k).c 11), .slice (C k).1 qn (C k).2, .int .i64 ((S.L k).c 0), .int .i64 ((S.L k).c 1), .int .i64 ((S.L k).c 2), .int .i64 ((S.L k).c 3), .int .i64 (x4 + 1), .int .i64 ((S.L k).c 5), .int .i64 ((S.L k).c 6), .int .i64 ((S.L k).c 7), .int .i64 x8] 88) = w5 at *
  have t3 : w5.cell? ⟨w.heap.size, 3, none⟩ = some (.slice (C k).1 qn (C k).2) := hB.out.cell 3
  have hpa := hid (show w.heap.size ∉ blkOf (C k).1 from (HR.out.mod hM.out (by simp)).ne_blk hB.out (by decide))
  have t3a : (w5.alloc (.cells #[] 5)).cell? ⟨w.heap.size, 3, none⟩ = some (.slice (C k).1 qn (C k).2) := (((Mod.refl [] w5).alloc (.cells #[] 5)).cell hB.out.lt (by simp)).trans t3
  have s0 := hid e0
  have s1 := hid e1
  have s2 := hid e2
  have s3 := hid e3
  have s4 := hid e4
  have s5 := hid e5
  have s6 := hid e6
  have s7 := hid e7
  have s8 := hid e8
  have s9 := hid e9
  have s10 := hid e10
  have s11 := hid e11
  have s12 := hid e12
  clear e0 e1 e2 e3 e4 e5 e6 e7 e8 e9 e10 e11 e12
  go_region_law (first
    | (refine step_append_lies _ (by rfl) _ _ _ (by rfl) 0 5 i5 _ 1 1 Try.underlying23 hi5 hz0 hz1 hz2 rfl (by decide) (.slice (some ⟨w5.heap.size, 0, none⟩) 0 0) 0 [] (by rfl) (own_empty _) ⟨fb, off, none⟩ fr.length cf (bytesV fr) (by rfl) (by simp [bytesV_len]) (HA.out.by_.mod (hM.out.drew.alloc (.cells #[] 5)) (by simp)).cells (bytesV_one fr) (by omega) (by unfold maxLen; omega) (by omega) (Nat.zero_le _) (w5.heap.size + 1) (by simp) ?_
       intro g8 cap8 w8 hown8 hgrow8 hat8 hlt8
       have hm8 : Mod [] w5 w8 := ((Mod.refl [] w5).alloc (.cells #[] 5)).drew.grown hgrow8 (by intro b hb; simp [Value.ownBlock] at hb; exact .inr (by omega))
       have t83 : w8.cell? ⟨w.heap.size, 3, none⟩ = some (.slice (C k).1 qn (C k).2) := (hm8.cell hB.out.lt (by simp)).trans t3
       have t83a : (w8.alloc (.cells #[.slice (some ⟨g8, 0, none⟩) fr.length cap8] 23)).cell? ⟨w.heap.size, 3, none⟩ = some (.slice (C k).1 qn (C k).2) := ((hm8.alloc (.cells #[.slice (some ⟨g8, 0, none⟩) fr.length cap8] 23)).cell hB.out.lt (by simp)).trans t3
       have HM8 := hid hm8
       have HO8 := hid (own_frame hown8)
       have HL8 := hid hlt8
       have HAT8 := hid (show w5.heap.size ≤ g8 by rcases hat8 with h | h; (simp [Value.ownBlock] at h; omega); omega)
       clear hown8 hgrow8 hat8 hlt8 hm8)
    | (refine step_append_q (by rfl) _ _ _ (by rfl) Try.underlying70 hi23 hy0 hy1 hy2 rfl ((HR.out.mod hM.out (by simp)).mod (HM8.out.alloc (.cells #[.slice (some ⟨g8, 0, none⟩) fr.length cap8] 23)) (by simp)) HX.out (by rfl) (ad := ⟨w8.heap.size, 0, none⟩) (u := .slice (some ⟨g8, 0, none⟩) fr.length cap8) (by rfl) ((Blk.new w8 23 #[.slice (some ⟨g8, 0, none⟩) fr.length cap8]).cell 0) (by rfl) (by rw [← HX.out]; unfold maxLen; omega) (by rw [← HX.out]; omega) ?_
       intro g9 off9 cap9 w9 hq9 hm9 hg9 hl9
       have hm9' : Mod (blkOf (C k).1) w5 w9 := ((HM8.out.mono (T := blkOf (C k).1) (by simp)).alloc (.cells #[.slice (some ⟨g8, 0, none⟩) fr.length cap8] 23)).andThen hm9
       have t93 : w9.cell? ⟨w.heap.size, 3, none⟩ = some (.slice (C k).1 qn (C k).2) := (hm9'.cell hB.out.lt hpa.out).trans t3
       have f93 : w9.frozen? ⟨w.heap.size, 3, none⟩ = false := (hm9'.frozen hB.out.lt hpa.out).trans (hB.out.frozen 3)
       have HM9 := hid hm9'
       have HM89 := hid (((Mod.refl (blkOf (C k).1) w8).alloc (.cells #[.slice (some ⟨g8, 0, none⟩) fr.length cap8] 23)).andThen hm9)
       have HQ9 := hid hq9
       have HG9 := hid (show g9 ∈ blkOf (C k).1 ∨ w8.heap.size ≤ g9 from hg9.imp id (by simp; omega))
       have HL9 := hid hl9
       clear hq9 hm9 hg9 hl9 hm9'))

  all_goals
    have hm10 : Mod (blkOf (C k).1) w (w9.setCell ⟨w.heap.size, 3, none⟩ (.slice (some ⟨g9, off9, none⟩) (qn + 1) cap9)) := ((hM.out.mono (T := blkOf (C k).1) (by simp)).andThen HM9.out).setCell (.inr (Nat.le_refl _)) _
    have hB10 := (hB.out.mod HM9.out hpa.out).set_ 3 (.slice (some ⟨g9, off9, none⟩) (qn + 1) cap9)
    have hrT : rp ∉ blkOf (C k).1 := HR.out.ne_blk H.out.rows.row (by decide)
    have hqT : q ∉ blkOf (C k).1 := HR.out.ne_blk H.out.hd (by decide)
    obtain ⟨w10, hw10, p0, p1, p2, p3, p4, p5, p6, p7, p8, p9, p10, p11, p12, u0, u1, u2, u3, u4, u5, u6, u7, u8, u9, u10, u11, u12, v0, v1, v2, v3, v4, v5, v6, v7, v8, v9, v10, v11, v12, d0, HM10, HM11⟩ : ∃ w10, w10 = w9.setCell ⟨w.heap.size, 3, none⟩ (.slice (some ⟨g9, off9, none⟩) (qn + 1) cap9) ∧ w10.cell? ⟨w.heap.size, 0, none⟩ = some (.int .i64 ((S.L k).c 9)) ∧ w10.cell? ⟨w.heap.size, 1, none⟩ = some (.int .i64 ((S.L k).c 10)) ∧ w10.cell? ⟨w.heap.size, 2, none⟩ = some (.int .i64 ((S.L k).c 11)) ∧ w10.cell? ⟨w.heap.size, 3, none⟩ = some (.slice (some ⟨g9, off9, none⟩) (qn + 1) cap9) ∧ w10.cell? ⟨w.heap.size, 4, none⟩ = some (.int .i64 ((S.L k).c 0)) ∧ w10.cell? ⟨w.heap.size, 5, none⟩ = some (.int .i64 ((S.L k).c 1)) ∧ w10.cell? ⟨w.heap.size, 6, none⟩ = some (.int .i64 ((S.L k).c 2)) ∧ w10.cell? ⟨w.heap.size, 7, none⟩ = some (.int .i64 ((S.L k).c 3)) ∧ w10.cell? ⟨w.heap.size, 8, none⟩ = some (.int .i64 (x4 + 1)) ∧ w10.cell? ⟨w.heap.size, 9, none⟩ = some (.int .i64 ((S.L k).c 5)) ∧ w10.cell? ⟨w.heap.size, 10, none⟩ = some (.int .i64 ((S.L k).c 6)) ∧ w10.cell? ⟨w.heap.size, 11, none⟩ = some (.int .i64 ((S.L k).c 7)) ∧ w10.cell? ⟨w.heap.size, 12, none⟩ = some (.int .i64 x8) ∧ w10.cell? ⟨rp, k * 13, none⟩ = some (.int .i64 ((S.L k).c 9)) ∧ w10.cell? ⟨rp, k * 13 + 1, none⟩ = some (.int .i64 ((S.L k).c 10)) ∧ w10.cell? ⟨rp, k * 13 + 2, none⟩ = some (.int .i64 ((S.L k).c 11)) ∧ w10.cell? ⟨rp, k * 13 + 3, none⟩ = some (.slice (C k).1 qn (C k).2) ∧ w10.cell? ⟨rp, k * 13 + 4, none⟩ = some (.int .i64 ((S.L k).c 0)) ∧ w10.cell? ⟨rp, k * 13 + 5, none⟩ = some (.int .i64 ((S.L k).c 1)) ∧ w10.cell? ⟨rp, k * 13 + 6, none⟩ = some (.int .i64 ((S.L k).c 2)) ∧ w10.cell? ⟨rp, k * 13 + 7, none⟩ = some (.int .i64 ((S.L k).c 3)) ∧ w10.cell? ⟨rp, k * 13 + 8, none⟩ = some (.int .i64 x4) ∧ w10.cell? ⟨rp, k * 13 + 9, none⟩ = some (.int .i64 ((S.L k).c 5)) ∧ w10.cell? ⟨rp, k * 13 + 10, none⟩ = some (.int .i64 ((S.L k).c 6)) ∧ w10.cell? ⟨rp, k * 13 + 11, none⟩ = some (.int .i64 ((S.L k).c 7)) ∧ w10.cell? ⟨rp, k * 13 + 12, none⟩ = some (.int .i64 x8) ∧ w10.frozen? ⟨rp, k * 13, none⟩ = false ∧ w10.frozen? ⟨rp, k * 13 + 1, none⟩ = false ∧ w10.frozen? ⟨rp, k * 13 + 2, none⟩ = false ∧ w10.frozen? ⟨rp, k * 13 + 3, none⟩ = false ∧ w10.frozen? ⟨rp, k * 13 + 4, none⟩ = false ∧ w10.frozen? ⟨rp, k * 13 + 5, none⟩ = false ∧ w10.frozen? ⟨rp, k * 13 + 6, none⟩ = false ∧ w10.frozen? ⟨rp, k * 13 + 7, none⟩ = false ∧ w10.frozen? ⟨rp, k * 13 + 8, none⟩ = false ∧ w10.frozen? ⟨rp, k * 13 + 9, none⟩ = false ∧ w10.frozen? ⟨rp, k * 13 + 10, none⟩ = false ∧ w10.frozen? ⟨rp, k * 13 + 11, none⟩ = false ∧ w10.frozen? ⟨rp, k * 13 + 12, none⟩ = false ∧ w10.cell? ⟨q, 0, none⟩ = some (.slice (some ⟨rp, 0, none⟩) S.n S.n) ∧ Hid (Mod (blkOf (C k).1) w w10) ∧ Hid (Mod [w.heap.size] w9 w10) :=
      ⟨_, rfl, hB10.cell 0, hB10.cell 1, hB10.cell 2, hB10.cell 3, hB10.cell 4, hB10.cell 5, hB10.cell 6, hB10.cell 7, hB10.cell 8, hB10.cell 9, hB10.cell 10, hB10.cell 11, hB10.cell 12, (hm10.cell H.out.rows.row.lt hrT).trans s0.out, (hm10.cell H.out.rows.row.lt hrT).trans s1.out, (hm10.cell H.out.rows.row.lt hrT).trans s2.out, (hm10.cell H.out.rows.row.lt hrT).trans s3.out, (hm10.cell H.out.rows.row.lt hrT).trans s4.out, (hm10.cell H.out.rows.row.lt hrT).trans s5.out, (hm10.cell H.out.rows.row.lt hrT).trans s6.out, (hm10.cell H.out.rows.row.lt hrT).trans s7.out, (hm10.cell H.out.rows.row.lt hrT).trans s8.out, (hm10.cell H.out.rows.row.lt hrT).trans s9.out, (hm10.cell H.out.rows.row.lt hrT).trans s10.out, (hm10.cell H.out.rows.row.lt hrT).trans s11.out, (hm10.cell H.out.rows.row.lt hrT).trans s12.out, (hm10.frozen H.out.rows.row.lt hrT).trans (H.out.rows.free _), (hm10.frozen H.out.rows.row.lt hrT).trans (H.out.rows.free _), (hm10.frozen H.out.rows.row.lt hrT).trans (H.out.rows.free _), (hm10.frozen H.out.rows.row.lt hrT).trans (H.out.rows.free _), (hm10.frozen H.out.rows.row.lt hrT).trans (H.out.rows.free _), (hm10.frozen H.out.rows.row.lt hrT).trans (H.out.rows.free _), (hm10.frozen H.out.rows.row.lt hrT).trans (H.out.rows.free _), (hm10.frozen H.out.rows.row.lt hrT).trans (H.out.rows.free _), (hm10.frozen H.out.rows.row.lt hrT).trans (H.out.rows.free _), (hm10.frozen H.out.rows.row.lt hrT).trans (H.out.rows.free _), (hm10.frozen H.out.rows.row.lt hrT).trans (H.out.rows.free _), (hm10.frozen H.out.rows.row.lt hrT).trans (H.out.rows.free _), (hm10.frozen H.out.rows.row.lt hrT).trans (H.out.rows.free _), (hm10.cell H.out.hd.lt hqT).trans c0, hm10, (Mod.refl _ _).setCell (.inl (by simp)) _⟩
    rw [← hw10]
    clear hw10 hm10 hB10 hrT hqT t93 f93 t83 t83a t3a t3 c0 s0 s1 s2 s3 s4 s5 s6 s7 s8 s9 s10 s11 s12
    go_wp2_with fail
    go_still_tail 7, (by kernel_rfl)
    change wpList _ _ _ _ _ w10.drew
    go_wp2
    go_end0
    obtain ⟨cs8, hb8, hc8⟩ := HO8.out
    have z5 := hB.out.lt
    have z8 := HM8.out.size
    have z5w := hM.out.size
    have z8' := HAT8.out
    have hTl : ∀ b, b ∈ blkOf (C k).1 → b < w.heap.size := fun b hb => HR.out.lt hb
    have hg8T : g8 ∉ blkOf (C k).1 := fun h => by have := hTl g8 h; omega
    have hg9p : g9 ≠ w.heap.size := fun h => by
      rcases HG9.out with h1 | h1
      · rw [h] at h1; exact hpa.out h1
      · omega
    have hq10 := HQ9.out.mod HM11.out (fun b hb => by simp [blkOf] at hb; subst hb; simpa using hg9p)
    have hb10 : Blk w10 g8 5 cs8 := (hb8.mod HM89.out hg8T).mod HM11.out (by simp; omega)
    have hf10 : Frs w10 (g9 :: g8 :: FP) (xs ++ [.slice (some ⟨g8, 0, none⟩) fr.length cap8]) ((S.L k).q ++ [fr]) :=
      (HF.out.mod HM10.out (fun g cs _ hb => HR.out.ne_blk hb (by decide)) (fun b hb => List.mem_cons_of_mem _ (List.mem_cons_of_mem _ hb))).push (List.mem_cons_of_mem _ List.mem_cons_self) hb10 hc8
    have z9 := HL9.out
    have z89 := HM89.out.size
    have z10 := HM10.out.size
    have z11 := HM11.out.size
    have y8 := HL8.out
    have b3 := H.out.putq hk HM10.out (fun b hb => hb) (FP' := g9 :: g8 :: FP) hq10 hf10
      (fun b hb => by simp [blkOf] at hb; subst hb; exact HG9.out.imp id (fun h => by omega)) (fun b hb => List.mem_cons_of_mem _ (List.mem_cons_of_mem _ hb)) (fun b hb => by simp [blkOf] at hb; simp [hb])
      (fun b hb => by
        rcases List.mem_cons.1 hb with rfl | hb
        · omega
        · rcases List.mem_cons.1 hb with rfl | hb
          · omega
          · have := H.out.rows.old b hb; omega)
    rw [List.length_append, HQN.out] at b3
    simp only [List.length_singleton] at b3
    have a0 := b3.keep (k := k) (j := 0) (x := (S.L k).c 9) hk (by decide) (by decide) (by rw [onP_L]; rfl)
    have a1 := a0.keep (k := k) (j := 1) (x := (S.L k).c 10) hk (by decide) (by decide) (by rw [onP_L]; rfl)
    have a2 := a1.keep (k := k) (j := 2) (x := (S.L k).c 11) hk (by decide) (by decide) (by rw [onP_L]; rfl)
    rw [setCell_front _ _ _ _ _ _ _ _ _ _ (by omega) (by omega) (by omega)] at a2
    have a4 := a2.keep (k := k) (j := 4) (x := (S.L k).c 0) hk (by decide) (by decide) (by rw [onP_L]; rfl)
    have a5 := a4.keep (k := k) (j := 5) (x := (S.L k).c 1) hk (by decide) (by decide) (by rw [onP_L]; rfl)
    have a6 := a5.keep (k := k) (j := 6) (x := (S.L k).c 2) hk (by decide) (by decide) (by rw [onP_L]; rfl)
    have a7 := a6.keep (k := k) (j := 7) (x := (S.L k).c 3) hk (by decide) (by decide) (by rw [onP_L]; rfl)
    have a8 := a7.onp (i := k) hk (show 8 < 13 by decide) (by decide) (x4 + 1) (fun P => P.inc 4) (by rw [onP_L]; unfold Po.inc; rw [setq_c, EX4.out]; rfl)
    have a9 := a8.keep (k := k) (j := 9) (x := (S.L k).c 5) hk (by decide) (by decide) (by rw [onP_L, onP_L]; rfl)
    have a10 := a9.keep (k := k) (j := 10) (x := (S.L k).c 6) hk (by decide) (by decide) (by rw [onP_L, onP_L]; rfl)
    have a11 := a10.keep (k := k) (j := 11) (x := (S.L k).c 7) hk (by decide) (by decide) (by rw [onP_L, onP_L]; rfl)
    have a12 := a11.keep (k := k) (j := 12) (x := x8) hk (by decide) (by decide) (by rw [onP_L, onP_L, ← EX8.out]; rfl)
    rw [onP_onP, onP_congr (g := fun P => dirP P fr) (by unfold dirP; rw [if_neg (by rw [HQN.out]; exact hq4)]; rfl)] at a12
    have m0 := HM10.out.mono (T := FP) (fun b hb => .inl (H.out.rows.own k hk b hb))
    refine ⟨rfl, _, _, a12.drew, ⟨(((((((((((((m0.setCell (.inl H.out.rows.bpF) _).setCell (.inl H.out.rows.bpF) _).setCell (.inl H.out.rows.bpF) _).setCell (.inl H.out.rows.bpF) _).setCell (.inl H.out.rows.bpF) _).setCell (.inl H.out.rows.bpF) _).setCell (.inl H.out.rows.bpF) _).setCell (.inl H.out.rows.bpF) _).setCell (.inl H.out.rows.bpF) _).setCell (.inl H.out.rows.bpF) _).setCell (.inl H.out.rows.bpF) _).setCell (.inl H.out.rows.bpF) _).setCell (.inl H.out.rows.bpF) _).drew, fun b hb => List.mem_cons_of_mem _ (List.mem_cons_of_mem _ hb), fun b hb => ?_⟩⟩
    rcases List.mem_cons.1 hb with rfl | hb
    · rcases HG9.out with h1 | h1
      · exact .inl (H.out.rows.own k hk _ h1)
      · exact .inr (by omega)
    · rcases List.mem_cons.1 hb with rfl | hb
      · exact .inr (by omega)
      · exact .inl hb

/-- 'direct', of a frame that may wait. -/
theorem rdirect_f (h : RC w q rp A ac FP C S) {M : Int} (hM : M ≤ 1152921504606846976) {k : Nat} (hk : k < S.n) (G4 : 0 ≤ (S.L k).c 4 ∧ (S.L k).c 4 ≤ M) (G8 : 0 ≤ (S.L k).c 8 ∧ (S.L k).c 8 ≤ M) {F : Option Addr} {cf : Nat} {fr : List Int} (hA : Arg w F fr FP) (hl2 : 2 ≤ fr.length) (hl3 : fr.length ≤ 128) :
    Calls Try.prog 39 #[.pointer (some ⟨q, 0, none⟩), .int .i64 k, .slice F fr.length cf] w fun e w' => e = .returned (.tuple #[]) ∧ AftR w w' q rp A ac FP (onP S k fun P => dirP P fr) := by
  by_cases hq4 : 4 ≤ (S.L k).q.length
  · exact rdirect_full h hM hk G4 G8 hA hl2 hl3 hq4
  · exact rdirect_room h hM hk G4 G8 hA hl2 hl3 hq4

end

end Go.Proofs.Ytkdhkloabbcipaa
