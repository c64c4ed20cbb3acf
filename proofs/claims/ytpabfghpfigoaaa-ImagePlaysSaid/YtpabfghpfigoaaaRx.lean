/-
  Layer 12: the reference: Write that writes; Trim.
-/
import Derived.Test.YtpabfghpfigoaaaRw
import Derived.Deep.Cut
namespace Go.Proofs.Ytpabfghpfigoaaa
open Go.RowKit Go.Tn Go.Shelf
open Go.Proofs

section
variable {w w' : World} {r lc bb bc k m : Nat} {la : Option Addr} {d : Nat → Int} {f : Int → Option (Nat → Int)}

set_option maxRecDepth 100000 in
set_option maxHeartbeats 4000000 in
theorem rwrite_again (h : RJ w r la lc bb bc d k m f) (X : Nat) (hx : X < k) (hf : (f (X : Int)).isSome = true) (sa : Option Addr) (ca : Nat) (g : Nat → Int) (hB : Bys w sa 64 g) (hsa : ∀ b o, sa = some ⟨b, o, none⟩ → ∃ csb, Blk w b 5 csb) :
    Calls Try.prog 32 #[.pointer (some ⟨r, 0, none⟩), .int .i64 (X : Nat), .slice sa 64 ca] w fun e w' => e = .returned (.int .i64 0) ∧ RJ w' r la lc bb bc d k m (put f (X : Int) (some g)) ∧ ∃ lb cs, la = some ⟨lb, 0, none⟩ ∧ Blk w lb 27 cs ∧ Tn.Mod [r, lb] w w' := by
  have e : decide (0 ≤ (X : Int) ∧ (X : Int) < (k : Int)) = true := decide_eq_true (by omega)
  have E := hid e
  have c1 := h.blk.cell 1
  have c3 := h.blk.cell 2
  simp only [List.getElem?_toArray, List.getElem?_cons_zero, List.getElem?_cons_succ] at c1 c3
  obtain ⟨lb, cs, rfl, hb, hsz, ha⟩ := h.row (by omega)
  have H := hid h
  have hs := ha X hx
  have HROW := hid (show ∃ cs0, cs0 = cs ∧ Blk w lb 27 cs0 ∧ k ≤ cs0.size ∧ ∀ i : Nat, i < k → SlotOk w cs0[i]? (f (i : Int)) from ⟨cs, rfl, hb, hsz, ha⟩)
  have HSZ := hid hsz
  have HXK := hid hx
  have HBY := hid hB
  have HSA := hid (show ∀ b o, sa = some ⟨b, o, none⟩ → b ∉ [r, lb] from fun b o e hs => by
    obtain ⟨csb, h5⟩ := hsa b o e
    simp at hs
    rcases hs with rfl | rfl
    · exact h5.ne_ h.blk (by decide) rfl
    · exact h5.ne_ hb (by decide) rfl)
  have hxI : (X : Int) < (k : Int) := by omega
  have hk6 := h.k6
  have hXI : (X : Int) ≤ 256 := by omega
  have hnp := num_put f (X : Int) (some g) k (by omega)
  rw [hf] at hnp
  simp at hnp
  obtain ⟨g0, hg0⟩ := Option.isSome_iff_exists.1 hf
  rw [hg0] at hs
  obtain ⟨q0, c0, hs, _, _⟩ := hs
  have c2 := (hb.cell X).trans hs
  have HLE := hid (show num (put f (X : Int) (some g)) k ≤ m by rw [hnp]; exact h.le)
  have HNP := hid hnp
  have HLW := hid hb
  have HRW := hid h.blk
  have HMW := hid (Mod.refl [r, lb] w)
  clear h e hx hb hsz ha hs hf hB hsa hnp hg0
  go_enter Try.func32, Try.ntmps32
  go_wp2_with (go_at_call 37; refine (is_f H.out _).mono ?_; rw [E.out]; rintro e w' ⟨rfl, rfl⟩)
  have HX := hid (show Blk w.drew r 56 #[.slice (some ⟨bb, 0, none⟩) (64 * k : Nat) bc, .slice (some ⟨lb, 0, none⟩) k lc, .int .i64 ((m : Int) - (num f k : Nat))] from HRW.out)
  have HX1 := hid (show Blk (w.alloc (.cells #[] 5)).drew r 56 #[.slice (some ⟨bb, 0, none⟩) (64 * k : Nat) bc, .slice (some ⟨lb, 0, none⟩) k lc, .int .i64 ((m : Int) - (num f k : Nat))] from (HRW.out.mod ((Mod.refl [] w).alloc _) (by simp)).mod ((Mod.refl [] _).drew) (by simp))
  have HQ1 := hid (show Blk (w.alloc (.cells #[] 5)).drew w.heap.size 5 #[] from (Blk.new w 5 #[]))
  have HMa := hid (show Tn.Mod [r, lb] w (w.alloc (.cells #[] 5)).drew from (HMW.out.alloc _).drew)
  have HBY1 := hid (HBY.out.mod HMa.out HSA.out)
  have HLB1 := hid (show Blk (w.alloc (.cells #[] 5)).drew lb 27 cs from (HLW.out.mod ((Mod.refl [] w).alloc (.cells #[] 5)).drew (by simp)))
  have HMb := hid (show w.heap.size ≤ w.heap.size from HMW.out.size)
  refine wp_region_held_drew (S := fun w' => Blk w' r 56 #[.slice (some ⟨bb, 0, none⟩) (64 * k : Nat) bc, .slice (some ⟨lb, 0, none⟩) k lc, .int .i64 ((m : Int) - (num f k : Nat))]) (by kernel_rfl) HX.out (fun hHeld => ?_)
  refine wpAnyH_take (i := 0) (v := ?_) (drop_get rfl) (by kernel_rfl) (by kernel_rfl) (by kernel_rfl) (fun _ _ _ h => h) (Or.inl ⟨by rfl, ?_⟩) HX.out ?_
  rotate_left
  · intro w9 hS9
    have k1 := Blk.cell hS9 1
    simp only [List.getElem?_toArray, List.getElem?_cons_zero, List.getElem?_cons_succ] at k1
    go_simp
    try with_reducible rfl
  simp only [Act.put, List.setIfInBounds_toArray, List.set_cons_zero, List.set_cons_succ]
  refine wpAnyH_take (i := 1) (v := ?_) (drop_get rfl) (by kernel_rfl) (by kernel_rfl) (by kernel_rfl) (fun _ _ _ h => h) (Or.inl ⟨by rfl, ?_⟩) HX.out ?_
  rotate_left
  · intro w9 hS9
    have k1 := Blk.cell hS9 1
    simp only [List.getElem?_toArray, List.getElem?_cons_zero, List.getElem?_cons_succ] at k1
    go_simp
    try with_reducible rfl
  simp only [Act.put, List.setIfInBounds_toArray, List.set_cons_zero, List.set_cons_succ]
  refine wpAnyH_take (i := 2) (v := ?_) (drop_get rfl) (by kernel_rfl) (by kernel_rfl) (by kernel_rfl) (fun _ _ _ h => h) (Or.inl ⟨by rfl, ?_⟩) HX.out ?_
  rotate_left
  · intro w9 hS9
    have k1 := Blk.cell hS9 1
    simp only [List.getElem?_toArray, List.getElem?_cons_zero, List.getElem?_cons_succ] at k1
    go_simp
    try with_reducible rfl
  simp only [Act.put, List.setIfInBounds_toArray, List.set_cons_zero, List.set_cons_succ]
  refine wpAnyH_take (i := 3) (v := ?_) (drop_get rfl) (by kernel_rfl) (by kernel_rfl) (by kernel_rfl) (fun _ _ _ h => h) (Or.inl ⟨by rfl, ?_⟩) HX.out ?_
  rotate_left
  · intro w9 hS9
    have k1 := Blk.cell hS9 1
    simp only [List.getElem?_toArray, List.getElem?_cons_zero, List.getElem?_cons_succ] at k1
    go_simp
    try with_reducible rfl
  simp only [Act.put, List.setIfInBounds_toArray, List.set_cons_zero, List.set_cons_succ]
  refine wpAnyH_take (i := 4) (v := ?_) (drop_get rfl) (by kernel_rfl) (by kernel_rfl) (by kernel_rfl) (fun _ _ _ h => h) (Or.inl ⟨by rfl, ?_⟩) HX.out ?_
  rotate_left
  · intro w9 hS9
    have k1 := Blk.cell hS9 1
    simp only [List.getElem?_toArray, List.getElem?_cons_zero, List.getElem?_cons_succ] at k1
    go_simp
    try with_reducible rfl
  simp only [Act.put, List.setIfInBounds_toArray, List.set_cons_zero, List.set_cons_succ]
  refine wpAnyH_take (i := 6) (v := ?_) (drop_get rfl) (by kernel_rfl) (by kernel_rfl) (by kernel_rfl) (fun _ _ _ h => h) (Or.inl ⟨by rfl, ?_⟩) HX.out ?_
  rotate_left
  · intro w9 hS9
    have k1 := Blk.cell hS9 1
    simp only [List.getElem?_toArray, List.getElem?_cons_zero, List.getElem?_cons_succ] at k1
    go_simp
    try with_reducible rfl
  simp only [Act.put, List.setIfInBounds_toArray, List.set_cons_zero, List.set_cons_succ]
  refine wpAnyH_ready (rs := [5]) (by kernel_rfl) (by simp) ?_
  refine AllReadyH.cons (drop_get rfl) (fun K hK => ?_) AllReadyH.nil
  go_simp
  refine hK _ _ HX1.out ?_
  clear hK K
  intro _
  refine wpAnyH_ready (rs := [7]) (by kernel_rfl) (by simp) ?_
  refine AllReadyH.cons (drop_get rfl) (fun K hK => ?_) AllReadyH.nil
  rw [if_pos (by rfl)]
  refine wp_app5 _ _ rfl w.heap.size rfl sa 64 ca rfl g HQ1.out HBY1.out (by omega) ?_
  intro q' c' w1 g1 g2 g3 g4 g5 g6
  have hX2 := HX1.out.mod g5 (by simp; exact HX1.out.ne_ HQ1.out (by decide))
  have HX2 := hid hX2
  have hL2 := HLB1.out.mod g5 (by simp; exact HLB1.out.ne_ HQ1.out (by decide))
  have HL2 := hid hL2
  have HC := hid (Bys_cells g2 g3)
  have HC5 := hid g4
  have HMc := hid (show Tn.Mod [r, lb] w w1 from HMa.out.trans g5 (by intro s hs; simp at hs; subst hs; exact .inr HMb.out))
  refine hK _ _ hX2 (fun _ => ?_)
  have f0 := hL2.frozen X
  have hu0 : w1.cell? ⟨lb, X, none⟩ = some (cs[X]'(by have := HSZ.out; have := HXK.out; omega)) := by rw [hL2.cell]; have := HSZ.out; have := HXK.out; exact Array.getElem?_eq_getElem _
  clear hK K g1 g2 g3 g4 g5 g6 hX2 hL2
  simp only [Act.put, List.setIfInBounds_toArray, List.set_cons_zero, List.set_cons_succ]
  refine wpAnyH_take (i := 8) (v := ?_) (drop_get rfl) (by kernel_rfl) (by kernel_rfl) (by kernel_rfl) (fun _ _ _ h => h) (Or.inl ⟨by rfl, ?_⟩) HX2.out ?_
  rotate_left
  · intro w9 hS9
    have k1 := Blk.cell hS9 1
    simp only [List.getElem?_toArray, List.getElem?_cons_zero, List.getElem?_cons_succ] at k1
    go_simp
    try with_reducible rfl
  simp only [Act.put, List.setIfInBounds_toArray, List.set_cons_zero, List.set_cons_succ]
  refine wpAnyH_ready (rs := [9]) (by kernel_rfl) (by simp) ?_
  refine AllReadyH.cons (drop_get rfl) (fun K hK => ?_) AllReadyH.nil
  go_simp
  have hmS : Tn.Mod [lb] w1 (w1.setCell ⟨lb, X, none⟩ (.slice (some ⟨q', 0, none⟩) 64 c')) := (Mod.refl _ w1).setCell (.inl (by simp)) _
  have HX3 := hid (HX2.out.mod hmS (by simp; exact HX2.out.ne_ HL2.out (by decide)))
  refine hK _ _ HX3.out ?_
  clear hK K
  intro _
  refine wpAnyH_done (by kernel_rfl) ?_ _
  go_wp2
  go_ret
  have hq5 : ∃ csq, Blk (w1.setCell ⟨lb, X, none⟩ (.slice (some ⟨q', 0, none⟩) 64 c')) q' 5 csq := by
    obtain ⟨csq, h5⟩ := HC5.out
    exact ⟨csq, h5.mod hmS (by simp; exact h5.ne_ HL2.out (by decide))⟩
  have hqB : Bys (w1.setCell ⟨lb, X, none⟩ (.slice (some ⟨q', 0, none⟩) 64 c')) (some ⟨q', 0, none⟩) 64 g := HC.out.mod hmS (fun b o e => by
    cases e
    obtain ⟨csq, h5⟩ := HC5.out
    simp
    exact h5.ne_ HL2.out (by decide))
  have hmE : Tn.Mod [r, lb] w (w1.setCell ⟨lb, X, none⟩ (.slice (some ⟨q', 0, none⟩) 64 c')) := HMc.out.setCell (.inl (by simp)) _
  obtain ⟨cs0, rfl, hb, hsz, ha⟩ := HROW.out
  refine ⟨rfl, ?_, lb, _, rfl, hb, hmE⟩
  refine RJ.write (v := .slice (some ⟨q', 0, none⟩) 64 c') H.out HXK.out hb hsz ha hmE (show Blk _ r 56 _ from (by rw [HNP.out]; exact HX3.out)) ?_ ?_ (fun x hx => by unfold put; rw [if_neg hx]) HLE.out
  · have := HL2.out.set_ X (.slice (some ⟨q', 0, none⟩) 64 c')
    exact this
  · rw [put_at]
    exact ⟨q', c', rfl, hq5, hqB⟩

set_option maxRecDepth 100000 in
set_option maxHeartbeats 4000000 in
theorem rwrite_new (h : RJ w r la lc bb bc d k m f) (X : Nat) (hx : X < k) (hf : f (X : Int) = none) (hlt : num f k < m) (sa : Option Addr) (ca : Nat) (g : Nat → Int) (hB : Bys w sa 64 g) (hsa : ∀ b o, sa = some ⟨b, o, none⟩ → ∃ csb, Blk w b 5 csb) :
    Calls Try.prog 32 #[.pointer (some ⟨r, 0, none⟩), .int .i64 (X : Nat), .slice sa 64 ca] w fun e w' => e = .returned (.int .i64 0) ∧ RJ w' r la lc bb bc d k m (put f (X : Int) (some g)) ∧ ∃ lb cs, la = some ⟨lb, 0, none⟩ ∧ Blk w lb 27 cs ∧ Tn.Mod [r, lb] w w' := by
  have e : decide (0 ≤ (X : Int) ∧ (X : Int) < (k : Int)) = true := decide_eq_true (by omega)
  have E := hid e
  have c1 := h.blk.cell 1
  have c3 := h.blk.cell 2
  simp only [List.getElem?_toArray, List.getElem?_cons_zero, List.getElem?_cons_succ] at c1 c3
  obtain ⟨lb, cs, rfl, hb, hsz, ha⟩ := h.row (by omega)
  have H := hid h
  have hs := ha X hx
  have HROW := hid (show ∃ cs0, cs0 = cs ∧ Blk w lb 27 cs0 ∧ k ≤ cs0.size ∧ ∀ i : Nat, i < k → SlotOk w cs0[i]? (f (i : Int)) from ⟨cs, rfl, hb, hsz, ha⟩)
  have HSZ := hid hsz
  have HXK := hid hx
  have HBY := hid hB
  have HSA := hid (show ∀ b o, sa = some ⟨b, o, none⟩ → b ∉ [r, lb] from fun b o e hs => by
    obtain ⟨csb, h5⟩ := hsa b o e
    simp at hs
    rcases hs with rfl | rfl
    · exact h5.ne_ h.blk (by decide) rfl
    · exact h5.ne_ hb (by decide) rfl)
  have hxI : (X : Int) < (k : Int) := by omega
  have hk6 := h.k6
  have hXI : (X : Int) ≤ 256 := by omega
  have hnp := num_put f (X : Int) (some g) k (by omega)
  rw [hf] at hnp hs
  simp at hnp
  obtain ⟨ad0, c0, hs⟩ := hs
  have c2 := (hb.cell X).trans hs
  have hle := h.le
  have hm6 := h.m6
  have HLE := hid (show num (put f (X : Int) (some g)) k ≤ m by rw [hnp]; omega)
  obtain ⟨R, hR⟩ : ∃ R : Nat, (m : Int) - ((num f k : Nat) : Int) = ((R + 1 : Nat) : Int) := ⟨m - num f k - 1, by omega⟩
  have HNP := hid (show (m : Int) - ((num (put f (X : Int) (some g)) k : Nat) : Int) = (R : Int) by rw [hnp]; omega)
  have f3 := h.blk.frozen 2
  have HLW0 := hid hb
  have HRW0 := hid h.blk
  rw [hR] at c3 HRW0
  obtain ⟨R1, hR1⟩ : ∃ R1 : Nat, R + 1 = R1 := ⟨_, rfl⟩
  rw [hR1] at c3 HRW0
  have hR1n : (R1 : Int) ≠ 0 := by omega
  have hR1s : (R1 : Int) - 1 = (R : Int) := by omega
  have hR1b : (R1 : Int) ≤ 256 := by omega
  have hRb : (R : Int) ≤ 256 := by omega
  clear h e hx hb hsz ha hs hf hB hsa hnp hlt hR hR1 hle hm6
  go_enter Try.func32, Try.ntmps32
  go_wp2_with (go_at_call 37; refine (is_f H.out _).mono ?_; rw [E.out]; rintro e w' ⟨rfl, rfl⟩)
  have hmw : Tn.Mod [r] w (w.setCell ⟨r, 2, none⟩ (.int .i64 (R : Int))) := (Mod.refl _ w).setCell (.inl (by simp)) _
  have HMW := hid (show Tn.Mod [r, lb] w (w.setCell ⟨r, 2, none⟩ (.int .i64 (R : Int))) from hmw.mono (by simp))
  have HLW := hid (HLW0.out.mod hmw (by simp; exact HLW0.out.ne_ HRW0.out (by decide)))
  have HRW := hid (show Blk (w.setCell ⟨r, 2, none⟩ (.int .i64 (R : Int))) r 56 #[.slice (some ⟨bb, 0, none⟩) (64 * k : Nat) bc, .slice (some ⟨lb, 0, none⟩) k lc, .int .i64 (R : Int)] from HRW0.out.set_ 2 (.int .i64 (R : Int)))
  generalize w.setCell ⟨r, 2, none⟩ (.int .i64 (R : Int)) = W at *
  have HX := hid (show Blk W.drew r 56 #[.slice (some ⟨bb, 0, none⟩) (64 * k : Nat) bc, .slice (some ⟨lb, 0, none⟩) k lc, .int .i64 (R : Int)] from HRW.out)
  have HX1 := hid (show Blk (W.alloc (.cells #[] 5)).drew r 56 #[.slice (some ⟨bb, 0, none⟩) (64 * k : Nat) bc, .slice (some ⟨lb, 0, none⟩) k lc, .int .i64 (R : Int)] from (HRW.out.mod ((Mod.refl [] W).alloc _) (by simp)).mod ((Mod.refl [] _).drew) (by simp))
  have HQ1 := hid (show Blk (W.alloc (.cells #[] 5)).drew W.heap.size 5 #[] from (Blk.new W 5 #[]))
  have HMa := hid (show Tn.Mod [r, lb] w (W.alloc (.cells #[] 5)).drew from (HMW.out.alloc _).drew)
  have HBY1 := hid (HBY.out.mod HMa.out HSA.out)
  have HLB1 := hid (show Blk (W.alloc (.cells #[] 5)).drew lb 27 cs from (HLW.out.mod ((Mod.refl [] W).alloc (.cells #[] 5)).drew (by simp)))
  have HMb := hid (show w.heap.size ≤ W.heap.size from HMW.out.size)
  refine wp_region_held_drew (S := fun w' => Blk w' r 56 #[.slice (some ⟨bb, 0, none⟩) (64 * k : Nat) bc, .slice (some ⟨lb, 0, none⟩) k lc, .int .i64 (R : Int)]) (by kernel_rfl) HX.out (fun hHeld => ?_)
  refine wpAnyH_take (i := 0) (v := ?_) (drop_get rfl) (by kernel_rfl) (by kernel_rfl) (by kernel_rfl) (fun _ _ _ h => h) (Or.inl ⟨by rfl, ?_⟩) HX.out ?_
  rotate_left
  · intro w9 hS9
    have k1 := Blk.cell hS9 1
    simp only [List.getElem?_toArray, List.getElem?_cons_zero, List.getElem?_cons_succ] at k1
    go_simp
    try with_reducible rfl
  simp only [Act.put, List.setIfInBounds_toArray, List.set_cons_zero, List.set_cons_succ]
  refine wpAnyH_take (i := 1) (v := ?_) (drop_get rfl) (by kernel_rfl) (by kernel_rfl) (by kernel_rfl) (fun _ _ _ h => h) (Or.inl ⟨by rfl, ?_⟩) HX.out ?_
  rotate_left
  · intro w9 hS9
    have k1 := Blk.cell hS9 1
    simp only [List.getElem?_toArray, List.getElem?_cons_zero, List.getElem?_cons_succ] at k1
    go_simp
    try with_reducible rfl
  simp only [Act.put, List.setIfInBounds_toArray, List.set_cons_zero, List.set_cons_succ]
  refine wpAnyH_take (i := 2) (v := ?_) (drop_get rfl) (by kernel_rfl) (by kernel_rfl) (by kernel_rfl) (fun _ _ _ h => h) (Or.inl ⟨by rfl, ?_⟩) HX.out ?_
  rotate_left
  · intro w9 hS9
    have k1 := Blk.cell hS9 1
    simp only [List.getElem?_toArray, List.getElem?_cons_zero, List.getElem?_cons_succ] at k1
    go_simp
    try with_reducible rfl
  simp only [Act.put, List.setIfInBounds_toArray, List.set_cons_zero, List.set_cons_succ]
  refine wpAnyH_take (i := 3) (v := ?_) (drop_get rfl) (by kernel_rfl) (by kernel_rfl) (by kernel_rfl) (fun _ _ _ h => h) (Or.inl ⟨by rfl, ?_⟩) HX.out ?_
  rotate_left
  · intro w9 hS9
    have k1 := Blk.cell hS9 1
    simp only [List.getElem?_toArray, List.getElem?_cons_zero, List.getElem?_cons_succ] at k1
    go_simp
    try with_reducible rfl
  simp only [Act.put, List.setIfInBounds_toArray, List.set_cons_zero, List.set_cons_succ]
  refine wpAnyH_take (i := 4) (v := ?_) (drop_get rfl) (by kernel_rfl) (by kernel_rfl) (by kernel_rfl) (fun _ _ _ h => h) (Or.inl ⟨by rfl, ?_⟩) HX.out ?_
  rotate_left
  · intro w9 hS9
    have k1 := Blk.cell hS9 1
    simp only [List.getElem?_toArray, List.getElem?_cons_zero, List.getElem?_cons_succ] at k1
    go_simp
    try with_reducible rfl
  simp only [Act.put, List.setIfInBounds_toArray, List.set_cons_zero, List.set_cons_succ]
  refine wpAnyH_take (i := 6) (v := ?_) (drop_get rfl) (by kernel_rfl) (by kernel_rfl) (by kernel_rfl) (fun _ _ _ h => h) (Or.inl ⟨by rfl, ?_⟩) HX.out ?_
  rotate_left
  · intro w9 hS9
    have k1 := Blk.cell hS9 1
    simp only [List.getElem?_toArray, List.getElem?_cons_zero, List.getElem?_cons_succ] at k1
    go_simp
    try with_reducible rfl
  simp only [Act.put, List.setIfInBounds_toArray, List.set_cons_zero, List.set_cons_succ]
  refine wpAnyH_ready (rs := [5]) (by kernel_rfl) (by simp) ?_
  refine AllReadyH.cons (drop_get rfl) (fun K hK => ?_) AllReadyH.nil
  go_simp
  refine hK _ _ HX1.out ?_
  clear hK K
  intro _
  refine wpAnyH_ready (rs := [7]) (by kernel_rfl) (by simp) ?_
  refine AllReadyH.cons (drop_get rfl) (fun K hK => ?_) AllReadyH.nil
  rw [if_pos (by rfl)]
  refine wp_app5 _ _ rfl W.heap.size rfl sa 64 ca rfl g HQ1.out HBY1.out (by omega) ?_
  intro q' c' w1 g1 g2 g3 g4 g5 g6
  have hX2 := HX1.out.mod g5 (by simp; exact HX1.out.ne_ HQ1.out (by decide))
  have HX2 := hid hX2
  have hL2 := HLB1.out.mod g5 (by simp; exact HLB1.out.ne_ HQ1.out (by decide))
  have HL2 := hid hL2
  have HC := hid (Bys_cells g2 g3)
  have HC5 := hid g4
  have HMc := hid (show Tn.Mod [r, lb] w w1 from HMa.out.trans g5 (by intro s hs; simp at hs; subst hs; exact .inr HMb.out))
  refine hK _ _ hX2 (fun _ => ?_)
  have f0 := hL2.frozen X
  have hu0 : w1.cell? ⟨lb, X, none⟩ = some (cs[X]'(by have := HSZ.out; have := HXK.out; omega)) := by rw [hL2.cell]; have := HSZ.out; have := HXK.out; exact Array.getElem?_eq_getElem _
  clear hK K g1 g2 g3 g4 g5 g6 hX2 hL2
  simp only [Act.put, List.setIfInBounds_toArray, List.set_cons_zero, List.set_cons_succ]
  refine wpAnyH_take (i := 8) (v := ?_) (drop_get rfl) (by kernel_rfl) (by kernel_rfl) (by kernel_rfl) (fun _ _ _ h => h) (Or.inl ⟨by rfl, ?_⟩) HX2.out ?_
  rotate_left
  · intro w9 hS9
    have k1 := Blk.cell hS9 1
    simp only [List.getElem?_toArray, List.getElem?_cons_zero, List.getElem?_cons_succ] at k1
    go_simp
    try with_reducible rfl
  simp only [Act.put, List.setIfInBounds_toArray, List.set_cons_zero, List.set_cons_succ]
  refine wpAnyH_ready (rs := [9]) (by kernel_rfl) (by simp) ?_
  refine AllReadyH.cons (drop_get rfl) (fun K hK => ?_) AllReadyH.nil
  go_simp
  have hmS : Tn.Mod [lb] w1 (w1.setCell ⟨lb, X, none⟩ (.slice (some ⟨q', 0, none⟩) 64 c')) := (Mod.refl _ w1).setCell (.inl (by simp)) _
  have HX3 := hid (HX2.out.mod hmS (by simp; exact HX2.out.ne_ HL2.out (by decide)))
  refine hK _ _ HX3.out ?_
  clear hK K
  intro _
  refine wpAnyH_done (by kernel_rfl) ?_ _
  go_wp2
  go_ret
  have hq5 : ∃ csq, Blk (w1.setCell ⟨lb, X, none⟩ (.slice (some ⟨q', 0, none⟩) 64 c')) q' 5 csq := by
    obtain ⟨csq, h5⟩ := HC5.out
    exact ⟨csq, h5.mod hmS (by simp; exact h5.ne_ HL2.out (by decide))⟩
  have hqB : Bys (w1.setCell ⟨lb, X, none⟩ (.slice (some ⟨q', 0, none⟩) 64 c')) (some ⟨q', 0, none⟩) 64 g := HC.out.mod hmS (fun b o e => by
    cases e
    obtain ⟨csq, h5⟩ := HC5.out
    simp
    exact h5.ne_ HL2.out (by decide))
  have hmE : Tn.Mod [r, lb] w (w1.setCell ⟨lb, X, none⟩ (.slice (some ⟨q', 0, none⟩) 64 c')) := HMc.out.setCell (.inl (by simp)) _
  obtain ⟨cs0, rfl, hb, hsz, ha⟩ := HROW.out
  refine ⟨rfl, ?_, lb, _, rfl, hb, hmE⟩
  refine RJ.write (v := .slice (some ⟨q', 0, none⟩) 64 c') H.out HXK.out hb hsz ha hmE (show Blk _ r 56 _ from (by rw [HNP.out]; exact HX3.out)) ?_ ?_ (fun x hx => by unfold put; rw [if_neg hx]) HLE.out
  · have := HL2.out.set_ X (.slice (some ⟨q', 0, none⟩) 64 c')
    exact this
  · rw [put_at]
    exact ⟨q', c', rfl, hq5, hqB⟩

/-- Write, whatever is given. -/
theorem rwrite_j (h : RJ w r la lc bb bc d k m f) (x : Int) (sa : Option Addr) (len ca : Nat) (g : Nat → Int) (hB : Bys w sa len g) (hsa : ∀ b o, sa = some ⟨b, o, none⟩ → ∃ csb, Blk w b 5 csb) :
    Calls Try.prog 32 #[.pointer (some ⟨r, 0, none⟩), .int .i64 x, .slice sa len ca] w fun e w' => e = .returned (.int .i64 (wrE k m f x len)) ∧ RJ w' r la lc bb bc d k m (wrF k m f x len g) ∧ (w' = w ∨ ∃ lb cs, la = some ⟨lb, 0, none⟩ ∧ Blk w lb 27 cs ∧ Tn.Mod [r, lb] w w') := by
  unfold wrF
  by_cases hx : 0 ≤ x ∧ x < k
  · by_cases hl : len = 64
    · subst hl
      obtain ⟨X, rfl⟩ := Int.eq_ofNat_of_zero_le hx.1
      have hX : X < k := by omega
      by_cases hf : (f (X : Int)).isSome = true
      · have e : wrE k m f (X : Int) 64 = 0 := by unfold wrE; rw [if_neg (by simpa using hx), if_neg (by simp), if_neg (by rw [hf]; simp)]
        rw [e, if_pos rfl]
        exact (rwrite_again h X hX hf sa ca g hB hsa).mono fun e w' ⟨h1, h2, h3⟩ => ⟨h1, h2, .inr h3⟩
      · have hf0 : f (X : Int) = none := by simpa using hf
        have hf1 : (f (X : Int)).isSome = false := by rw [hf0]; rfl
        by_cases hn : num f k = m
        · have e : wrE k m f (X : Int) 64 = 71 := by unfold wrE; rw [if_neg (by simpa using hx), if_neg (by simp), if_pos ⟨hf1, hn⟩]
          rw [e, if_neg (by decide)]
          exact (rwrite_full h X hX hf0 hn sa ca).mono fun e w' ⟨h1, h2⟩ => ⟨h1, h2 ▸ h, .inl h2.symm⟩
        · have e : wrE k m f (X : Int) 64 = 0 := by unfold wrE; rw [if_neg (by simpa using hx), if_neg (by simp), if_neg (by simp [hn])]
          rw [e, if_pos rfl]
          exact (rwrite_new h X hX hf0 (by have := h.le; omega) sa ca g hB hsa).mono fun e w' ⟨h1, h2, h3⟩ => ⟨h1, h2, .inr h3⟩
    · have e : wrE k m f x len = 1 := by unfold wrE; rw [if_neg (by simpa using hx), if_pos hl]
      rw [e, if_neg (by decide)]
      exact (rwrite_len h x hx sa len ca hl).mono fun e w' ⟨h1, h2⟩ => ⟨h1, h2 ▸ h, .inl h2.symm⟩
  · have e : wrE k m f x len = 1 := by unfold wrE; rw [if_pos hx]
    rw [e, if_neg (by decide)]
    exact (rwrite_out h x hx _).mono fun e w' ⟨h1, h2⟩ => ⟨h1, h2 ▸ h, .inl h2.symm⟩
end
end Go.Proofs.Ytpabfghpfigoaaa
