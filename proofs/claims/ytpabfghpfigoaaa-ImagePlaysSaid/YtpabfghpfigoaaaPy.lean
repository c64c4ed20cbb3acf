/-
  Layer 12: play: one call of both.
-/
import Derived.Test.YtpabfghpfigoaaaTw
import Derived.Test.YtpabfghpfigoaaaBaseW
namespace Go.Proofs.Ytpabfghpfigoaaa
open Go.RowKit Go.Tn Go.Shelf
open Go.Proofs

section
variable {w0 w : World} {p mb B r lc bb bc k m : Nat} {la : Option Addr} {d : Nat → Int} {f : Int → Option (Nat → Int)}

set_option maxRecDepth 100000 in
set_option maxHeartbeats 4000000 in
theorem play_0 (h : TW w0 w p mb B r la lc bb bc d k m f) (y z u : Int) (F : Option Addr) (cf : Nat) (fr : List Int) (hF : Bytes w F fr) (hL : fr.length ≤ 140737488351232) :
    Calls Try.prog 21 #[.pointer (some ⟨p, 0, none⟩), .pointer (some ⟨r, 0, none⟩), .agg #[.int .i64 0, .int .i64 y, .int .i64 z, .int .u8 u, .slice F fr.length cf]] w fun e w' => e = .returned (.bool true) ∧ ∃ f', TW w0 w' p mb B r la lc bb bc d k m f' := by
  have hal : Tn.Mod [] w (w.alloc (.cells #[.int .i64 0, .int .i64 y, .int .i64 z, .int .u8 u, .slice F fr.length cf] 29)) := (Mod.refl [] w).alloc _
  have H := hid (h.mod0 hal)
  have HX := hid (Blk.new w 29 #[.int .i64 0, .int .i64 y, .int .i64 z, .int .u8 u, .slice F fr.length cf])
  have HBY := hid ((Bytes_bys hF).mod hal (by simp))
  have HL := hid hL
  have HWB := hid (show w.heap.size < (w.alloc (.cells #[.int .i64 0, .int .i64 y, .int .i64 z, .int .u8 u, .slice F fr.length cf] 29)).heap.size by simp)
  obtain ⟨c0, c1, c2, c3, c4⟩ := box_cells HX.out
  clear h hF hL hal
  obtain ⟨LN, hLN⟩ : ∃ LN, rdLen k y = LN := ⟨_, rfl⟩
  obtain ⟨E0, hE0⟩ : ∃ E0, secE k y = E0 := ⟨_, rfl⟩
  obtain ⟨gg, hgg⟩ : ∃ gg, cur d f y.toNat = gg := ⟨_, rfl⟩
  have HLN := hid hLN
  have HE0 := hid hE0
  have HGG := hid hgg
  clear hLN hE0 hgg
  go_enter Try.func21, Try.ntmps21
  go_wp2_with (first
    | (go_at_call 14; refine (xread H.out.x y).mono ?_
       rw [HLN.out, HE0.out, HGG.out]
       rintro e w2 ⟨a1, q1, rfl, hb1, hm1⟩
       have HB1 := hid hb1
       have HX := hid (HX.out.mod hm1 (by simp))
       have H := hid (H.out.mod0 hm1)
       obtain ⟨d0, d1, d2, d3, d4⟩ := box_cells HX.out
       clear hb1 hm1)
    | (go_at_call 31; refine (yread H.out.y y).mono ?_
       rw [HLN.out, HE0.out, HGG.out]
       rintro e w3 ⟨a2, q2, rfl, hb2, hm2⟩
       have hv1 := str_of (HB1.out.mod hm2 (by simp)) q1
       have hv2 := str_of hb2 q2
       have H := hid (H.out.mod0 hm2)
       clear hb2 hm2))
  go_ret
  exact ⟨by simp, f, H.out⟩

set_option maxRecDepth 100000 in
set_option maxHeartbeats 4000000 in
theorem play_4 (x : Int) (h0 : x ≠ 0) (h1 : x ≠ 1) (h2 : x ≠ 2) (h3 : x ≠ 3) (h : TW w0 w p mb B r la lc bb bc d k m f) (y z u : Int) (F : Option Addr) (cf : Nat) (fr : List Int) (hF : Bytes w F fr) (hL : fr.length ≤ 140737488351232) :
    Calls Try.prog 21 #[.pointer (some ⟨p, 0, none⟩), .pointer (some ⟨r, 0, none⟩), .agg #[.int .i64 x, .int .i64 y, .int .i64 z, .int .u8 u, .slice F fr.length cf]] w fun e w' => e = .returned (.bool true) ∧ ∃ f', TW w0 w' p mb B r la lc bb bc d k m f' := by
  have e0 : decide (x = 0) = false := decide_eq_false h0
  have e1 : decide (x = 1) = false := decide_eq_false h1
  have e2 : decide (x = 2) = false := decide_eq_false h2
  have e3 : decide (x = 3) = false := decide_eq_false h3
  have hal : Tn.Mod [] w (w.alloc (.cells #[.int .i64 x, .int .i64 y, .int .i64 z, .int .u8 u, .slice F fr.length cf] 29)) := (Mod.refl [] w).alloc _
  have H := hid (h.mod0 hal)
  have HX := hid (Blk.new w 29 #[.int .i64 x, .int .i64 y, .int .i64 z, .int .u8 u, .slice F fr.length cf])
  have HBY := hid ((Bytes_bys hF).mod hal (by simp))
  have HL := hid hL
  have HWB := hid (show w.heap.size < (w.alloc (.cells #[.int .i64 x, .int .i64 y, .int .i64 z, .int .u8 u, .slice F fr.length cf] 29)).heap.size by simp)
  obtain ⟨c0, c1, c2, c3, c4⟩ := box_cells HX.out
  clear h hF hL hal
  obtain ⟨LN, hLN⟩ : ∃ LN, rdLen k y = LN := ⟨_, rfl⟩
  obtain ⟨E0, hE0⟩ : ∃ E0, secE k y = E0 := ⟨_, rfl⟩
  obtain ⟨gg, hgg⟩ : ∃ gg, (fun j => d (64 * y.toNat + j)) = gg := ⟨_, rfl⟩
  have HLN := hid hLN
  have HE0 := hid hE0
  have HGG := hid hgg
  clear hLN hE0 hgg
  go_enter Try.func21, Try.ntmps21
  go_wp2_with (first
    | (go_at_call 15; refine (xbase H.out.x y).mono ?_
       rw [HLN.out, HE0.out, HGG.out]
       rintro e w2 ⟨a1, q1, rfl, hb1, hm1⟩
       have HB1 := hid hb1
       have HX := hid (HX.out.mod hm1 (by simp))
       have H := hid (H.out.mod0 hm1)
       obtain ⟨d0, d1, d2, d3, d4⟩ := box_cells HX.out
       clear hb1 hm1)
    | (go_at_call 35; refine (ybase H.out.y y).mono ?_
       rw [HLN.out, HE0.out, HGG.out]
       rintro e w3 ⟨a2, q2, rfl, hb2, hm2⟩
       have hv1 := str_of (HB1.out.mod hm2 (by simp)) q1
       have hv2 := str_of hb2 q2
       have H := hid (H.out.mod0 hm2)
       clear hb2 hm2))
  go_ret
  exact ⟨by simp, f, H.out⟩

set_option maxRecDepth 100000 in
set_option maxHeartbeats 4000000 in
theorem play_3 (h : TW w0 w p mb B r la lc bb bc d k m f) (y z u : Int) (F : Option Addr) (cf : Nat) (fr : List Int) (hF : Bytes w F fr) (hL : fr.length ≤ 140737488351232) :
    Calls Try.prog 21 #[.pointer (some ⟨p, 0, none⟩), .pointer (some ⟨r, 0, none⟩), .agg #[.int .i64 3, .int .i64 y, .int .i64 z, .int .u8 u, .slice F fr.length cf]] w fun e w' => e = .returned (.bool true) ∧ ∃ f', TW w0 w' p mb B r la lc bb bc d k m f' := by
  have hal : Tn.Mod [] w (w.alloc (.cells #[.int .i64 3, .int .i64 y, .int .i64 z, .int .u8 u, .slice F fr.length cf] 29)) := (Mod.refl [] w).alloc _
  have H := hid (h.mod0 hal)
  have HX := hid (Blk.new w 29 #[.int .i64 3, .int .i64 y, .int .i64 z, .int .u8 u, .slice F fr.length cf])
  have HBY := hid ((Bytes_bys hF).mod hal (by simp))
  have HL := hid hL
  have HWB := hid (show w.heap.size < (w.alloc (.cells #[.int .i64 3, .int .i64 y, .int .i64 z, .int .u8 u, .slice F fr.length cf] 29)).heap.size by simp)
  obtain ⟨c0, c1, c2, c3, c4⟩ := box_cells HX.out
  clear h hF hL hal
  obtain ⟨V1, hV1⟩ : ∃ V, needN f k y z = V := ⟨_, rfl⟩
  obtain ⟨V2, hV2⟩ : ∃ V, needE k y z = V := ⟨_, rfl⟩
  have HV1 := hid hV1
  have HV2 := hid hV2
  clear hV1 hV2
  go_enter Try.func21, Try.ntmps21
  go_wp2_with (first
    | (go_at_call 12; refine (xneed H.out.x y z).mono ?_
       rw [HV1.out, HV2.out]
       rintro e w2 ⟨rfl, hm1⟩
       have HX := hid (HX.out.mod hm1 (by simp))
       have H := hid (H.out.mod0 hm1)
       obtain ⟨d0, d1, d2, d3, d4⟩ := box_cells HX.out
       clear hm1)
    | (go_at_call 34; refine (yneed H.out.y y z).mono ?_
       rw [HV1.out, HV2.out]
       rintro e w3 ⟨rfl, hm2⟩
       have H := hid (H.out.mod0 hm2)
       clear hm2))
  go_ret
  exact ⟨by simp, f, H.out⟩

set_option maxRecDepth 100000 in
set_option maxHeartbeats 4000000 in
theorem play_2 (h : TW w0 w p mb B r la lc bb bc d k m f) (y z u : Int) (F : Option Addr) (cf : Nat) (fr : List Int) (hF : Bytes w F fr) (hL : fr.length ≤ 140737488351232) :
    Calls Try.prog 21 #[.pointer (some ⟨p, 0, none⟩), .pointer (some ⟨r, 0, none⟩), .agg #[.int .i64 2, .int .i64 y, .int .i64 z, .int .u8 u, .slice F fr.length cf]] w fun e w' => e = .returned (.bool true) ∧ ∃ f', TW w0 w' p mb B r la lc bb bc d k m f' := by
  have hal : Tn.Mod [] w (w.alloc (.cells #[.int .i64 2, .int .i64 y, .int .i64 z, .int .u8 u, .slice F fr.length cf] 29)) := (Mod.refl [] w).alloc _
  have H := hid (h.mod0 hal)
  have HX := hid (Blk.new w 29 #[.int .i64 2, .int .i64 y, .int .i64 z, .int .u8 u, .slice F fr.length cf])
  have HBY := hid ((Bytes_bys hF).mod hal (by simp))
  have HL := hid hL
  have HWB := hid (show w.heap.size < (w.alloc (.cells #[.int .i64 2, .int .i64 y, .int .i64 z, .int .u8 u, .slice F fr.length cf] 29)).heap.size by simp)
  obtain ⟨c0, c1, c2, c3, c4⟩ := box_cells HX.out
  clear h hF hL hal
  obtain ⟨E0, hE0⟩ : ∃ E0, secE k y = E0 := ⟨_, rfl⟩
  have HSE := hid hE0
  clear hE0
  go_enter Try.func21, Try.ntmps21
  have hdr : Tn.Mod [] (w.alloc (.cells #[.int .i64 2, .int .i64 y, .int .i64 z, .int .u8 u, .slice F fr.length cf] 29)) (w.alloc (.cells #[.int .i64 2, .int .i64 y, .int .i64 z, .int .u8 u, .slice F fr.length cf] 29)).drew := (Mod.refl [] _).drew
  have HX := hid (show Blk (w.alloc (.cells #[.int .i64 2, .int .i64 y, .int .i64 z, .int .u8 u, .slice F fr.length cf] 29)).drew w.heap.size 29 #[.int .i64 2, .int .i64 y, .int .i64 z, .int .u8 u, .slice F fr.length cf] from HX.out)
  have H := hid (H.out.mod0 hdr)
  have HBY := hid (HBY.out.mod hdr (by simp))
  have HGE := hid (show w.heap.size < (w.alloc (.cells #[.int .i64 2, .int .i64 y, .int .i64 z, .int .u8 u, .slice F fr.length cf] 29)).drew.heap.size from HWB.out)
  clear hdr
  go_wp2_with fail
  refine wp_region_held_drew (S := fun w' => Blk w' w.heap.size 29 #[.int .i64 2, .int .i64 y, .int .i64 z, .int .u8 u, .slice F fr.length cf]) (by kernel_rfl) HX.out (fun hHeld => ?_)
  refine wpAnyH_take (i := 0) (v := ?_) (drop_get rfl) (by kernel_rfl) (by kernel_rfl) (by kernel_rfl) (fun _ _ _ h => h) (Or.inl ⟨by rfl, ?_⟩) HX.out ?_
  rotate_left
  · intro w9 hS9
    obtain ⟨k0, k1, k2, k3, k4⟩ := box_cells hS9
    go_simp
    try with_reducible rfl
  simp only [Act.put, List.setIfInBounds_toArray, List.set_cons_zero, List.set_cons_succ]
  refine wpAnyH_take (i := 1) (v := ?_) (drop_get rfl) (by kernel_rfl) (by kernel_rfl) (by kernel_rfl) (fun _ _ _ h => h) (Or.inl ⟨by rfl, ?_⟩) HX.out ?_
  rotate_left
  · intro w9 hS9
    obtain ⟨k0, k1, k2, k3, k4⟩ := box_cells hS9
    go_simp
    try with_reducible rfl
  simp only [Act.put, List.setIfInBounds_toArray, List.set_cons_zero, List.set_cons_succ]
  refine wpAnyH_take (i := 2) (v := ?_) (drop_get rfl) (by kernel_rfl) (by kernel_rfl) (by kernel_rfl) (fun _ _ _ h => h) (Or.inl ⟨by rfl, ?_⟩) HX.out ?_
  rotate_left
  · intro w9 hS9
    obtain ⟨k0, k1, k2, k3, k4⟩ := box_cells hS9
    go_simp
    try with_reducible rfl
  simp only [Act.put, List.setIfInBounds_toArray, List.set_cons_zero, List.set_cons_succ]
  refine wpAnyH_take (i := 4) (v := ?_) (drop_get rfl) (by kernel_rfl) (by kernel_rfl) (by kernel_rfl) (fun _ _ _ h => h) (Or.inl ⟨by rfl, ?_⟩) HX.out ?_
  rotate_left
  · intro w9 hS9
    obtain ⟨k0, k1, k2, k3, k4⟩ := box_cells hS9
    go_simp
    try with_reducible rfl
  simp only [Act.put, List.setIfInBounds_toArray, List.set_cons_zero, List.set_cons_succ]
  refine wpAnyH_take (i := 5) (v := ?_) (drop_get rfl) (by kernel_rfl) (by kernel_rfl) (by kernel_rfl) (fun _ _ _ h => h) (Or.inl ⟨by rfl, ?_⟩) HX.out ?_
  rotate_left
  · intro w9 hS9
    obtain ⟨k0, k1, k2, k3, k4⟩ := box_cells hS9
    go_simp
    try with_reducible rfl
  simp only [Act.put, List.setIfInBounds_toArray, List.set_cons_zero, List.set_cons_succ]
  refine wpAnyH_take (i := 6) (v := ?_) (drop_get rfl) (by kernel_rfl) (by kernel_rfl) (by kernel_rfl) (fun _ _ _ h => h) (Or.inl ⟨by rfl, ?_⟩) HX.out ?_
  rotate_left
  · intro w9 hS9
    obtain ⟨k0, k1, k2, k3, k4⟩ := box_cells hS9
    go_simp
    try with_reducible rfl
  simp only [Act.put, List.setIfInBounds_toArray, List.set_cons_zero, List.set_cons_succ]
  refine wpAnyH_ready (rs := [3]) (by kernel_rfl) (by simp) ?_
  refine AllReadyH.cons (drop_get rfl) (fun K hK => ?_) AllReadyH.nil
  go_simp
  go_at_call 9
  refine (trim_j H.out.x y).mono ?_
  rw [HSE.out]
  rintro e w2 ⟨rfl, hJ, hm1⟩
  have HX := hid (HX.out.mod hm1 (by simp; exact HX.out.ne_map H.out.x.im.is.imap))
  have HA := hid (H.out.after_x hJ hm1)
  have HJ := hid hJ
  clear hJ hm1
  refine hK _ _ HX.out ?_
  clear hK K
  intro _
  refine wpAnyH_ready (rs := [7]) (by kernel_rfl) (by simp) ?_
  refine AllReadyH.cons (drop_get rfl) (fun K hK => ?_) AllReadyH.nil
  go_simp
  go_at_call 33
  refine (rtrim_j HA.out.1 y).mono ?_
  rw [HSE.out]
  rintro e w3 ⟨rfl, hR, hm2⟩
  have HT := hid (TW.after_r HJ.out HA.out.2 HA.out.1 hR hm2 H.out.mbg H.out.rg H.out.lg)
  have HX := hid (show Blk w3 w.heap.size 29 #[.int .i64 2, .int .i64 y, .int .i64 z, .int .u8 u, .slice F fr.length cf] from by
    rcases hm2 with rfl | ⟨lb, cs, e, hb, hm2⟩
    · exact HX.out
    · refine HX.out.mod hm2 (fun hs => ?_)
      simp at hs
      rcases hs with e | e
      · exact HX.out.ne_ HA.out.1.blk (by decide) e
      · exact HX.out.ne_ hb (by decide) e)
  clear hR hm2
  refine hK _ _ HX.out ?_
  clear hK K
  intro _
  refine wpAnyH_take (i := 8) (v := ?_) (drop_get rfl) (by kernel_rfl) (by kernel_rfl) (by kernel_rfl) (fun _ _ _ h => h) (Or.inl ⟨by rfl, ?_⟩) HX.out ?_
  rotate_left
  · intro w9 hS9
    obtain ⟨k0, k1, k2, k3, k4⟩ := box_cells hS9
    go_simp
    try with_reducible rfl
  simp only [Act.put, List.setIfInBounds_toArray, List.set_cons_zero, List.set_cons_succ]
  refine wpAnyH_take (i := 9) (v := ?_) (drop_get rfl) (by kernel_rfl) (by kernel_rfl) (by kernel_rfl) (fun _ _ _ h => h) (Or.inl ⟨by rfl, ?_⟩) HX.out ?_
  rotate_left
  · intro w9 hS9
    obtain ⟨k0, k1, k2, k3, k4⟩ := box_cells hS9
    go_simp
    try with_reducible rfl
  simp only [Act.put, List.setIfInBounds_toArray, List.set_cons_zero, List.set_cons_succ]
  refine wpAnyH_done (by kernel_rfl) ?_ _
  go_wp2
  go_ret
  exact ⟨by simp, _, HT.out⟩

set_option maxRecDepth 100000 in
set_option maxHeartbeats 4000000 in
theorem play_1 (h : TW w0 w p mb B r la lc bb bc d k m f) (y z u : Int) (F : Option Addr) (cf : Nat) (fr : List Int) (hF : Bytes w F fr) (hFm : 0 < fr.length → ∀ b o, F = some ⟨b, o, none⟩ → b < w0.heap.size) (hL : fr.length ≤ 140737488351232) :
    Calls Try.prog 21 #[.pointer (some ⟨p, 0, none⟩), .pointer (some ⟨r, 0, none⟩), .agg #[.int .i64 1, .int .i64 y, .int .i64 z, .int .u8 u, .slice F fr.length cf]] w fun e w' => e = .returned (.bool true) ∧ ∃ f', TW w0 w' p mb B r la lc bb bc d k m f' := by
  have HFM := hid hFm
  have hal : Tn.Mod [] w (w.alloc (.cells #[.int .i64 1, .int .i64 y, .int .i64 z, .int .u8 u, .slice F fr.length cf] 29)) := (Mod.refl [] w).alloc _
  have H := hid (h.mod0 hal)
  have HX := hid (Blk.new w 29 #[.int .i64 1, .int .i64 y, .int .i64 z, .int .u8 u, .slice F fr.length cf])
  have HBY := hid ((Bytes_bys hF).mod hal (by simp))
  have HL := hid hL
  have HWB := hid (show w.heap.size < (w.alloc (.cells #[.int .i64 1, .int .i64 y, .int .i64 z, .int .u8 u, .slice F fr.length cf] 29)).heap.size by simp)
  obtain ⟨c0, c1, c2, c3, c4⟩ := box_cells HX.out
  clear h hF hL hal
  obtain ⟨E0, hE0⟩ : ∃ E0, wrE k m f y (opLen fr.length) = E0 := ⟨_, rfl⟩
  have HWE := hid hE0
  clear hE0 hFm
  go_enter Try.func21, Try.ntmps21
  have hdr : Tn.Mod [] (w.alloc (.cells #[.int .i64 1, .int .i64 y, .int .i64 z, .int .u8 u, .slice F fr.length cf] 29)) (w.alloc (.cells #[.int .i64 1, .int .i64 y, .int .i64 z, .int .u8 u, .slice F fr.length cf] 29)).drew := (Mod.refl [] _).drew
  have HX := hid (show Blk (w.alloc (.cells #[.int .i64 1, .int .i64 y, .int .i64 z, .int .u8 u, .slice F fr.length cf] 29)).drew w.heap.size 29 #[.int .i64 1, .int .i64 y, .int .i64 z, .int .u8 u, .slice F fr.length cf] from HX.out)
  have H := hid (H.out.mod0 hdr)
  have HBY := hid (HBY.out.mod hdr (by simp))
  have HGE := hid (show w.heap.size < (w.alloc (.cells #[.int .i64 1, .int .i64 y, .int .i64 z, .int .u8 u, .slice F fr.length cf] 29)).drew.heap.size from HWB.out)
  clear hdr
  go_wp2_with fail
  refine wp_region_held_drew (S := fun w' => Blk w' w.heap.size 29 #[.int .i64 1, .int .i64 y, .int .i64 z, .int .u8 u, .slice F fr.length cf]) (by kernel_rfl) HX.out (fun hHeld => ?_)
  refine wpAnyH_take (i := 0) (v := ?_) (drop_get rfl) (by kernel_rfl) (by kernel_rfl) (by kernel_rfl) (fun _ _ _ h => h) (Or.inl ⟨by rfl, ?_⟩) HX.out ?_
  rotate_left
  · intro w9 hS9
    obtain ⟨k0, k1, k2, k3, k4⟩ := box_cells hS9
    go_simp
    try with_reducible rfl
  simp only [Act.put, List.setIfInBounds_toArray, List.set_cons_zero, List.set_cons_succ]
  refine wpAnyH_take (i := 1) (v := ?_) (drop_get rfl) (by kernel_rfl) (by kernel_rfl) (by kernel_rfl) (fun _ _ _ h => h) (Or.inl ⟨by rfl, ?_⟩) HX.out ?_
  rotate_left
  · intro w9 hS9
    obtain ⟨k0, k1, k2, k3, k4⟩ := box_cells hS9
    go_simp
    try with_reducible rfl
  simp only [Act.put, List.setIfInBounds_toArray, List.set_cons_zero, List.set_cons_succ]
  refine wpAnyH_take (i := 2) (v := ?_) (drop_get rfl) (by kernel_rfl) (by kernel_rfl) (by kernel_rfl) (fun _ _ _ h => h) (Or.inl ⟨by rfl, ?_⟩) HX.out ?_
  rotate_left
  · intro w9 hS9
    obtain ⟨k0, k1, k2, k3, k4⟩ := box_cells hS9
    go_simp
    try with_reducible rfl
  simp only [Act.put, List.setIfInBounds_toArray, List.set_cons_zero, List.set_cons_succ]
  refine wpAnyH_take (i := 3) (v := ?_) (drop_get rfl) (by kernel_rfl) (by kernel_rfl) (by kernel_rfl) (fun _ _ _ h => h) (Or.inl ⟨by rfl, ?_⟩) HX.out ?_
  rotate_left
  · intro w9 hS9
    obtain ⟨k0, k1, k2, k3, k4⟩ := box_cells hS9
    go_simp
    try with_reducible rfl
  simp only [Act.put, List.setIfInBounds_toArray, List.set_cons_zero, List.set_cons_succ]
  refine wpAnyH_take (i := 6) (v := ?_) (drop_get rfl) (by kernel_rfl) (by kernel_rfl) (by kernel_rfl) (fun _ _ _ h => h) (Or.inl ⟨by rfl, ?_⟩) HX.out ?_
  rotate_left
  · intro w9 hS9
    obtain ⟨k0, k1, k2, k3, k4⟩ := box_cells hS9
    go_simp
    try with_reducible rfl
  simp only [Act.put, List.setIfInBounds_toArray, List.set_cons_zero, List.set_cons_succ]
  refine wpAnyH_take (i := 7) (v := ?_) (drop_get rfl) (by kernel_rfl) (by kernel_rfl) (by kernel_rfl) (fun _ _ _ h => h) (Or.inl ⟨by rfl, ?_⟩) HX.out ?_
  rotate_left
  · intro w9 hS9
    obtain ⟨k0, k1, k2, k3, k4⟩ := box_cells hS9
    go_simp
    try with_reducible rfl
  simp only [Act.put, List.setIfInBounds_toArray, List.set_cons_zero, List.set_cons_succ]
  refine wpAnyH_take (i := 8) (v := ?_) (drop_get rfl) (by kernel_rfl) (by kernel_rfl) (by kernel_rfl) (fun _ _ _ h => h) (Or.inl ⟨by rfl, ?_⟩) HX.out ?_
  rotate_left
  · intro w9 hS9
    obtain ⟨k0, k1, k2, k3, k4⟩ := box_cells hS9
    go_simp
    try with_reducible rfl
  simp only [Act.put, List.setIfInBounds_toArray, List.set_cons_zero, List.set_cons_succ]
  refine wpAnyH_take (i := 9) (v := ?_) (drop_get rfl) (by kernel_rfl) (by kernel_rfl) (by kernel_rfl) (fun _ _ _ h => h) (Or.inl ⟨by rfl, ?_⟩) HX.out ?_
  rotate_left
  · intro w9 hS9
    obtain ⟨k0, k1, k2, k3, k4⟩ := box_cells hS9
    go_simp
    try with_reducible rfl
  simp only [Act.put, List.setIfInBounds_toArray, List.set_cons_zero, List.set_cons_succ]
  refine wpAnyH_ready (rs := [4]) (by kernel_rfl) (by simp) ?_
  refine AllReadyH.cons (drop_get rfl) (fun K hK => ?_) AllReadyH.nil
  go_simp
  go_at_call 11
  refine (bytes_f _ _ _ u F fr.length cf (fun j => fr.getD j 0) _ HBY.out HL.out).mono ?_
  rintro e w2 ⟨q, cq, rfl, hc3, hq1, hq2, hq3, hm3⟩
  have HC := hid (Bys_cells hq2 hc3)
  have HC2 := hid hc3
  have HQ3 := hid hq2
  have HQ5 := hid hq3
  have HX := hid (HX.out.mod hm3 (by simp))
  have H := hid (H.out.mod0 hm3)
  have HBY := hid (HBY.out.mod hm3 (by simp))
  clear hc3 hq1 hq2 hq3 hm3
  refine hK _ _ HX.out ?_
  clear hK K
  intro _
  refine wpAnyH_ready (rs := [5]) (by kernel_rfl) (by simp) ?_
  refine AllReadyH.cons (drop_get rfl) (fun K hK => ?_) AllReadyH.nil
  go_simp
  go_at_call 10
  refine (write_j H.out.x y q 0 _ cq (opG u fr.length (fun j => fr.getD j 0)) HQ3.out (fun j hj => by rw [Nat.zero_add]; exact HC2.out j hj)).mono ?_
  rw [HWE.out]
  rintro e w4 ⟨rfl, hJ, hm4⟩
  have HX := hid (HX.out.mod hm4 (by simp; exact HX.out.ne_map H.out.x.im.is.imap))
  have HBY := hid (show Bys w4 F fr.length (fun j => fr.getD j 0) from fun h0 => (HBY.out.mod hm4 (fun b o e hb => by
    simp at hb
    have h8 := HFM.out h0 b o e
    have h7 := H.out.mbg
    omega)) h0)
  have HA := hid (H.out.after_x hJ hm4)
  have HJ := hid hJ
  clear hJ hm4
  refine hK _ _ HX.out ?_
  clear hK K
  intro _
  refine wpAnyH_ready (rs := [10]) (by kernel_rfl) (by simp) ?_
  refine AllReadyH.cons (drop_get rfl) (fun K hK => ?_) AllReadyH.nil
  go_simp
  go_at_call 11
  refine (bytes_f _ _ _ u F fr.length cf (fun j => fr.getD j 0) _ HBY.out HL.out).mono ?_
  rintro e w5 ⟨q, cq, rfl, hc3, hq1, hq2, hq3, hm3⟩
  have HC := hid (Bys_cells hq2 hc3)
  have HC2 := hid hc3
  have HQ3 := hid hq2
  have HQ5 := hid hq3
  have HX := hid (HX.out.mod hm3 (by simp))
  have HA := hid (show RJ w5 r la lc bb bc d k m f ∧ Tn.Mod [] w0 w5 from ⟨HA.out.1.mod0 hm3, HA.out.2.andThen hm3⟩)
  have HJ := hid (HJ.out.mod0 hm3)
  clear hc3 hq1 hq2 hq3 hm3
  refine hK _ _ HX.out ?_
  clear hK K
  intro _
  refine wpAnyH_ready (rs := [11]) (by kernel_rfl) (by simp) ?_
  refine AllReadyH.cons (drop_get rfl) (fun K hK => ?_) AllReadyH.nil
  go_simp
  go_at_call 32
  refine (rwrite_j HA.out.1 y (some ⟨q, 0, none⟩) _ cq (opG u fr.length (fun j => fr.getD j 0)) HC.out (fun b o e => by cases e; exact HQ5.out)).mono ?_
  rw [HWE.out]
  rintro e w6 ⟨rfl, hR, hm2⟩
  have HT := hid (TW.after_r HJ.out HA.out.2 HA.out.1 hR hm2 H.out.mbg H.out.rg H.out.lg)
  have HX := hid (show Blk w6 w.heap.size 29 #[.int .i64 1, .int .i64 y, .int .i64 z, .int .u8 u, .slice F fr.length cf] from by
    rcases hm2 with rfl | ⟨lb, cs, e, hb, hm2⟩
    · exact HX.out
    · refine HX.out.mod hm2 (fun hs => ?_)
      simp at hs
      rcases hs with e | e
      · exact HX.out.ne_ HA.out.1.blk (by decide) e
      · exact HX.out.ne_ hb (by decide) e)
  clear hR hm2
  refine hK _ _ HX.out ?_
  clear hK K
  intro _
  refine wpAnyH_take (i := 12) (v := ?_) (drop_get rfl) (by kernel_rfl) (by kernel_rfl) (by kernel_rfl) (fun _ _ _ h => h) (Or.inl ⟨by rfl, ?_⟩) HX.out ?_
  rotate_left
  · intro w9 hS9
    obtain ⟨k0, k1, k2, k3, k4⟩ := box_cells hS9
    go_simp
    try with_reducible rfl
  simp only [Act.put, List.setIfInBounds_toArray, List.set_cons_zero, List.set_cons_succ]
  refine wpAnyH_take (i := 13) (v := ?_) (drop_get rfl) (by kernel_rfl) (by kernel_rfl) (by kernel_rfl) (fun _ _ _ h => h) (Or.inl ⟨by rfl, ?_⟩) HX.out ?_
  rotate_left
  · intro w9 hS9
    obtain ⟨k0, k1, k2, k3, k4⟩ := box_cells hS9
    go_simp
    try with_reducible rfl
  simp only [Act.put, List.setIfInBounds_toArray, List.set_cons_zero, List.set_cons_succ]
  refine wpAnyH_done (by kernel_rfl) ?_ _
  go_wp2
  go_ret
  exact ⟨by simp, _, HT.out⟩

theorem play_f (h : TW w0 w p mb B r la lc bb bc d k m f) (x y z u : Int) (F : Option Addr) (cf : Nat) (fr : List Int) (hF : Bytes w F fr) (hFm : 0 < fr.length → ∀ b o, F = some ⟨b, o, none⟩ → b < w0.heap.size) (hL : fr.length ≤ 140737488351232) :
    Calls Try.prog 21 #[.pointer (some ⟨p, 0, none⟩), .pointer (some ⟨r, 0, none⟩), .agg #[.int .i64 x, .int .i64 y, .int .i64 z, .int .u8 u, .slice F fr.length cf]] w fun e w' => e = .returned (.bool true) ∧ ∃ f', TW w0 w' p mb B r la lc bb bc d k m f' := by
  by_cases h0 : x = 0
  · subst h0; exact play_0 h y z u F cf fr hF hL
  by_cases h1 : x = 1
  · subst h1; exact play_1 h y z u F cf fr hF hFm hL
  by_cases h2 : x = 2
  · subst h2; exact play_2 h y z u F cf fr hF hL
  by_cases h3 : x = 3
  · subst h3; exact play_3 h y z u F cf fr hF hL
  exact play_4 x h0 h1 h2 h3 h y z u F cf fr hF hL
end
end Go.Proofs.Ytpabfghpfigoaaa
