/-
  Layer 12: image.New: it ranges over slices.Chunk.
-/
import Derived.Test.YtpabfghpfigoaaaIm
import Derived.Test.YtpabfghpfigoaaaReg
namespace Go.Proofs.Ytpabfghpfigoaaa
open Go.RowKit Go.Tn Go.Shelf
open Go.Proofs
attribute [local go_sem] Oper.semAt_some
attribute [-simp] Try.isAgg62 Try.sizeOf62
attribute [-go_sem] Instr.buildSlice Builtin.append_

set_option maxRecDepth 100000 in
set_option maxHeartbeats 4000000 in
theorem new_ok (b off k cap m : Nat) (d : Nat → Int) (w : World) (hk : k ≤ 256) (hm : m ≤ 256) (hcap : 64 * k ≤ cap) (hb : b < w.heap.size) (hrow : ∀ i, i < k → w.rangeAt b (off + 64 * i) (sec d i).toList) :
    Calls Try.prog 8 #[.slice (some ⟨b, off, none⟩) (64 * k : Nat) cap, .int .i64 (m : Nat)] w fun e w' => e = .returned (.tuple #[.pointer (some ⟨w.heap.size + 1, 0, none⟩), .int .i64 0]) ∧
      ∃ v, NewI w m d (upto id k) v w' := by
  refine (callsIn_wide (n := 6)).1 ?_
  have hmm := @run_makeMap Try.prog
  have h0 : ((64 * k : Nat) : Int).tmod 64 = 0 := by rw [Int.tmod_eq_emod_of_nonneg (by omega)]; omega
  have d1 : decide ((16384 : Int) < 64 * (k : Int)) = false := by simp; omega
  have d2 : decide ((m : Int) < 0) = false := by simp
  have d3 : decide ((256 : Int) < (m : Int)) = false := by simp; omega
  refine callsIn_of_wp_marks Try.func8 rfl trivial ?_ rfl
  simp only [Try.ntmps8, List.size_toArray, List.length_cons, List.length_nil, Nat.reduceAdd, Nat.reduceSub, Array.replicate_succ, Array.replicate_zero, List.push_toArray, List.append_toArray, List.nil_append, List.cons_append]
  gi_wp2_with (refine ⟨trivial, ?_⟩; gi_at_call 24; refine (callsIn_wide.2 (chunk_f _ _ _ _ _ rfl)).mono ?_; rintro e w1 ⟨rfl, hw1⟩)
  clear d1 d2 d3 h0
  have hsz : ∃ W0, (((((w.alloc (Obj.map #[] 0)).alloc (Obj.cells #[Value.bool true, Value.slice none 0 0, Value.map (some w.heap.size), Value.int IntKind.i64 ↑m] 40)).alloc (Obj.cells #[Value.pointer (some { block := w.heap.size + 1, off := 0 })] 23)).alloc (Obj.cells #[Value.slice (some { block := b, off := off }) (64 * k) cap] 27)).alloc (Obj.cells #[Value.int IntKind.i64 64] 3)) = W0 ∧ W0.heap.size = w.heap.size + 5 ∧ NewI w m d [] (.slice none 0 0) W0 ∧
      W0.cell? ⟨w.heap.size + 1 + 1 + 1, 0, none⟩ = some (.slice (some ⟨b, off, none⟩) (64 * k : Nat) cap) ∧ W0.cell? ⟨w.heap.size + 1 + 1 + 1 + 1, 0, none⟩ = some (.int .i64 64) := by
    refine ⟨_, rfl, by simp, ⟨?_, ?_, ?_, ?_, ?_, ?_⟩, ?_, ?_⟩
    · have := ((((Blk.new (w.alloc (Obj.map #[] 0)) 40 #[Value.bool true, Value.slice none 0 0, Value.map (some w.heap.size), Value.int IntKind.i64 ↑m]))))
      simp only [World.size_alloc] at this
      exact Blk.mod (S := []) this ((((Mod.refl [] _).alloc _).alloc _).alloc _) (by simp)
    · have := Blk.new ((w.alloc (Obj.map #[] 0)).alloc (Obj.cells #[Value.bool true, Value.slice none 0 0, Value.map (some w.heap.size), Value.int IntKind.i64 ↑m] 40)) 23 #[Value.pointer (some { block := w.heap.size + 1, off := 0 })]
      simp only [World.size_alloc] at this
      exact Blk.mod (S := []) this (((Mod.refl [] _).alloc _).alloc _) (by simp)
    · exact ⟨by unfold flatL; simp, .inl ⟨rfl, rfl⟩⟩
    · have h1 := World.alloc_heap_new w (Obj.map #[] 0)
      have h2 : Tn.Mod [] (w.alloc (Obj.map #[] 0)) (((((w.alloc (Obj.map #[] 0)).alloc (Obj.cells #[Value.bool true, Value.slice none 0 0, Value.map (some w.heap.size), Value.int IntKind.i64 ↑m] 40)).alloc (Obj.cells #[Value.pointer (some { block := w.heap.size + 1, off := 0 })] 23)).alloc (Obj.cells #[Value.slice (some { block := b, off := off }) (64 * k) cap] 27)).alloc (Obj.cells #[Value.int IntKind.i64 64] 3)) := ((((Mod.refl [] _).alloc _).alloc _).alloc _).alloc _
      exact (h2.block _ (by simp) (by simp)).trans h1
    · exact (((((Mod.refl [] w).alloc _).alloc _).alloc _).alloc _).alloc _
    · simp
    · simp [go_sem]
    · simp [go_sem]
  obtain ⟨W0, hW0, hsz, hN0, hc1, hc2⟩ := hsz
  rw [hW0]
  clear hW0 hmm
  refine wpIn_rangeFunc_ownG rfl (by omega) (gf := 36) (lb := #[.pointer (some ⟨w.heap.size + 1 + 1 + 1, 0, none⟩), .pointer (some ⟨w.heap.size + 1 + 1 + 1 + 1, 0, none⟩)]) rfl trivial (enters_of Try.func36 (by kernel_rfl) rfl)
    (chunk_stops 5 (by omega) (w.heap.size + 1 + 1 + 1) (w.heap.size + 1 + 1 + 1 + 1) b off k cap hk hcap W0 (by omega) (by omega) hc1 hc2) KB.trans (KB.book (by omega) (by omega)) (Below.refl _ _) (fun _ => rfl)
    (fun pre W => ∃ v, NewI w m d (pre.map Fin.val) v W)
    (fun _ _ _ => False)
    (fun s A B row hs hg hr => by obtain ⟨v, hv⟩ := hs; exact ⟨v, hv.turn hg (fun r e => by have := hr r e; rw [hsz] at this; exact this)⟩)
    (fun _ _ _ _ _ hs _ _ => hs)
    ⟨_, hN0⟩
    (fun x => { tmps := #[Value.slice (some { block := b, off := off }) (64 * k) cap, Value.int IntKind.i64 ↑m, undef, undef,
          Value.pointer none, Value.int IntKind.i64 0, Value.pointer (some { block := w.heap.size + 1 + 1, off := 0 }),
          chunkAt b off x.1, Value.bool false, Value.slice (some { block := b, off := off }) (64 * k) cap,
          Value.int IntKind.i64 (64 * ↑k), Value.bool false, Value.bool false,
          Value.slice (some { block := b, off := off }) (64 * k) cap, Value.int IntKind.i64 (64 * ↑k),
          Value.int IntKind.i64 0, Value.bool false, Value.bool false, Value.int IntKind.i64 ↑m, Value.bool false,
          Value.bool false, Value.bool false, Value.int IntKind.i64 ↑m, Value.bool false, Value.bool false,
          Value.map (some w.heap.size), Value.int IntKind.i64 ↑m,
          Value.agg #[Value.bool true, Value.slice none 0 0, Value.map (some w.heap.size), Value.int IntKind.i64 ↑m],
          Value.pointer (some { block := w.heap.size + 1, off := 0 }),
          Value.slice (some { block := b, off := off }) (64 * k) cap,
          Value.func (Fn.func 36) #[]
            #[Value.pointer (some { block := w.heap.size + 1 + 1 + 1, off := 0 }),
              Value.pointer (some { block := w.heap.size + 1 + 1 + 1 + 1, off := 0 })],
          chunkAt b off x.1, undef, undef, undef, undef, undef, undef, undef, undef, undef, undef, undef, undef, undef], defers := [] }) ?assign ?body ?done ?stop
  case assign =>
    intro l x W K hK
    gi_wp2
    exact hK
  case body =>
    rintro l pre x W ⟨v, hN⟩ hlen
    dsimp only [chunkAt]
    obtain ⟨hb1, hb2, hrw, hmp, hmd, hW5⟩ := id hN
    have hra : W.drew.rangeAt b (off + 64 * x.1) (sec d x.1).toList := fun j u hj => (hmd.drew.cell (p := ⟨b, _, none⟩) hb (by simp)).trans (hrow x.1 x.2 j u hj)
    have r1 := cells_sec hra
    have r0 := isAgg62'
    have r2 := arrayAt62
    have r3 := fun w => build37 (sec d x.1) (sec_size _ _) w
    have g1 : Blk W.drew (w.heap.size + 1) 40 _ := hb1
    have g2 : Blk W.drew (w.heap.size + 1 + 1) 23 _ := hb2
    have hm2 : Tn.Mod [] W.drew (W.alloc (.cells (sec d x.1) 62)).drew := (Mod.refl [] W.drew).alloc (.cells (sec d x.1) 62)
    have k1 := g1.mod hm2 (by simp)
    have k2 := g2.mod hm2 (by simp)
    obtain ⟨c', q, w', hap, hown', hgr⟩ := append62 (w := (W.alloc (.cells (sec d x.1) 62)).drew) (ownsRow_turn (row := none) hrw ⟨rfl, rfl, rfl, by simp, fun i hi _ => hm2.block i hi (by simp)⟩ (fun r e => by cases e)) (sec d x.1) (sec_size _ _) (sec_one _ _) W.heap.size (Blk.new W.drew 62 _) (by simp; omega) (by simp; omega)
    have hne1 : some (w.heap.size + 1) ≠ v.ownBlock := fun e => by have := (ownsRow_ge hrw _ e.symm).1; omega
    have hne2 : some (w.heap.size + 1 + 1) ≠ v.ownBlock := fun e => by have := (ownsRow_ge hrw _ e.symm).1; omega
    have hfin := NewI.step (x := x.1) (B := W0.heap.size) hN (by omega) (sec d x.1) hown' hgr
    simp only [List.length_map] at hfin
    have hrw0 := hrw
    clear hN hrw hmp hmd
    have j1 : Blk w' (w.heap.size + 1) 40 _ := k1.of_heap (hgr.block _ k1.lt hne1)
    have j2 : Blk w' (w.heap.size + 1 + 1) 23 _ := k2.of_heap (hgr.block _ k2.lt hne2)
    have a1 := g2.cell 0
    have a2 := g1.cell 1
    have a3 := k2.cell 0
    have a4 := k1.cell 1
    have a5 := j2.cell 0
    have a6 := j1.cell 1
    have a7 := j1.frozen 1
    simp only [List.getElem?_toArray, List.getElem?_cons_zero, List.getElem?_cons_succ] at a1 a2 a3 a4 a5 a6
    simp only [List.length_map] at hap
    gi_wp2
    refine wpIn_region_plainL (S := fun w' => w'.cell? ⟨w.heap.size + 1 + 1, 0, none⟩ = some (.pointer (some ⟨w.heap.size + 1, 0, none⟩)) ∧ w'.rangeAt b (off + 64 * x.1) (sec d x.1).toList) (by kernel_rfl) ?_ ?_
    · refine List.forall_mem_cons.2 ⟨plain_load _ _ rfl, List.forall_mem_cons.2 ⟨plain_load _ _ rfl, List.forall_mem_cons.2 ⟨plain_nil _ rfl, List.forall_mem_cons.2 ⟨plain_field _ _ _ rfl, List.forall_mem_cons.2 ⟨plain_load _ _ rfl, List.forall_mem_cons.2 ⟨plain_move _ rfl, List.forall_mem_cons.2 ⟨plain_arr _ _ rfl, List.forall_mem_cons.2 ⟨plain_load _ _ rfl, List.forall_mem_cons.2 ⟨plain_bslice _ _ _ rfl, List.forall_mem_cons.2 ⟨plain_append _ _ rfl, List.forall_mem_cons.2 ⟨plain_nil _ rfl, List.forall_mem_cons.2 ⟨plain_field _ _ _ rfl, List.forall_mem_cons.2 ⟨plain_store _ _ _ rfl, fun _ h => by cases h⟩⟩⟩⟩⟩⟩⟩⟩⟩⟩⟩⟩⟩
    have hS0 : (fun w' : World => w'.cell? ⟨w.heap.size + 1 + 1, 0, none⟩ = some (.pointer (some ⟨w.heap.size + 1, 0, none⟩)) ∧ w'.rangeAt b (off + 64 * x.1) (sec d x.1).toList) W.drew := ⟨a1, hra⟩
    refine wpAnyH_take (i := 0) (v := ?_) rfl (by kernel_rfl) (by kernel_rfl) (by kernel_rfl) (fun _ _ _ h => h) (Or.inl ⟨by rfl, ?_⟩) hS0 ?_
    rotate_left
    · intro w9 hS9
      have k9 := hS9.1
      have k8 := cells_sec hS9.2
      go_simp
      try with_reducible rfl
    simp only [Act.put, List.setIfInBounds_toArray, List.set_cons_zero, List.set_cons_succ]
    refine wpAnyH_take (i := 1) (v := ?_) rfl (by kernel_rfl) (by kernel_rfl) (by kernel_rfl) (fun _ _ _ h => h) (Or.inl ⟨by rfl, ?_⟩) hS0 ?_
    rotate_left
    · intro w9 hS9
      have k9 := hS9.1
      have k8 := cells_sec hS9.2
      go_simp
      try with_reducible rfl
    simp only [Act.put, List.setIfInBounds_toArray, List.set_cons_zero, List.set_cons_succ]
    refine wpAnyH_take (i := 2) (v := ?_) rfl (by kernel_rfl) (by kernel_rfl) (by kernel_rfl) (fun _ _ _ h => h) (Or.inl ⟨by rfl, ?_⟩) hS0 ?_
    rotate_left
    · intro w9 hS9
      have k9 := hS9.1
      have k8 := cells_sec hS9.2
      go_simp
      try with_reducible rfl
    simp only [Act.put, List.setIfInBounds_toArray, List.set_cons_zero, List.set_cons_succ]
    refine wpAnyH_take (i := 3) (v := ?_) rfl (by kernel_rfl) (by kernel_rfl) (by kernel_rfl) (fun _ _ _ h => h) (Or.inl ⟨by rfl, ?_⟩) hS0 ?_
    rotate_left
    · intro w9 hS9
      have k9 := hS9.1
      have k8 := cells_sec hS9.2
      go_simp
      try with_reducible rfl
    simp only [Act.put, List.setIfInBounds_toArray, List.set_cons_zero, List.set_cons_succ]
    refine wpAnyH_take (i := 5) (v := ?_) rfl (by kernel_rfl) (by kernel_rfl) (by kernel_rfl) (fun _ _ _ h => h) (Or.inl ⟨by rfl, ?_⟩) hS0 ?_
    rotate_left
    · intro w9 hS9
      have k9 := hS9.1
      have k8 := cells_sec hS9.2
      go_simp
      try with_reducible rfl
    simp only [Act.put, List.setIfInBounds_toArray, List.set_cons_zero, List.set_cons_succ]
    refine wpAnyH_take (i := 6) (v := ?_) rfl (by kernel_rfl) (by kernel_rfl) (by kernel_rfl) (fun _ _ _ h => h) (Or.inl ⟨by rfl, ?_⟩) hS0 ?_
    rotate_left
    · intro w9 hS9
      have k9 := hS9.1
      have k8 := cells_sec hS9.2
      go_simp
      try with_reducible rfl
    simp only [Act.put, List.setIfInBounds_toArray, List.set_cons_zero, List.set_cons_succ]
    refine wpAnyH_take (i := 7) (v := ?_) rfl (by kernel_rfl) (by kernel_rfl) (by kernel_rfl) (fun _ _ _ h => h) (Or.inl ⟨by rfl, ?_⟩) hS0 ?_
    rotate_left
    · intro w9 hS9
      have k9 := hS9.1
      have k8 := cells_sec hS9.2
      go_simp
      try with_reducible rfl
    simp only [Act.put, List.setIfInBounds_toArray, List.set_cons_zero, List.set_cons_succ]
    have hne3 : some b ≠ v.ownBlock := fun e => by have := (ownsRow_ge hrw0 _ e.symm).1; omega
    have hS1 : (fun w' : World => w'.cell? ⟨w.heap.size + 1 + 1, 0, none⟩ = some (.pointer (some ⟨w.heap.size + 1, 0, none⟩)) ∧ w'.rangeAt b (off + 64 * x.1) (sec d x.1).toList) (W.alloc (.cells (sec d x.1) 62)).drew := ⟨a3, fun j u hj => (hm2.cell (p := ⟨b, _, none⟩) (show b < W.drew.heap.size from (show b < W.heap.size by omega)) (by simp)).trans (hra j u hj)⟩
    have hS2 : (fun w' : World => w'.cell? ⟨w.heap.size + 1 + 1, 0, none⟩ = some (.pointer (some ⟨w.heap.size + 1, 0, none⟩)) ∧ w'.rangeAt b (off + 64 * x.1) (sec d x.1).toList) w' := ⟨a5, fun j u hj => (World.cell?_of_block (w := (W.alloc (.cells (sec d x.1) 62)).drew) (hgr.block b (show b < (W.alloc (.cells (sec d x.1) 62)).heap.size by rw [World.size_alloc]; omega) hne3)).trans (hS1.2 j u hj)⟩
    have hm3 : Tn.Mod [w.heap.size + 1] w' (w'.setCell ⟨w.heap.size + 1, 1, none⟩ (.slice (some ⟨q, 0, none⟩) (pre.length + 1) c')) := (Mod.refl _ w').setCell (.inl (by simp)) _
    have hsz3 : W.heap.size < w'.heap.size := by have h8 : (W.alloc (.cells (sec d x.1) 62)).heap.size ≤ w'.heap.size := hgr.size; rw [World.size_alloc] at h8; omega
    have hS3 : (fun w' : World => w'.cell? ⟨w.heap.size + 1 + 1, 0, none⟩ = some (.pointer (some ⟨w.heap.size + 1, 0, none⟩)) ∧ w'.rangeAt b (off + 64 * x.1) (sec d x.1).toList) (w'.setCell ⟨w.heap.size + 1, 1, none⟩ (.slice (some ⟨q, 0, none⟩) (pre.length + 1) c')) := ⟨(hm3.cell (p := ⟨w.heap.size + 1 + 1, 0, none⟩) (by simp; omega) (by simp)).trans a5, fun j u hj => (hm3.cell (p := ⟨b, _, none⟩) (by simp; omega) (by simp; omega)).trans (hS2.2 j u hj)⟩
    refine wpAnyH_ready (rs := [4, 8]) (by kernel_rfl) (by simp) ?_
    refine AllReadyH.cons rfl (fun K hK => ?_) (AllReadyH.cons rfl (fun K hK => ?_) AllReadyH.nil)
    · -- the slice is read, then the array is laid
      go_simp
      refine hK _ _ hS0 ?_
      clear hK K
      intro _
      refine wpAnyH_ready (rs := [8]) (by kernel_rfl) (by simp) ?_
      refine AllReadyH.cons rfl (fun K hK => ?_) AllReadyH.nil
      go_simp
      refine hK _ _ hS1 ?_
      clear hK K
      intro _
      refine wpAnyH_ready (rs := [9]) (by kernel_rfl) (by simp) ?_
      refine AllReadyH.cons rfl (fun K hK => ?_) AllReadyH.nil
      go_simp
      refine hK _ _ hS2 ?_
      clear hK K
      intro _
      refine wpAnyH_take (i := 10) (v := ?_) rfl (by kernel_rfl) (by kernel_rfl) (by kernel_rfl) (fun _ _ _ h => h) (Or.inl ⟨by rfl, ?_⟩) hS2 ?_
      rotate_left
      · intro w9 hS9
        go_simp
        try with_reducible rfl
      simp only [Act.put, List.setIfInBounds_toArray, List.set_cons_zero, List.set_cons_succ]
      refine wpAnyH_take (i := 11) (v := ?_) rfl (by kernel_rfl) (by kernel_rfl) (by kernel_rfl) (fun _ _ _ h => h) (Or.inl ⟨by rfl, ?_⟩) hS2 ?_
      rotate_left
      · intro w9 hS9
        go_simp
        try with_reducible rfl
      simp only [Act.put, List.setIfInBounds_toArray, List.set_cons_zero, List.set_cons_succ]
      refine wpAnyH_ready (rs := [12]) (by kernel_rfl) (by simp) ?_
      refine AllReadyH.cons rfl (fun K hK => ?_) AllReadyH.nil
      go_simp
      refine hK _ _ hS3 ?_
      clear hK K
      intro _
      refine wpAnyH_done (by kernel_rfl) ?_ _
      exact ⟨hfin.1, hfin.2.1, _, by rw [List.map_append]; exact hfin.2.2⟩
    · -- the array is laid, then the slice is read
      go_simp
      refine hK _ _ hS1 ?_
      clear hK K
      intro _
      refine wpAnyH_ready (rs := [4]) (by kernel_rfl) (by simp) ?_
      refine AllReadyH.cons rfl (fun K hK => ?_) AllReadyH.nil
      go_simp
      refine hK _ _ hS1 ?_
      clear hK K
      intro _
      refine wpAnyH_ready (rs := [9]) (by kernel_rfl) (by simp) ?_
      refine AllReadyH.cons rfl (fun K hK => ?_) AllReadyH.nil
      go_simp
      refine hK _ _ hS2 ?_
      clear hK K
      intro _
      refine wpAnyH_take (i := 10) (v := ?_) rfl (by kernel_rfl) (by kernel_rfl) (by kernel_rfl) (fun _ _ _ h => h) (Or.inl ⟨by rfl, ?_⟩) hS2 ?_
      rotate_left
      · intro w9 hS9
        go_simp
        try with_reducible rfl
      simp only [Act.put, List.setIfInBounds_toArray, List.set_cons_zero, List.set_cons_succ]
      refine wpAnyH_take (i := 11) (v := ?_) rfl (by kernel_rfl) (by kernel_rfl) (by kernel_rfl) (fun _ _ _ h => h) (Or.inl ⟨by rfl, ?_⟩) hS2 ?_
      rotate_left
      · intro w9 hS9
        go_simp
        try with_reducible rfl
      simp only [Act.put, List.setIfInBounds_toArray, List.set_cons_zero, List.set_cons_succ]
      refine wpAnyH_ready (rs := [12]) (by kernel_rfl) (by simp) ?_
      refine AllReadyH.cons rfl (fun K hK => ?_) AllReadyH.nil
      go_simp
      refine hK _ _ hS3 ?_
      clear hK K
      intro _
      refine wpAnyH_done (by kernel_rfl) ?_ _
      exact ⟨hfin.1, hfin.2.1, _, by rw [List.map_append]; exact hfin.2.2⟩
  case done =>
    rintro D ys W hD hys ⟨v, hN⟩ hK
    have cx := hN.2.1.cell 0
    gi_wp2
    refine ⟨by simp, .inl ⟨_, _, rfl, run_takeDeferred hK, ?_⟩⟩
    refine ⟨_, results_tmp2 rfl _ _ _, rfl, v, ?_⟩
    rw [← hys]
    exact hN.turn (grownBy_putObj' _ D _) (fun r e => by cases e; exact ⟨by omega, _, hK, rfl⟩)
  case stop =>
    rintro D c pre W _ _ h _
    exact h.elim
end Go.Proofs.Ytpabfghpfigoaaa
