/-
  Layer 12: Base and Read.
-/
import Derived.Test.YtpabfghpfigoaaaMc
namespace Go.Proofs.Ytpabfghpfigoaaa
open Go.RowKit Go.Tn
open Go.Proofs

theorem flat_at (d : Nat → Int) (k n : Nat) (hn : n < 64 * k) : (flat d k)[n]? = some (.int .u8 (d n)) := by
  unfold flat; simp [hn]
theorem sec_list_at (d : Nat → Int) (i j : Nat) (u : Value) (h : (sec d i).toList[j]? = some u) : j < 64 ∧ u = .int .u8 (d (64 * i + j)) := by
  have hj : j < 64 := by have := (List.getElem?_eq_some_iff.1 h).1; simpa [sec_size] using this
  have h2 := sec_at d i j hj
  rw [← Array.getElem?_toList] at h2
  rw [h2] at h
  exact ⟨hj, (Option.some.inj h).symm⟩

section
variable {w : World} {p mb B k m : Nat} {d : Nat → Int} {f : Int → Option (Nat → Int)}

theorem IM.base (h : IM w p mb B d k m f) (x : Nat) (hx : x < k) : ∃ g cap, Blk w p 40 #[.bool true, .slice (some ⟨g, 0, none⟩) k cap, .map (some mb), .int .i64 (m : Nat)] ∧ g < w.heap.size ∧ w.rangeAt g (x * 64) (sec d x).toList := by
  obtain ⟨⟨a, cap, hb, ho⟩, _, _, _⟩ := h
  obtain ⟨hl, ⟨_, h0⟩ | ⟨g, cap', cur, he, h2, h3, h4, h5, h6, h7⟩⟩ := ho
  · omega
  · cases he
    refine ⟨g, cap, hb, (Array.getElem?_eq_some_iff.1 h3).1, fun j u hj => ?_⟩
    obtain ⟨hj2, rfl⟩ := sec_list_at _ _ _ _ hj
    have hc : w.cell? ⟨g, x * 64 + j, none⟩ = cur[x * 64 + j]? := cell_of_row w g _ cur 62 (0, 0) h3
    rw [hc]
    have h8 := flat_at d k (x * 64 + j) (by omega)
    rw [← h7, List.getElem?_take, if_pos (by omega), Array.getElem?_toList] at h8
    rw [h8, show x * 64 + j = 64 * x + j by omega]

set_option maxHeartbeats 1000000 in
theorem base_f (h : IM w p mb B d k m f) (x : Nat) (hx : x < k) (hk : k ≤ 256) : Calls Try.prog 15 #[.pointer (some ⟨p, 0, none⟩), .int .i64 (x : Nat)] w fun e w' => ∃ q, e = .returned (.tuple #[.slice (some ⟨q, 0, none⟩) 64 64, .int .i64 0]) ∧ Blk w' q 62 (sec d x) ∧ w.heap.size ≤ q ∧ Tn.Mod [] w w' := by
  obtain ⟨g, cap, hb, hg, hr⟩ := h.base x hx
  have c1 := hb.cell 1
  simp only [List.getElem?_toArray, List.getElem?_cons_zero, List.getElem?_cons_succ] at c1
  have H := hid h
  have HR := hid hr
  have e : secE k (x : Int) = 0 := by unfold secE; rw [if_pos (by omega)]
  have hs1 := hid (show (Try.prog.info? 62).map (·.size) = some (sec d x).toList.length by simp [sec_size, size62])
  have hs2 := hid (show (Try.prog.info? 62).map (·.size) = some (sec d x).size by rw [sec_size]; exact size62)
  have hs3 := hid (show z62.size = (sec d x).size by rw [sec_size]; exact z62_size)
  have hs4 := hid (show (sec d x).all (·.oneCell') = true by rw [Array.all_eq_true_iff_forall_mem]; intro u hu; exact sec_one _ _ u (by simpa using hu))
  have hx1 : (x : Int) < (k : Int) := by omega
  clear h hb hr hk
  go_enter Try.func15, Try.ntmps15
  go_wp2_with (first
    | (go_at_call 25; refine (sector_f H.out _).mono ?_; rw [e]; rintro e w' ⟨rfl, rfl⟩)
    | (refine wpList_load_mid rfl 62 _ rfl g (x * 64) rfl (sec d x).toList _ HR.out Try.underlying62 rfl hs1.out ?_)
    | (refine wpList_alloc62 rfl rfl ?_)
    | (refine wpList_store_row rfl 62 _ _ rfl w.heap.size (sec d x) rfl rfl 62 z62 (heap_alloc_new w _) hs2.out hs3.out hs4.out ?_))
  go_ret2
  exact ⟨w.heap.size, rfl, (Blk.new w 62 z62).setRow, Nat.le_refl _, ((Mod.refl [] w).alloc _).setRow (.inr (Nat.le_refl _)) _⟩

theorem base_out (h : IM w p mb B d k m f) (x : Int) (hx : ¬ (0 ≤ x ∧ x < k)) : Calls Try.prog 15 #[.pointer (some ⟨p, 0, none⟩), .int .i64 x] w fun e w' => e = .returned (.tuple #[.slice none 0 0, .int .i64 1]) ∧ w = w' := by
  have H := hid h
  have e : secE k x = 1 := by unfold secE; rw [if_neg hx]
  clear h
  go_enter Try.func15, Try.ntmps15
  go_wp2_with (go_at_call 25; refine (sector_f H.out _).mono ?_; rw [e]; rintro e w' ⟨rfl, rfl⟩)
  go_ret2
  exact ⟨rfl, rfl⟩

set_option maxHeartbeats 1000000 in
/-- Read of a sector that was written. -/
theorem read_new (h : IM w p mb B d k m f) (x : Int) (hp : p < B) (hB : B ≤ w.heap.size) (g : Nat → Int) (hf : f x = some g) : Calls Try.prog 14 #[.pointer (some ⟨p, 0, none⟩), .int .i64 x] w fun e w' => ∃ q, e = .returned (.tuple #[.slice (some ⟨q, 0, none⟩) 64 64, .int .i64 0]) ∧ Blk w' q 62 (sec g 0) ∧ w.heap.size ≤ q ∧ Tn.Mod [] w w' := by
  have H := hid h
  have HP := hid hp
  have HZ := hid hB
  have hw : wrt f x = sec g 0 := by unfold wrt; rw [hf]
  have hs : (f x).isSome = true := by rw [hf]; rfl
  have hs2 := hid (show (Try.prog.info? 62).map (·.size) = some (sec g 0).size by rw [sec_size]; exact size62)
  have hs3 := hid (show z62.size = (sec g 0).size by rw [sec_size]; exact z62_size)
  have hs4 := hid (show (sec g 0).all (·.oneCell') = true by rw [← hw]; exact wrt_one f x)
  clear h hp hB hf
  go_enter Try.func14, Try.ntmps14
  go_wp2_with (first
    | (go_at_call 26; refine (written_f H.out x HP.out HZ.out).mono ?_; rw [hs, hw]; rintro e w1 ⟨rfl, hm1⟩; have HM1 := hid hm1; clear hm1)
    | (refine wpList_alloc62 rfl rfl ?_)
    | (refine wpList_store_row rfl 62 _ _ rfl w1.heap.size (sec g 0) rfl rfl 62 z62 (heap_alloc_new w1 _) hs2.out hs3.out hs4.out ?_))
  go_ret2
  exact ⟨w1.heap.size, rfl, (Blk.new w1 62 z62).setRow, HM1.out.size, (HM1.out.alloc _).setRow (.inr HM1.out.size) _⟩

set_option maxHeartbeats 1000000 in
/-- Read of a sector that was not. -/
theorem read_old (h : IM w p mb B d k m f) (x : Nat) (hx : x < k) (hk : k ≤ 256) (hp : p < B) (hB : B ≤ w.heap.size) (hf : f x = none) : Calls Try.prog 14 #[.pointer (some ⟨p, 0, none⟩), .int .i64 (x : Nat)] w fun e w' => ∃ q, e = .returned (.tuple #[.slice (some ⟨q, 0, none⟩) 64 64, .int .i64 0]) ∧ Blk w' q 62 (sec d x) ∧ w.heap.size ≤ q ∧ Tn.Mod [] w w' := by
  have H := hid h
  have HP := hid hp
  have HZ := hid hB
  have HK := hid hk
  have HX := hid hx
  have hs : (f x).isSome = false := by rw [hf]; rfl
  have hs2 := hid (show (Try.prog.info? 62).map (·.size) = some (wrt f x).size by rw [wrt_size]; exact size62)
  have hs3 := hid (show z62.size = (wrt f x).size by rw [wrt_size]; exact z62_size)
  have hs4 := hid (wrt_one f x)
  clear h hp hB hf hk hx
  go_enter Try.func14, Try.ntmps14
  go_wp2_with (first
    | (go_at_call 26; refine (written_f H.out x HP.out HZ.out).mono ?_; rw [hs]; rintro e w1 ⟨rfl, hm1⟩; have HM1 := hid hm1; clear hm1)
    | (refine wpList_alloc62 rfl rfl ?_)
    | (refine wpList_store_row rfl 62 _ _ rfl w1.heap.size (wrt f x) rfl rfl 62 z62 (heap_alloc_new w1 _) hs2.out hs3.out hs4.out ?_)
    | (go_at_call 15; have hm2 : Tn.Mod [] w ((w1.alloc (.cells z62 62)).setRow w1.heap.size (wrt f x)) := (HM1.out.alloc _).setRow (.inr HM1.out.size) _
       have HM2 := hid hm2
       refine (base_f (H.out.mod hm2 (by simp) (by simp) (by simp)).1 x HX.out HK.out).mono ?_
       rintro e w3 ⟨q, rfl, hb3, hq3, hm3⟩
       have HR := hid (And.intro hb3 (And.intro hq3 hm3))
       clear hm2 hb3 hq3 hm3))
  go_ret2
  obtain ⟨hb3, hq3, hm3⟩ := HR.out
  exact ⟨q, rfl, hb3, Nat.le_trans HM2.out.size hq3, HM2.out.andThen hm3⟩
end
end Go.Proofs.Ytpabfghpfigoaaa
