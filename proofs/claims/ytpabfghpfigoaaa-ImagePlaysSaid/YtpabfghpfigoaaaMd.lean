/-
  Layer 12: Write.
-/
import Derived.Test.YtpabfghpfigoaaaMc
namespace Go.Proofs.Ytpabfghpfigoaaa
open Go.RowKit Go.Tn
open Go.Proofs
attribute [local go_sem] look38 del38 len38
attribute [-simp] Try.isAgg62 Try.sizeOf62

theorem arrayAt62c (a : Option Addr) (c : Nat) (w : World) : (Instr.arrayAt 62 (.slice a 64 c)).run Try.prog w = .ok (.pointer a) w :=
  run_arrayAt w 62 _ 64 a 64 c Try.underlying62 (Nat.le_refl _)
theorem upd38 {w : World} {b : Nat} (h : IsM w b) (n : Int) (v : Value) : (Instr.mapUpdate 38 (.map (some b)) (.int .i64 n) v).run Try.prog w = .ok () (mput w b n v) := h.imap.store Try.underlying38 Try.underlying3 n v
attribute [local go_sem] upd38

section
variable {w : World} {p mb B k m : Nat} {d : Nat → Int} {f : Int → Option (Nat → Int)}

theorem write_out (h : IM w p mb B d k m f) (x : Int) (v : Value) (hx : ¬ (0 ≤ x ∧ x < k)) : Calls Try.prog 10 #[.pointer (some ⟨p, 0, none⟩), .int .i64 x, v] w fun e w' => e = .returned (.int .i64 1) ∧ w = w' := by
  have H := hid h
  have e : secE k x = 1 := by unfold secE; rw [if_neg hx]
  clear h
  go_enter Try.func10, Try.ntmps10
  go_wp2_with (go_at_call 25; refine (sector_f H.out _).mono ?_; rw [e]; rintro e w' ⟨rfl, rfl⟩)
  go_ret
  exact ⟨rfl, rfl⟩

set_option maxHeartbeats 2000000 in
theorem write_again (h : IM w p mb B d k m f) (x : Int) (hx : 0 ≤ x ∧ x < k) (hp : p < B) (hB : B ≤ w.heap.size) (hf : (f x).isSome = true) (gb go cp : Nat) (g : Nat → Int) (hgb : gb < w.heap.size) (hr : w.rangeAt gb go (sec g 0).toList) :
    Calls Try.prog 10 #[.pointer (some ⟨p, 0, none⟩), .int .i64 x, .slice (some ⟨gb, go, none⟩) 64 cp] w fun e w' => e = .returned (.int .i64 0) ∧ ∃ w1, Tn.Mod [] w w1 ∧ w' = mput w1 mb x (.agg (sec g 0)) := by
  obtain ⟨a, cap, hb, _⟩ := h.blk
  have H := hid h
  have HB := hid hb
  have HI := hid h.is
  have HR := hid hr
  have HP := hid hp
  have HZ := hid hB
  have HG := hid hgb
  have e : secE k x = 0 := by unfold secE; rw [if_pos hx]
  have hs1 := hid (show (Try.prog.info? 62).map (·.size) = some (wrt f x).size by rw [wrt_size]; exact size62)
  have hs2 := hid (show z62.size = (wrt f x).size by rw [wrt_size]; exact z62_size)
  have hs3 := hid (wrt_one f x)
  clear h hb hp hB hr hgb hx
  go_enter Try.func10, Try.ntmps10
  go_wp2_with (first
    | (go_at_call 25; refine (sector_f H.out _).mono ?_; rw [e]; rintro e w' ⟨rfl, rfl⟩)
    | (go_at_call 26; refine (written_f H.out x HP.out HZ.out).mono ?_; rw [hf]; rintro e w1 ⟨rfl, hm1⟩; have HM1 := hid hm1; clear hm1)
    | (refine wpList_alloc62 rfl rfl ?_)
    | (refine wpList_store_row rfl 62 _ _ rfl w1.heap.size (wrt f x) rfl rfl 62 z62 (heap_alloc_new w1 _) hs1.out hs2.out hs3.out ?_))
  have hm2 : Tn.Mod [] w ((w1.alloc (.cells z62 62)).setRow w1.heap.size (wrt f x)) := (HM1.out.alloc _).setRow (.inr HM1.out.size) _
  generalize ((w1.alloc (.cells z62 62)).setRow w1.heap.size (wrt f x)) = w2 at hm2 ⊢
  have c2 := (HB.out.mod hm2 (by simp)).cell 2
  simp only [List.getElem?_toArray, List.getElem?_cons_zero, List.getElem?_cons_succ] at c2
  have his : IsM w2.drew mb := HI.out.of_heap (hm2.block _ HI.out.lt (by simp))
  have r1 := cells_sec (w := w2.drew) (fun j u hj => (hm2.drew.cell (p := ⟨gb, _, none⟩) HG.out (by simp)).trans (HR.out j u hj))
  have r0 := isAgg62'
  have r2 := arrayAt62c
  clear hs1 hs2 hs3
  go_region
  go_wp2
  go_ret
  exact ⟨rfl, w2.drew, hm2.drew, rfl⟩

set_option maxHeartbeats 2000000 in
theorem write_new (h : IM w p mb B d k m f) (x : Int) (hx : 0 ≤ x ∧ x < k) (hp : p < B) (hB : B ≤ w.heap.size) (hm : m ≤ 256) (hl : mlen w mb < m) (hf : (f x).isSome = false) (gb go cp : Nat) (g : Nat → Int) (hgb : gb < w.heap.size) (hr : w.rangeAt gb go (sec g 0).toList) :
    Calls Try.prog 10 #[.pointer (some ⟨p, 0, none⟩), .int .i64 x, .slice (some ⟨gb, go, none⟩) 64 cp] w fun e w' => e = .returned (.int .i64 0) ∧ ∃ w1, Tn.Mod [] w w1 ∧ w' = mput w1 mb x (.agg (sec g 0)) := by
  obtain ⟨a, cap, hb, _⟩ := h.blk
  have H := hid h
  have HB := hid hb
  have HI := hid h.is
  have HR := hid hr
  have HP := hid hp
  have HZ := hid hB
  have HG := hid hgb
  have HL := hid hl
  have HM := hid hm
  have e : secE k x = 0 := by unfold secE; rw [if_pos hx]
  have hs1 := hid (show (Try.prog.info? 62).map (·.size) = some (wrt f x).size by rw [wrt_size]; exact size62)
  have hs2 := hid (show z62.size = (wrt f x).size by rw [wrt_size]; exact z62_size)
  have hs3 := hid (wrt_one f x)
  obtain ⟨r, hne⟩ : ∃ r : Nat, (m : Int) - (mlen w mb : Int) = ((r + 1 : Nat) : Int) := ⟨m - mlen w mb - 1, by omega⟩
  have hr0 : ((r + 1 : Nat) : Int) ≠ 0 := by omega
  generalize ((r + 1 : Nat) : Int) = r1 at hne hr0
  clear h hb hp hB hr hgb hx hl hm
  go_enter Try.func10, Try.ntmps10
  go_wp2_with (first
    | (go_at_call 25; refine (sector_f H.out _).mono ?_; rw [e]; rintro e w' ⟨rfl, rfl⟩)
    | (go_at_call 26; refine (written_f H.out x HP.out HZ.out).mono ?_; rw [hf]; rintro e w1 ⟨rfl, hm1⟩; have HM1 := hid hm1; clear hm1)
    | (refine wpList_alloc62 rfl rfl ?_)
    | (refine wpList_store_row rfl 62 _ _ rfl w1.heap.size (wrt f x) rfl rfl 62 z62 (heap_alloc_new w1 _) hs1.out hs2.out hs3.out ?_)
    | (go_at_call 13; have hm2 : Tn.Mod [] w ((w1.alloc (.cells z62 62)).setRow w1.heap.size (wrt f x)) := (HM1.out.alloc _).setRow (.inr HM1.out.size) _
       have hI := H.out.mod hm2 (by simp) (by simp) (by simp)
       have HM2 := hid hm2
       have hq := hI.2
       refine (free_f hI.1 HM.out (by have := HL.out; have := HM.out; omega)).mono ?_
       rw [hq, hne]
       rintro e w3 ⟨rfl, nq, rfl⟩
       clear hm2 hI hq))
  have hm2 := HM2.out
  generalize ((w1.alloc (.cells z62 62)).setRow w1.heap.size (wrt f x)) = w2 at hm2 ⊢
  have hm3 := hm2.drewN nq
  generalize w2.drewN nq = w4 at hm3 ⊢
  have c2 := (HB.out.mod hm3 (by simp)).cell 2
  simp only [List.getElem?_toArray, List.getElem?_cons_zero, List.getElem?_cons_succ] at c2
  have his : IsM w4.drew mb := HI.out.of_heap (hm3.block _ HI.out.lt (by simp))
  have r1 := cells_sec (w := w4.drew) (fun j u hj => (hm3.drew.cell (p := ⟨gb, _, none⟩) HG.out (by simp)).trans (HR.out j u hj))
  have r0 := isAgg62'
  have r2 := arrayAt62c
  clear hs1 hs2 hs3
  go_region
  go_wp2
  go_ret
  exact ⟨rfl, w4.drew, hm3.drew, rfl⟩

set_option maxHeartbeats 2000000 in
theorem write_full (h : IM w p mb B d k m f) (x : Int) (hx : 0 ≤ x ∧ x < k) (hp : p < B) (hB : B ≤ w.heap.size) (hm : m ≤ 256) (hl : mlen w mb = m) (hf : (f x).isSome = false) (v : Value) (a' : Option Addr) (cp : Nat) (hv : v = .slice a' 64 cp) :
    Calls Try.prog 10 #[.pointer (some ⟨p, 0, none⟩), .int .i64 x, v] w fun e w' => e = .returned (.int .i64 71) ∧ Tn.Mod [] w w' := by
  subst hv
  have H := hid h
  have HP := hid hp
  have HZ := hid hB
  have HL := hid hl
  have HM := hid hm
  have e : secE k x = 0 := by unfold secE; rw [if_pos hx]
  have hs1 := hid (show (Try.prog.info? 62).map (·.size) = some (wrt f x).size by rw [wrt_size]; exact size62)
  have hs2 := hid (show z62.size = (wrt f x).size by rw [wrt_size]; exact z62_size)
  have hs3 := hid (wrt_one f x)
  have hne : (m : Int) - (m : Int) = 0 := by omega
  clear h hp hB hx hl hm
  go_enter Try.func10, Try.ntmps10
  go_wp2_with (first
    | (go_at_call 25; refine (sector_f H.out _).mono ?_; rw [e]; rintro e w' ⟨rfl, rfl⟩)
    | (go_at_call 26; refine (written_f H.out x HP.out HZ.out).mono ?_; rw [hf]; rintro e w1 ⟨rfl, hm1⟩; have HM1 := hid hm1; clear hm1)
    | (refine wpList_alloc62 rfl rfl ?_)
    | (refine wpList_store_row rfl 62 _ _ rfl w1.heap.size (wrt f x) rfl rfl 62 z62 (heap_alloc_new w1 _) hs1.out hs2.out hs3.out ?_)
    | (go_at_call 13; have hm2 : Tn.Mod [] w ((w1.alloc (.cells z62 62)).setRow w1.heap.size (wrt f x)) := (HM1.out.alloc _).setRow (.inr HM1.out.size) _
       have hI := H.out.mod hm2 (by simp) (by simp) (by simp)
       have HM2 := hid hm2
       have hq := hI.2
       refine (free_f hI.1 HM.out (by have := HL.out; have := HM.out; omega)).mono ?_
       rw [hq, HL.out, hne]
       rintro e w3 ⟨rfl, nq, rfl⟩
       clear hm2 hI hq))
  go_ret
  exact ⟨rfl, HM2.out.drewN _⟩
end
end Go.Proofs.Ytpabfghpfigoaaa
