/-
  Layer 12: Need.
-/
import Derived.Test.YtpabfghpfigoaaaMg
namespace Go.Proofs.Ytpabfghpfigoaaa
open Go.RowKit Go.Tn
open Go.Proofs

section
variable {w : World} {p mb B k m : Nat} {d : Nat → Int} {f : Int → Option (Nat → Int)}

set_option maxHeartbeats 2000000 in
theorem need_f (h : IM w p mb B d k m f) (a n : Nat) (hn : a + n ≤ k) (hk : k ≤ 256) (hp : p < B) (hB : B ≤ w.heap.size) :
    Calls Try.prog 12 #[.pointer (some ⟨p, 0, none⟩), .int .i64 (a : Nat), .int .i64 (n : Nat)] w fun e w' => e = .returned (.tuple #[.int .i64 (cnt f a n : Nat), .int .i64 0]) ∧ Tn.Mod [] w w' := by
  obtain ⟨ad, cap, hb, _⟩ := h.blk
  have c1 := hb.cell 1
  simp only [List.getElem?_toArray, List.getElem?_cons_zero, List.getElem?_cons_succ] at c1
  have H := hid h
  have HP := hid hp
  have HZ := hid hB
  have HK := hid hk
  have HN := hid hn
  have h1 : (a : Int) ≤ (k : Int) := by omega
  have h2 : (n : Int) ≤ (k : Int) - (a : Int) := by omega
  have h3 : (k : Int) ≤ 256 := by omega
  have e1 : (a : Int) + (n : Int) = ((a + n : Nat) : Int) := by omega
  have HE := hid e1
  clear h hb hp hB hk hn e1
  go_enter Try.func12, Try.ntmps12
  go_wp2_with (first
    | (go_at_call 27; refine (none_f H.out).mono ?_; rintro e w' ⟨rfl, rfl⟩)
    | (go_at_call 28
       rw [HE.out]
       have hm0 : Tn.Mod [] w (w.alloc (.cells #[.int .i64 0] 3)) := (Mod.refl [] w).alloc _
       have hI := (H.out.mod hm0 (by simp) (by simp) (by simp)).1
       refine (each_need hI a n w.heap.size (a + n) rfl HN.out HK.out HP.out (Nat.le_trans HZ.out hm0.size) HZ.out (Blk.new w 3 #[.int .i64 0]) (fun g hg => by subst hg; exact ⟨by have := HP.out; have := HZ.out; omega, by have := H.out.is.lt; omega⟩)
         (fun _ w' hm' => (H.out.mod (hm0.trans hm' (by simp)) (by simp) (by simp) (by simp)).1)).mono ?_
       rintro e w3 ⟨rfl, hb3, hm3⟩
       have HM := hid (hm0.trans hm3 (by simp))
       have b0 := hb3.cell 0
       simp only [List.getElem?_toArray, List.getElem?_cons_zero] at b0
       clear hm0 hI hb3 hm3))
  go_ret2
  exact ⟨rfl, HM.out⟩
end
end Go.Proofs.Ytpabfghpfigoaaa
