/-
  Layer 12: Write of a wrong length; Read out of range; Need's closure.
-/
import Derived.Test.YtpabfghpfigoaaaMd
import Derived.Test.YtpabfghpfigoaaaMe
namespace Go.Proofs.Ytpabfghpfigoaaa
open Go.RowKit Go.Tn
open Go.Proofs

section
variable {w : World} {p mb B k m : Nat} {d : Nat → Int} {f : Int → Option (Nat → Int)}

theorem write_len (h : IM w p mb B d k m f) (x : Int) (hx : 0 ≤ x ∧ x < k) (a' : Option Addr) (len cp : Nat) (hl : len ≠ 64) : Calls Try.prog 10 #[.pointer (some ⟨p, 0, none⟩), .int .i64 x, .slice a' len cp] w fun e w' => e = .returned (.int .i64 1) ∧ w = w' := by
  have H := hid h
  have e : secE k x = 0 := by unfold secE; rw [if_pos hx]
  have hl' : ((len : Nat) : Int) ≠ 64 := by omega
  clear h hl
  go_enter Try.func10, Try.ntmps10
  go_wp2_with (go_at_call 25; refine (sector_f H.out _).mono ?_; rw [e]; rintro e w' ⟨rfl, rfl⟩)
  go_ret
  exact ⟨rfl, rfl⟩

set_option maxHeartbeats 1000000 in
theorem read_out (h : IM w p mb B d k m f) (x : Int) (hx : ¬ (0 ≤ x ∧ x < k)) (hp : p < B) (hB : B ≤ w.heap.size) : Calls Try.prog 14 #[.pointer (some ⟨p, 0, none⟩), .int .i64 x] w fun e w' => e = .returned (.tuple #[.slice none 0 0, .int .i64 1]) ∧ Mod [] w w' := by
  have hf : f x = none := by
    cases hfx : f x with
    | none => rfl
    | some g => exact absurd (h.dom x (by rw [hfx]; rfl)) hx
  have H := hid h
  have HP := hid hp
  have HZ := hid hB
  have HX := hid hx
  have hs : (f x).isSome = false := by rw [hf]; rfl
  have hs2 := hid (show (Try.prog.info? 62).map (·.size) = some (wrt f x).size by rw [wrt_size]; exact size62)
  have hs3 := hid (show z62.size = (wrt f x).size by rw [wrt_size]; exact z62_size)
  have hs4 := hid (wrt_one f x)
  clear h hp hB hf hx
  go_enter Try.func14, Try.ntmps14
  go_wp2_with (first
    | (go_at_call 26; refine (written_f H.out x HP.out HZ.out).mono ?_; rw [hs]; rintro e w1 ⟨rfl, hm1⟩; have HM1 := hid hm1; clear hm1)
    | (refine wpList_alloc62 rfl rfl ?_)
    | (refine wpList_store_row rfl 62 _ _ rfl w1.heap.size (wrt f x) rfl rfl 62 z62 (heap_alloc_new w1 _) hs2.out hs3.out hs4.out ?_)
    | (go_at_call 15; have hm2 : Tn.Mod [] w ((w1.alloc (.cells z62 62)).setRow w1.heap.size (wrt f x)) := (HM1.out.alloc _).setRow (.inr HM1.out.size) _
       have HM2 := hid hm2
       refine (base_out (H.out.mod hm2 (by simp) (by simp) (by simp)).1 x HX.out).mono ?_
       rintro e w3 ⟨rfl, rfl⟩
       clear hm2))
  go_ret2
  exact ⟨rfl, HM2.out⟩

/-- Need's closure. -/
theorem need1_f (c : Nat) (i : Int) (b : Bool) (n : Nat) (w : World) (hn : n < 100000) (hb : Blk w c 3 #[.int .i64 (n : Nat)]) : Calls Try.prog 29 #[.int .i64 i, .bool b, .pointer (some ⟨c, 0, none⟩)] w fun e w' => e = .returned (.tuple #[]) ∧ Blk w' c 3 #[.int .i64 ((n + (if b then 0 else 1) : Nat) : Int)] ∧ Tn.Mod [c] w w' := by
  have c0 := hb.cell 0
  have f0 := hb.frozen 0
  simp only [List.getElem?_toArray, List.getElem?_cons_zero] at c0
  cases b with
  | true =>
    go_enter Try.func29, Try.ntmps29
    go_wp2
    go_end0
    exact ⟨rfl, by simpa using hb, Mod.refl _ w⟩
  | false =>
    go_enter Try.func29, Try.ntmps29
    go_wp2
    go_end0
    exact ⟨rfl, by simpa using hb.set_ 0 (.int .i64 ((n : Int) + 1)), (Mod.refl _ w).setCell (.inl (by simp)) _⟩
end
end Go.Proofs.Ytpabfghpfigoaaa
