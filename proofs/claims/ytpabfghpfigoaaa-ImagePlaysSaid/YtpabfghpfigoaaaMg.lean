/-
  Layer 12: each with Need's closure; Need.
-/
import Derived.Test.YtpabfghpfigoaaaMf
import Derived.LoopTactic
namespace Go.Proofs.Ytpabfghpfigoaaa
open Go.RowKit Go.Tn
open Go.Proofs

/-- How many of the sectors a, .., a + j - 1 have no block. -/
def cnt (f : Int → Option (Nat → Int)) (a j : Nat) : Nat := ((List.range j).filter fun t => !(f ((a + t : Nat) : Int)).isSome).length
theorem cnt_succ (f : Int → Option (Nat → Int)) (a j : Nat) : cnt f a (j + 1) = cnt f a j + (if (f ((a + j : Nat) : Int)).isSome then 0 else 1) := by
  unfold cnt
  rw [List.range_succ, List.filter_append, List.length_append]
  cases h : f ((a + j : Nat) : Int) <;> (rw [List.filter_cons]; simp only [h]; simp)
theorem cnt_le (f : Int → Option (Nat → Int)) (a j : Nat) : cnt f a j ≤ j := by
  unfold cnt
  exact Nat.le_trans (List.length_filter_le _ _) (by simp)

section
variable {w : World} {p mb B k m : Nat} {d : Nat → Int} {f : Int → Option (Nat → Int)}

set_option maxHeartbeats 2000000 in
theorem each_need (h : IM w p mb B d k m f) (a n c q0 : Nat) (hq0 : q0 = a + n) (hn : a + n ≤ k) (hk : k ≤ 256) (hp : p < B) (hB : B ≤ w.heap.size) (hc : B ≤ c) (hb : Blk w c 3 #[.int .i64 (0 : Nat)]) (hcd : ∀ g, g = c → p ≠ g ∧ mb ≠ g) (hci : IM w p mb B d k m f → ∀ w', Tn.Mod [c] w w' → IM w' p mb B d k m f) :
    Calls Try.prog 28 #[.pointer (some ⟨p, 0, none⟩), .int .i64 (a : Nat), .int .i64 (q0 : Nat), .func (.func 29) #[] #[.pointer (some ⟨c, 0, none⟩)]] w fun e w' => e = .returned (.tuple #[]) ∧ Blk w' c 3 #[.int .i64 (cnt f a n : Nat)] ∧ Tn.Mod [c] w w' := by
  have HI := hid (hci h)
  have HE := hid hq0
  clear hq0
  have HP := hid hp
  have HZ := hid hB
  clear hci hcd h hp
  go_enter Try.func28, Try.ntmps28
  go_wp2
  go_loopw [8] (fun i wr => ∃ j q : Nat, j ≤ n ∧ q = a + j ∧ i = .int .i64 (q : Int) ∧ Blk wr c 3 #[.int .i64 (cnt f a j : Nat)] ∧ Tn.Mod [c] w wr) (fun i _ => q0 - (intOf i).toNat)
  case atStart => exact ⟨0, a, Nat.zero_le _, rfl, rfl, hb, Mod.refl _ w⟩
  case round =>
    obtain ⟨j, q, hj, hq, rfl, hbj, hmj⟩ := hrel
    have hq0 := HE.out
    by_cases hlt : j < n
    · have hIj := HI.out wr hmj
      have hlt' : (q : Int) < (q0 : Int) := by omega
      have hqb : (q : Int) ≤ 300 := by omega
      have hs2 := hid (show (Try.prog.info? 62).map (·.size) = some (wrt f (q : Int)).size by rw [wrt_size]; exact size62)
      have hs3 := hid (show z62.size = (wrt f (q : Int)).size by rw [wrt_size]; exact z62_size)
      have hs4 := hid (wrt_one f (q : Int))
      have HJ := hid hIj
      have HB2 := hid hbj
      have HM2 := hid hmj
      have hct := cnt_le f a j
      have HZ2 := hid (show B ≤ wr.heap.size from Nat.le_trans HZ.out hmj.size)
      have HC := hid (show cnt f a j < 100000 by omega)
      have hsucc0 := cnt_succ f a j
      rw [← hq] at hsucc0
      have hsucc := hid hsucc0
      clear hsucc0
      have HQ := hid hq
      have HQ0 := hid hq0
      clear hIj hbj hmj hct hb hq hq0
      generalize hio : (f (q : Int)).isSome = io at hsucc
      generalize hcs : wrt f (q : Int) = cs at hs2 hs3 hs4
      go_wp2_with (first
        | (go_at_call 26; refine (written_f HJ.out _ HP.out HZ2.out).mono ?_; rw [hio, hcs]; rintro e w1 ⟨rfl, hm1⟩; have HM1 := hid hm1; clear hm1)
        | (refine wpList_alloc62 rfl rfl ?_)
        | (refine wpList_store_row rfl 62 _ _ rfl w1.heap.size cs rfl rfl 62 z62 (heap_alloc_new w1 _) hs2.out hs3.out hs4.out ?_)
        | (go_at_call 29; have hm2 : Tn.Mod [] wr ((w1.alloc (.cells z62 62)).setRow w1.heap.size cs) := (HM1.out.alloc _).setRow (.inr HM1.out.size) _
           have HM3 := hid hm2
           refine (need1_f c _ io (cnt f a j) _ HC.out (HB2.out.mod hm2 (by simp))).mono ?_
           rintro e w3 ⟨rfl, hb3, hm3⟩
           have HB3 := hid hb3
           have HM4 := hid hm3
           clear hm2 hb3 hm3))
      go_roundw
      case rel => exact ⟨j + 1, q + 1, by omega, by have := HQ.out; omega, by simp, by have := HB3.out; rw [hsucc.out]; exact this, (HM2.out.trans HM3.out (by simp)).andThen HM4.out⟩
      case measure => simp [intOf]; omega
    · obtain rfl : j = n := by omega
      have hlt' : (q0 : Int) ≤ (q : Int) := by omega
      clear hq hq0
      go_wp2
      go_end0
      exact ⟨rfl, hbj, hmj⟩
end
end Go.Proofs.Ytpabfghpfigoaaa
