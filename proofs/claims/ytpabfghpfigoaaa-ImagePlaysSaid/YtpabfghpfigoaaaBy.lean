/-
  Layer 12: made bytes; the law's 'bytes' with a fill.
-/
import Derived.Test.YtpabfghpfigoaaaMe
import Derived.LoopTactic
namespace Go.Proofs.Ytpabfghpfigoaaa
open Go.RowKit Go.Tn
open Go.Proofs

def zeros (n : Nat) : Array Value := madeCells #[.int .u8 0] n
theorem zeros_get {n j : Nat} (h : j < n) : (zeros n)[j]? = some (.int .u8 0) := by
  have h2 : (madeCells #[.int .u8 0] n).toList = List.replicate n (.int .u8 0) := toList_madeCells_one _ _
  rw [← Array.getElem?_toList, zeros, h2]
  simp [h]
theorem info5 : (Try.prog.info? 5).map (fun i => (i.zero, i.size, i.bytes)) = some (some (.int .u8 0), 1, 1) := by kernel_rfl
theorem make_bytes (n : Nat) (x : Int) (hx : x = n) (hn : n ≤ 140737488355328) (w : World) : (Instr.makeSlice 27 (.int .i64 x) (.int .i64 x)).run Try.prog w = .ok (.slice (some ⟨w.heap.size, 0, none⟩) n n) (w.alloc (.cells (zeros n) 5)) := by
  obtain ⟨i5, hi5, hz0, hz1, hz2⟩ := info_parts info5
  subst hx
  have hr := run_make (P := Try.prog) w 27 5 i5 _ Try.underlying27 hi5 hz0 .i64 .i64 n n (by omega) (Int.le_refl _) (by rw [hz2]; omega) (by omega)
  rw [hz1] at hr
  simp only [Int.toNat_natCast, Nat.mul_one] at hr
  exact hr

/-- The law's 'bytes' where no bytes are given: 64 times the fill. -/
theorem bytes_fill (t0 t1 t2 fl : Int) (sa : Option Addr) (cp : Nat) (w : World) : Calls Try.prog 11 #[.agg #[.int .i64 t0, .int .i64 t1, .int .i64 t2, .int .u8 fl, .slice sa 0 cp]] w fun e w' => ∃ q, e = .returned (.slice (some ⟨q, 0, none⟩) 64 64) ∧ w'.rangeAt q 0 (sec (fun _ => fl) 0).toList ∧ w.heap.size ≤ q ∧ q < w'.heap.size ∧ (∃ cs, Blk w' q 5 cs) ∧ Tn.Mod [] w w' := by
  have hmk := make_bytes 64 64 rfl (by omega)
  go_enter Try.func11, Try.ntmps11
  go_wp2
  have hb0 : Blk ((w.alloc (.cells #[.int .i64 t0, .int .i64 t1, .int .i64 t2, .int .u8 fl, .slice sa 0 cp] 29)).alloc (.cells (zeros 64) 5)) w.heap.size 29 #[.int .i64 t0, .int .i64 t1, .int .i64 t2, .int .u8 fl, .slice sa 0 cp] := (Blk.new w 29 _).mod ((Mod.refl [] _).alloc _) (by simp)
  have hq0 : Blk ((w.alloc (.cells #[.int .i64 t0, .int .i64 t1, .int .i64 t2, .int .u8 fl, .slice sa 0 cp] 29)).alloc (.cells (zeros 64) 5)) (w.heap.size + 1) 5 (zeros 64) := by
    have := Blk.new (w.alloc (.cells #[.int .i64 t0, .int .i64 t1, .int .i64 t2, .int .u8 fl, .slice sa 0 cp] 29)) 5 (zeros 64)
    rwa [World.size_alloc] at this
  have hm0 : Tn.Mod [] w ((w.alloc (.cells #[.int .i64 t0, .int .i64 t1, .int .i64 t2, .int .u8 fl, .slice sa 0 cp] 29)).alloc (.cells (zeros 64) 5)) := ((Mod.refl [] w).alloc _).alloc _
  have hz : (zeros 64).size = 64 := by simp [zeros, madeCells]
  clear hmk
  go_loopw [4] (fun i wr => ∃ (j : Nat) (cs : Array Value), j ≤ 64 ∧ i = .int .i64 (j : Int) ∧ Blk wr (w.heap.size + 1) 5 cs ∧ cs.size = 64 ∧ (∀ t, t < j → cs[t]? = some (.int .u8 fl)) ∧ Blk wr w.heap.size 29 #[.int .i64 t0, .int .i64 t1, .int .i64 t2, .int .u8 fl, .slice sa 0 cp] ∧ Tn.Mod [] w wr) (fun i _ => 64 - (intOf i).toNat)
  case atStart => exact ⟨0, zeros 64, by omega, rfl, hq0, hz, fun t ht => by omega, hb0, hm0⟩
  case round =>
    obtain ⟨j, cs, hj, rfl, hq, hs, ht, hbb, hm⟩ := hrel
    have HT := hid ht
    have HS := hid hs
    have HM := hid hm
    have HQ := hid hq
    have HB := hid hbb
    have c3 := hbb.cell 3
    simp only [List.getElem?_toArray, List.getElem?_cons_zero, List.getElem?_cons_succ] at c3
    have f0 := hq.frozen j
    clear hq0 hb0 hm0 hz ht hm hbb
    by_cases hlt : j < 64
    · have hlt' : (j : Int) < 64 := by omega
      obtain ⟨u, hu⟩ : ∃ u, wr.cell? ⟨w.heap.size + 1, j, none⟩ = some u := ⟨cs[j]'(by omega), by rw [hq.cell]; simp [hs, hlt]⟩
      clear hq hs
      go_wp2
      go_roundw
      case rel => exact ⟨j + 1, cs.setIfInBounds j (.int .u8 fl), by omega, by simp, HQ.out.set_ j _, by simp [HS.out], fun t ht => by
          have := HS.out
          rw [Array.getElem?_setIfInBounds]
          by_cases e : j = t
          · subst e; simp [this, hlt]
          · rw [if_neg e]; exact HT.out t (by omega), (HB.out).of_heap (((Mod.refl [w.heap.size + 1] wr).setCell (.inl (by simp)) _).block _ HB.out.lt (by simp)), HM.out.setCell (.inr (by simp)) _⟩
      case measure => simp [intOf]; omega
    · obtain rfl : j = 64 := by omega
      clear hq hs
      go_wp2
      go_ret
      refine ⟨w.heap.size + 1, rfl, fun t v hv => ?_, by omega, HQ.out.lt, ⟨_, HQ.out⟩, HM.out⟩
      obtain ⟨ht2, rfl⟩ := sec_list_at _ _ _ _ hv
      rw [Nat.zero_add, HQ.out.cell]
      exact HT.out t ht2
end Go.Proofs.Ytpabfghpfigoaaa
