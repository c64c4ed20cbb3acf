/-
  Layer 12: the reference's New; ints.
-/
import Derived.Test.YtpabfghpfigoaaaRz
namespace Go.Proofs.Ytpabfghpfigoaaa
open Go.RowKit Go.Tn Go.Shelf
open Go.Proofs

theorem rnew_long (a : Option Addr) (len cap : Nat) (m : Int) (w : World) (h : 16384 < len) :
    Calls Try.prog 20 #[.slice a len cap, .int .i64 m] w fun e w' => e = .returned (.tuple #[.pointer none, .int .i64 2]) ∧ w = w' := by
  have h1 : (16384 : Int) < (len : Int) := by omega
  clear h
  go_enter Try.func20, Try.ntmps20
  go_wp2
  go_ret2
  exact ⟨rfl, rfl⟩

theorem rnew_arg (a : Option Addr) (len cap : Nat) (m : Int) (w : World) (h : len ≤ 16384) (hb : ¬ (len % 64 = 0 ∧ 0 ≤ m ∧ m ≤ 256)) :
    Calls Try.prog 20 #[.slice a len cap, .int .i64 m] w fun e w' => e = .returned (.tuple #[.pointer none, .int .i64 1]) ∧ w = w' := by
  have h1 : (len : Int) ≤ 16384 := by omega
  have ht : ((len : Nat) : Int).tmod 64 = ((len % 64 : Nat) : Int) := by rw [Int.tmod_eq_emod_of_nonneg (by omega)]; omega
  by_cases h0 : len % 64 = 0
  · rw [h0] at ht
    by_cases hm0 : m < 0
    · clear hb h h0
      go_enter Try.func20, Try.ntmps20
      go_wp2
      go_ret2
      exact ⟨rfl, rfl⟩
    · have hm1 : 0 ≤ m := by omega
      have hm2 : 256 < m := by omega
      clear hb h h0 hm0
      go_enter Try.func20, Try.ntmps20
      go_wp2
      go_ret2
      exact ⟨rfl, rfl⟩
  · obtain ⟨r, hr⟩ : ∃ r : Nat, len % 64 = r + 1 := ⟨len % 64 - 1, by omega⟩
    have hr0 : ((len % 64 : Nat) : Int) ≠ 0 := by omega
    generalize ((len % 64 : Nat) : Int) = q at ht hr0
    clear hb h h0 hr
    go_enter Try.func20, Try.ntmps20
    go_wp2
    go_ret2
    exact ⟨rfl, rfl⟩

set_option maxRecDepth 100000 in
set_option maxHeartbeats 4000000 in
theorem rnew_j (a : Option Addr) (k cap m : Nat) (d : Nat → Int) (w : World) (hb : Bys w a (64 * k) d) (hk : k ≤ 256) (hm : m ≤ 256) :
    Calls Try.prog 20 #[.slice a (64 * k : Nat) cap, .int .i64 (m : Nat)] w fun e w' => ∃ r la lc bb bc, e = .returned (.tuple #[.pointer (some ⟨r, 0, none⟩), .int .i64 0]) ∧ RJ w' r la lc bb bc d k m f00 ∧ w.heap.size ≤ r ∧ w.heap.size ≤ bb ∧ (∀ lb, la = some ⟨lb, 0, none⟩ → w.heap.size ≤ lb) ∧ Tn.Mod [] w w' := by
  obtain ⟨i0, hi, hz0, hz1, hz2⟩ := info_parts info27
  have HB := hid hb
  have HK := hid hk
  have HM := hid hm
  have hkI : (k : Int) ≤ 256 := by omega
  have hmI : (m : Int) ≤ 256 := by omega
  have t1 : ((64 * k : Nat) : Int).tmod 64 = 0 := by rw [Int.tmod_eq_emod_of_nonneg (by omega)]; omega
  have t2 : ((64 * k : Nat) : Int).tdiv 64 = (k : Int) := by rw [Int.tdiv_eq_ediv_of_nonneg (by omega)]; omega
  have hle : ((64 * k : Nat) : Int) ≤ 16384 := by omega
  have HQ := hid (Blk.new w 5 #[])
  have hm0 := hid ((Mod.refl [] w).alloc (.cells #[] 5))
  clear hb hk hm
  go_enter Try.func20, Try.ntmps20
  go_wp2_with (at_builtin; refine wpList_app5 rfl _ _ rfl w.heap.size rfl a (64 * k) cap rfl d HQ.out (HB.out.mod hm0.out (by simp)) (by have := HK.out; omega) ?_)
  intro bb bc w1 h1 h2 h3 cs h4 h5 h6
  have HM1 := hid (hm0.out.trans h5 (by simp))
  have HBB := hid (Bys_cells h2 h3)
  have HB5 := hid h4
  have HC := hid h6
  have HBW := hid (show w.heap.size ≤ bb from h1)
  have HW1 := hid HM1.out.size
  clear h1 h2 h3 h4 h5 h6
  go_wp2_with fail
  have hal : Tn.Mod [] w1 (w1.alloc (.cells #[.slice (some ⟨bb, 0, none⟩) (64 * k) bc, .slice none 0 0, .int .i64 (m : Int)] 56)) := (Mod.refl [] w1).alloc _
  have HS0 := hid (And.intro (HBB.out.mod hal (by simp)) (HB5.out.mod hal (by simp)))
  have HA := hid hal
  clear hal
  go_loopw [7] (fun i wr => ∃ (j : Nat) (A : Option Addr) (c2 : Nat), j ≤ k ∧ i = .int .i64 (j : Int) ∧ Hid (Blk wr w1.heap.size 56 #[.slice (some ⟨bb, 0, none⟩) (64 * k) bc, .slice A j c2, .int .i64 (m : Int)]) ∧ Hid (wr.ownsRow (w1.heap.size + 1) 27 1 (.slice A j c2) j (List.replicate j (.slice none 0 0))) ∧ Hid (Bys wr (some ⟨bb, 0, none⟩) (64 * k) d ∧ Blk wr bb 5 cs) ∧ Hid (Tn.Mod [] w wr) ∧ w1.heap.size < wr.heap.size) (fun i _ => k - (intOf i).toNat)
  case atStart => exact ⟨0, none, 0, Nat.zero_le _, rfl, Blk.new w1 56 _, World.ownsRow_nil _ _ _ _, HS0, HM1.out.andThen HA.out, by simp⟩
  case round =>
    obtain ⟨j, A, c2, hj, rfl, hr, hown, hS, hM, hsz⟩ := hrel
    have c0 := hr.out.cell 1
    have f0 := hr.out.frozen 1
    simp only [List.getElem?_toArray, List.getElem?_cons_zero, List.getElem?_cons_succ] at c0
    by_cases hlt : j < k
    · have hal := hid (hown.out.alloc (.cells #[.slice none 0 0] 27))
      go_wp2_with (at_builtin; refine wpList_append_own _ rfl _ _ 48 rfl (w1.heap.size + 1) 27 i0 _ 1 24 Try.underlying48 hi hz0 hz1 hz2 rfl (by decide) _ _ _ rfl hal.out ⟨wr.heap.size, 0, none⟩ 1 1 [.slice none 0 0] rfl rfl ?c1 ?c2 ?c3 ?c4 ?c5 ?_)
      case c1 =>
        intro j u hj
        match j, hj with
        | 0, hj => simp at hj; subst hj; simp [Addr.add]
      case c2 => intro u hu; simp at hu; subst hu; rfl
      case c3 => have := HK.out; unfold maxLen; omega
      case c4 => have := HK.out; omega
      case c5 => simp; omega
      intro v' w2 hown' hgrow _
      rw [show List.replicate j (Value.slice none 0 0) ++ [.slice none 0 0] = List.replicate (j + 1) (Value.slice none 0 0) from (List.replicate_succ' ..).symm] at hown'
      obtain ⟨A', c3, rfl⟩ := own_sl hown'
      have hne : ∀ b, (Value.slice A j c2).ownBlock = some b → w1.heap.size < b := fun b hb' => by
        have := (hown.out.lt b hb').1; omega
      have hb1 : Blk w2 w1.heap.size 56 #[.slice (some ⟨bb, 0, none⟩) (64 * k) bc, .slice A j c2, .int .i64 (m : Int)] := by
        refine (hr.out.of_heap (Below.heap_alloc wr _ _ hsz)).of_heap (hgrow.block _ (by simp; omega) (fun e => ?_))
        have := hne _ e.symm
        omega
      have c1 : w2.cell? ⟨w1.heap.size, 1, none⟩ = some (.slice A j c2) := by
        have := hb1.cell 1
        simpa using this
      have f1 : w2.frozen? ⟨w1.heap.size, 1, none⟩ = false := hb1.frozen 1
      have hbbl := hS.out.2.lt
      have hbr : Blk wr bb 5 cs := hS.out.2
      have hg5 : Blk w2 bb 5 cs := by
        refine (hbr.of_heap (Below.heap_alloc wr _ _ hbbl)).of_heap (hgrow.block _ (by simp; omega) (fun e => ?_))
        obtain ⟨_, hcase⟩ := hown.out
        rcases hcase with ⟨e1, _⟩ | ⟨g, cp, cur, e1, _, hg, _⟩
        · rw [e1] at e; cases e
        · rw [e1] at e
          simp [Value.ownBlock] at e
          subst e
          exact hbr.ne_ (g' := bb) (t' := 27) (cs' := cur) hg (by decide) rfl
      have hgB : Bys w2 (some ⟨bb, 0, none⟩) (64 * k) d := fun h0 => by
        obtain ⟨b', o', e', hl', hc'⟩ := hS.out.1 h0
        cases e'
        refine ⟨bb, 0, rfl, hg5.lt, fun t ht => ?_⟩
        rw [hg5.cell, ← hbr.cell]
        exact hc' t ht
      have HB1 := hid hb1
      have HO := hid hown'
      have HG := hid hgrow
      have HN := hid hne
      have H5 := hid (And.intro hgB hg5)
      clear hb1 hown' hgrow hne hbbl hbr hg5 hgB
      go_wp2
      have hmS : Tn.Mod [w1.heap.size] w2 (w2.setCell ⟨w1.heap.size, 1, none⟩ (.slice A' (j + 1) c3)) := (Mod.refl _ w2).setCell (.inl (by simp)) _
      have hbn : bb ∉ [w1.heap.size] := by simp; exact H5.out.2.ne_ HB1.out (by decide)
      have H6 := hid (And.intro (H5.out.1.mod hmS (fun b o e => by cases e; exact hbn)) (H5.out.2.mod hmS hbn))
      clear hmS hbn
      go_roundw
      case rel =>
        refine ⟨j + 1, A', c3, by omega, by go_num, hid (HB1.out.set_ 1 _), hid (ownsRow_other HO.out fun b hb' _ => Below.heap_setCell _ _ _ _ (by simp; omega)), H6, hid (((hM.out.alloc _).grown HG.out fun b hb' => .inr (by have := HN.out b hb'; have := HW1.out; omega)).setCell (.inr HW1.out) _), by have := HG.out.size; simp at this ⊢; omega⟩
      case measure => simp [intOf]; omega
    · obtain rfl : k = j := by omega
      clear hlt
      go_wp2
      go_ret2
      refine ⟨w1.heap.size, A, c2, bb, bc, rfl, ⟨by rw [show num f00 k = 0 from num_none k]; simpa using hr.out, hS.out.1, ⟨cs, hS.out.2⟩, HC.out, fun h0 => ?_, fun x hx => (by cases hx), by rw [show num f00 k = 0 from num_none k]; exact Nat.zero_le _, HK.out, HM.out⟩, HW1.out, HBW.out, fun lb e => ?_, hM.out⟩
      case refine_2 =>
        obtain ⟨_, ⟨e1, _⟩ | ⟨g, cp, cur, e1, h9, _⟩⟩ := hown.out
        · rw [e] at e1; cases e1
        · rw [e] at e1; cases e1; have := HW1.out; omega
      obtain ⟨_, ⟨_, h9⟩ | ⟨g, cp, cur, e1, _, hg, h10, h11, h12, h13⟩⟩ := hown.out
      · omega
      · cases e1
        refine ⟨g, cur, rfl, hg, by omega, fun i hi => ⟨none, 0, ?_⟩⟩
        have h14 : (cur.toList.take (k * 1))[i]? = some (.slice none 0 0) := by rw [h13]; simp [hi]
        rw [List.getElem?_take, if_pos (by omega), Array.getElem?_toList] at h14
        exact h14
end Go.Proofs.Ytpabfghpfigoaaa
