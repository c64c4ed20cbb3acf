/-
  Layer 12: Need's refusals, of both; the reference's Dirty and New.
-/
import Derived.Test.YtpabfghpfigoaaaRy
namespace Go.Proofs.Ytpabfghpfigoaaa
open Go.RowKit Go.Tn Go.Shelf
open Go.Proofs

def needBad (k : Nat) (a n : Int) : Prop := n < 0 ∨ a < 0 ∨ (k : Int) < a ∨ (k : Int) - a < n

section
variable {w w' : World} {r lc bb bc k m p mb B : Nat} {la : Option Addr} {d : Nat → Int} {f : Int → Option (Nat → Int)}

theorem rneed_bad (h : RJ w r la lc bb bc d k m f) (a n : Int) (hb : needBad k a n) :
    Calls Try.prog 34 #[.pointer (some ⟨r, 0, none⟩), .int .i64 a, .int .i64 n] w fun e w' => e = .returned (.tuple #[.int .i64 0, .int .i64 1]) ∧ w = w' := by
  have c1 := h.blk.cell 1
  simp only [List.getElem?_toArray, List.getElem?_cons_zero, List.getElem?_cons_succ] at c1
  have hk : (k : Int) ≤ 256 := by have := h.k6; omega
  clear h
  by_cases h1 : n < 0
  · clear hb
    go_enter Try.func34, Try.ntmps34
    go_wp2
    go_ret2
    exact ⟨rfl, rfl⟩
  have h1' : 0 ≤ n := by omega
  by_cases h2 : a < 0
  · clear hb h1
    go_enter Try.func34, Try.ntmps34
    go_wp2
    go_ret2
    exact ⟨rfl, rfl⟩
  have h2' : 0 ≤ a := by omega
  by_cases h3 : (k : Int) < a
  · clear hb h1 h2
    go_enter Try.func34, Try.ntmps34
    go_wp2
    go_ret2
    exact ⟨rfl, rfl⟩
  have h3' : a ≤ (k : Int) := by omega
  have h4 : (k : Int) - a < n := by unfold needBad at hb; omega
  clear hb h1 h2 h3
  go_enter Try.func34, Try.ntmps34
  go_wp2
  go_ret2
  exact ⟨rfl, rfl⟩

theorem need_bad (h : JM w p mb B d k m f) (a n : Int) (hb : needBad k a n) :
    Calls Try.prog 12 #[.pointer (some ⟨p, 0, none⟩), .int .i64 a, .int .i64 n] w fun e w' => e = .returned (.tuple #[.int .i64 0, .int .i64 1]) ∧ w = w' := by
  obtain ⟨ad, cap, hbk, _⟩ := h.im.blk
  have c1 := hbk.cell 1
  simp only [List.getElem?_toArray, List.getElem?_cons_zero, List.getElem?_cons_succ] at c1
  have hk : (k : Int) ≤ 256 := by have := h.k6; omega
  have H := hid h
  clear h hbk
  by_cases h1 : n < 0
  · clear hb
    go_enter Try.func12, Try.ntmps12
    go_wp2_with (go_at_call 27; refine (none_f H.out.im).mono ?_; rintro e w' ⟨rfl, rfl⟩)
    go_ret2
    exact ⟨rfl, rfl⟩
  have h1' : 0 ≤ n := by omega
  by_cases h2 : a < 0
  · clear hb h1
    go_enter Try.func12, Try.ntmps12
    go_wp2_with (go_at_call 27; refine (none_f H.out.im).mono ?_; rintro e w' ⟨rfl, rfl⟩)
    go_ret2
    exact ⟨rfl, rfl⟩
  have h2' : 0 ≤ a := by omega
  by_cases h3 : (k : Int) < a
  · clear hb h1 h2
    go_enter Try.func12, Try.ntmps12
    go_wp2_with (go_at_call 27; refine (none_f H.out.im).mono ?_; rintro e w' ⟨rfl, rfl⟩)
    go_ret2
    exact ⟨rfl, rfl⟩
  have h3' : a ≤ (k : Int) := by omega
  have h4 : (k : Int) - a < n := by unfold needBad at hb; omega
  clear hb h1 h2 h3
  go_enter Try.func12, Try.ntmps12
  go_wp2_with (go_at_call 27; refine (none_f H.out.im).mono ?_; rintro e w' ⟨rfl, rfl⟩)
  go_ret2
  exact ⟨rfl, rfl⟩

set_option maxHeartbeats 2000000 in
theorem rdirty_j (h : RJ w r la lc bb bc d k m f) :
    Calls Try.prog 23 #[.pointer (some ⟨r, 0, none⟩)] w fun e w' => ∃ A cap, e = .returned (.slice A (num f k) cap) ∧ w'.ownsRow w.heap.size 3 1 (.slice A (num f k) cap) (num f k) (intsL (dirtyL f k)) ∧ Tn.Mod [] w w' := by
  obtain ⟨i0, hi, hz0, hz1, hz2⟩ := info_parts info3
  have H := hid h
  have hk : (k : Int) ≤ 256 := by have := h.k6; omega
  clear h
  go_enter Try.func23, Try.ntmps23
  go_wp2
  go_loopw [3, 4] (fun v i wr => ∃ (j : Nat) (A : Option Addr) (cap n : Nat), j ≤ k ∧ v = .slice A n cap ∧ i = .int .i64 (j : Int) ∧ Hid (n = num f j) ∧ Hid (wr.ownsRow w.heap.size 3 1 (.slice A n cap) n (intsL (dirtyL f j))) ∧ Hid (Tn.Mod [] w wr)) (fun _ i _ => k - (intOf i).toNat)
  case atStart => exact ⟨0, none, 0, 0, Nat.zero_le _, rfl, rfl, rfl, World.ownsRow_nil _ _ _ _, Mod.refl _ w⟩
  case round =>
    obtain ⟨j, A, cap, n, hj, rfl, rfl, hn, hD, hM⟩ := hrel
    have HJ := hid (H.out.mod0 hM.out)
    have c1 := HJ.out.blk.cell 1
    simp only [List.getElem?_toArray, List.getElem?_cons_zero, List.getElem?_cons_succ] at c1
    by_cases hlt : j < k
    · have hlt' : (j : Int) < (k : Int) := by omega
      obtain ⟨lb, ad, len, c, rfl, _, hc, hlen⟩ := HJ.out.len_at j hlt
      have hsucc := dirtyL_succ f j
      have hns := num_succ f j
      have hnl := num_le f j
      cases hio : (f (j : Int)).isSome with
      | false =>
        rw [hio] at hlen hsucc hns
        simp only [Bool.false_eq_true, if_false] at hlen hsucc hns
        rw [List.append_nil] at hsucc
        rw [Nat.add_zero] at hns
        subst hlen
        have HS := hid hsucc
        have HNS := hid hns
        clear hsucc hns hnl
        go_wp2
        go_roundw
        case rel => exact ⟨j + 1, A, cap, n, by omega, rfl, by go_num, hid (by rw [HNS.out]; exact hn.out), hid (by rw [HS.out]; exact hD.out), hM⟩
        case measure => simp [intOf]; omega
      | true =>
        rw [hio] at hlen hsucc hns
        simp only [if_true] at hlen hsucc hns
        subst hlen
        have HS := hid hsucc
        have HNS := hid hns
        have hn256 := hid (show n ≤ 256 by have := hn.out; omega)
        have hal := hid (hD.out.alloc (.cells #[.int .i64 (j : Int)] 3))
        have hsz := hid hM.out.size
        clear hsucc hns hnl
        go_wp2_with (at_builtin; refine wpList_append_own _ rfl _ _ 43 rfl w.heap.size 3 i0 _ 1 8 Try.underlying43 hi hz0 hz1 hz2 rfl (by decide) _ _ _ rfl hal.out ⟨wr.heap.size, 0, none⟩ 1 1 [.int .i64 (j : Int)] rfl rfl ?c1 ?c2 ?c3 ?c4 ?c5 ?_)
        case c1 =>
          intro j u hj
          match j, hj with
          | 0, hj => simp at hj; subst hj; simp [Addr.add]
        case c2 => intro u hu; simp at hu; subst hu; rfl
        case c3 => have := hn256.out; unfold maxLen; omega
        case c4 => have := hn256.out; omega
        case c5 => have := hsz.out; simp; omega
        intro v' w1 hown' hgrow _
        obtain ⟨A', cap', rfl⟩ := own_sl hown'
        have hne : ∀ b, (Value.slice A n cap).ownBlock = some b → w.heap.size ≤ b := fun b hb' => (hD.out.lt b hb').1
        have HO := hid hown'
        have HG := hid hgrow
        have HNE := hid hne
        clear hown' hgrow hne
        go_wp2
        go_roundw
        case rel =>
          refine ⟨j + 1, A', cap', n + 1, by omega, rfl, by go_num, hid (by rw [HNS.out, hn.out]), hid (by rw [HS.out]; exact HO.out), hid ((hM.out.alloc _).grown HG.out fun b hb' => .inr (HNE.out b hb'))⟩
        case measure => simp [intOf]; omega
    · obtain rfl : k = j := by omega
      clear hlt
      go_wp2
      go_ret
      refine ⟨A, cap, by rw [← hn.out]; rfl, by rw [← hn.out]; exact hD.out, hM.out⟩
end
end Go.Proofs.Ytpabfghpfigoaaa
