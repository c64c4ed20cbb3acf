/-
  Layer 12: the reference: Trim, Need; Need's refusals; ints.
-/
import Derived.Test.YtpabfghpfigoaaaRx
import Derived.LoopTactic
namespace Go.Proofs.Ytpabfghpfigoaaa
open Go.RowKit Go.Tn Go.Shelf
open Go.Proofs

section
variable {w w' : World} {r lc bb bc k m : Nat} {la : Option Addr} {d : Nat → Int} {f : Int → Option (Nat → Int)}

theorem put_same {f : Int → Option (Nat → Int)} {x : Int} (h : f x = none) : put f x none = f := by
  funext n
  unfold put
  split
  · rename_i e; subst e; exact h.symm
  · rfl

theorem rtrim_out (h : RJ w r la lc bb bc d k m f) (x : Int) (hx : ¬ (0 ≤ x ∧ x < k)) : Calls Try.prog 33 #[.pointer (some ⟨r, 0, none⟩), .int .i64 x] w fun e w' => e = .returned (.int .i64 1) ∧ w = w' := by
  have H := hid h
  have e : decide (0 ≤ x ∧ x < (k : Int)) = false := decide_eq_false hx
  have E := hid e
  clear h e hx
  go_enter Try.func33, Try.ntmps33
  go_wp2_with (go_at_call 37; refine (is_f H.out _).mono ?_; rw [E.out]; rintro e w' ⟨rfl, rfl⟩)
  go_ret
  exact ⟨rfl, rfl⟩

set_option maxHeartbeats 2000000 in
theorem rtrim_none (h : RJ w r la lc bb bc d k m f) (X : Nat) (hx : X < k) (hf : f (X : Int) = none) : Calls Try.prog 33 #[.pointer (some ⟨r, 0, none⟩), .int .i64 (X : Nat)] w fun e w' => e = .returned (.int .i64 0) ∧ w = w' := by
  have H := hid h
  have e : decide (0 ≤ (X : Int) ∧ (X : Int) < (k : Int)) = true := decide_eq_true (by omega)
  have E := hid e
  have c1 := h.blk.cell 1
  simp only [List.getElem?_toArray, List.getElem?_cons_zero, List.getElem?_cons_succ] at c1
  obtain ⟨lb, cs, rfl, hb, hsz, ha⟩ := h.row (by omega)
  have hs := ha X hx
  rw [hf] at hs
  obtain ⟨ad0, c0, hs⟩ := hs
  have c2 := (hb.cell X).trans hs
  have hxI : (X : Int) < (k : Int) := by omega
  have hk6 := h.k6
  have hXI : (X : Int) ≤ 256 := by omega
  clear h e hx hb hsz ha hs hf
  go_enter Try.func33, Try.ntmps33
  go_wp2_with (go_at_call 37; refine (is_f H.out _).mono ?_; rw [E.out]; rintro e w' ⟨rfl, rfl⟩)
  go_ret
  exact ⟨rfl, rfl⟩

set_option maxHeartbeats 2000000 in
theorem rtrim_some (h : RJ w r la lc bb bc d k m f) (X : Nat) (hx : X < k) (hf : (f (X : Int)).isSome = true) : Calls Try.prog 33 #[.pointer (some ⟨r, 0, none⟩), .int .i64 (X : Nat)] w fun e w' => e = .returned (.int .i64 0) ∧ RJ w' r la lc bb bc d k m (put f (X : Int) none) ∧ ∃ lb cs, la = some ⟨lb, 0, none⟩ ∧ Blk w lb 27 cs ∧ Tn.Mod [r, lb] w w' := by
  have H := hid h
  have e : decide (0 ≤ (X : Int) ∧ (X : Int) < (k : Int)) = true := decide_eq_true (by omega)
  have E := hid e
  have c1 := h.blk.cell 1
  have c3 := h.blk.cell 2
  have f3 := h.blk.frozen 2
  simp only [List.getElem?_toArray, List.getElem?_cons_zero, List.getElem?_cons_succ] at c1 c3
  obtain ⟨lb, cs, rfl, hb, hsz, ha⟩ := h.row (by omega)
  have HROW := hid (show Blk w lb 27 cs ∧ k ≤ cs.size ∧ ∀ i : Nat, i < k → SlotOk w cs[i]? (f (i : Int)) from ⟨hb, hsz, ha⟩)
  have hs := ha X hx
  obtain ⟨g0, hg0⟩ := Option.isSome_iff_exists.1 hf
  rw [hg0] at hs
  obtain ⟨q0, c0, hs, _, _⟩ := hs
  have c2 := (hb.cell X).trans hs
  have f2 := hb.frozen X
  have hxI : (X : Int) < (k : Int) := by omega
  have hk6 := h.k6
  have hXI : (X : Int) ≤ 256 := by omega
  have hnp := num_put f (X : Int) none k (by omega)
  rw [hf] at hnp
  simp at hnp
  have hle := h.le
  have hm6 := h.m6
  obtain ⟨R, hR⟩ : ∃ R : Nat, (m : Int) - ((num f k : Nat) : Int) = (R : Int) := ⟨m - num f k, by omega⟩
  have HNP := hid (show (m : Int) - ((num (put f (X : Int) none) k : Nat) : Int) = (R : Int) + 1 by omega)
  have HLE := hid (show num (put f (X : Int) none) k ≤ m by omega)
  have hRb : (R : Int) ≤ 256 := by omega
  have HB := hid h.blk
  rw [hR] at c3 HB
  have hm1 : Tn.Mod [lb] w (w.setCell ⟨lb, X, none⟩ (.slice none 0 0)) := (Mod.refl _ w).setCell (.inl (by simp)) _
  have hrl : r ∉ [lb] := by simp; exact h.blk.ne_ hb (by decide)
  have d3 := (hm1.cell (p := ⟨r, 2, none⟩) h.blk.lt hrl).trans c3
  have g3 := (hm1.frozen (p := ⟨r, 2, none⟩) h.blk.lt hrl).trans f3
  have HM1 := hid hm1
  have HRL := hid hrl
  have HXK := hid hx
  clear h e hx hb hsz ha hs hf hnp hle hm6 hR hm1 hrl hg0
  go_enter Try.func33, Try.ntmps33
  go_wp2_with (go_at_call 37; refine (is_f H.out _).mono ?_; rw [E.out]; rintro e w' ⟨rfl, rfl⟩)
  go_ret
  have hmE : Tn.Mod [r, lb] w ((w.setCell ⟨lb, X, none⟩ (.slice none 0 0)).setCell ⟨r, 2, none⟩ (.int .i64 ((R : Int) + 1))) := (HM1.out.mono (by simp)).setCell (.inl (by simp)) _
  have hm2 : Tn.Mod [r] (w.setCell ⟨lb, X, none⟩ (.slice none 0 0)) ((w.setCell ⟨lb, X, none⟩ (.slice none 0 0)).setCell ⟨r, 2, none⟩ (.int .i64 ((R : Int) + 1))) := (Mod.refl _ _).setCell (.inl (by simp)) _
  obtain ⟨hb, hsz, ha⟩ := HROW.out
  refine ⟨rfl, ?_, lb, _, rfl, hb, hmE⟩
  refine RJ.write (v := .slice none 0 0) H.out HXK.out hb hsz ha hmE (by rw [HNP.out]; exact (HB.out.mod HM1.out HRL.out).set_ 2 _) ?_ ?_ (fun x hx => by unfold put; rw [if_neg hx]) HLE.out
  · exact (hb.set_ X (.slice none 0 0)).mod hm2 (by have := HRL.out; simp at this ⊢; exact fun e => this e.symm)
  · rw [put_at]
    exact ⟨none, 0, rfl⟩

theorem rtrim_j (h : RJ w r la lc bb bc d k m f) (x : Int) : Calls Try.prog 33 #[.pointer (some ⟨r, 0, none⟩), .int .i64 x] w fun e w' => e = .returned (.int .i64 (secE k x)) ∧ RJ w' r la lc bb bc d k m (put f x none) ∧ (w' = w ∨ ∃ lb cs, la = some ⟨lb, 0, none⟩ ∧ Blk w lb 27 cs ∧ Tn.Mod [r, lb] w w') := by
  unfold secE
  by_cases hx : 0 ≤ x ∧ x < k
  · rw [if_pos hx]
    obtain ⟨X, rfl⟩ := Int.eq_ofNat_of_zero_le hx.1
    have hX : X < k := by omega
    by_cases hf : (f (X : Int)).isSome = true
    · exact (rtrim_some h X hX hf).mono fun e w' ⟨h1, h2, h3⟩ => ⟨h1, h2, .inr h3⟩
    · have hf0 : f (X : Int) = none := by simpa using hf
      rw [put_same hf0]
      exact (rtrim_none h X hX hf0).mono fun e w' ⟨h1, h2⟩ => ⟨h1, h2 ▸ h, .inl h2.symm⟩
  · rw [if_neg hx, put_same (h.none_out hx)]
    exact (rtrim_out h x hx).mono fun e w' ⟨h1, h2⟩ => ⟨h1, h2 ▸ h, .inl h2.symm⟩

/-- The cell of a sector, as its length alone. -/
theorem RJ.len_at (h : RJ w r la lc bb bc d k m f) (X : Nat) (hx : X < k) : ∃ lb ad n c, la = some ⟨lb, 0, none⟩ ∧ lb < w.heap.size ∧ w.cell? ⟨lb, X, none⟩ = some (.slice ad n c) ∧ n = if (f (X : Int)).isSome then 64 else 0 := by
  obtain ⟨lb, cs, rfl, hb, hsz, ha⟩ := h.row (by omega)
  have hs := ha X hx
  cases hf : f (X : Int) with
  | none =>
    rw [hf] at hs
    obtain ⟨ad, c, hs⟩ := hs
    exact ⟨lb, ad, 0, c, rfl, hb.lt, (hb.cell X).trans hs, by simp⟩
  | some g =>
    rw [hf] at hs
    obtain ⟨q, c, hs, _, _⟩ := hs
    exact ⟨lb, _, 64, c, rfl, hb.lt, (hb.cell X).trans hs, by simp⟩

set_option maxHeartbeats 2000000 in
theorem rneed_in (h : RJ w r la lc bb bc d k m f) (a n : Nat) (hn : a + n ≤ k) :
    Calls Try.prog 34 #[.pointer (some ⟨r, 0, none⟩), .int .i64 (a : Nat), .int .i64 (n : Nat)] w fun e w' => e = .returned (.tuple #[.int .i64 (cnt f a n : Nat), .int .i64 0]) ∧ w = w' := by
  have c1 := h.blk.cell 1
  simp only [List.getElem?_toArray, List.getElem?_cons_zero, List.getElem?_cons_succ] at c1
  have H := hid h
  have hk6 := h.k6
  have h1 : (a : Int) ≤ (k : Int) := by omega
  have h2 : (n : Int) ≤ (k : Int) - (a : Int) := by omega
  have h3 : (k : Int) ≤ 256 := by omega
  obtain ⟨E, hE⟩ : ∃ E, a + n = E := ⟨_, rfl⟩
  have e1 : (a : Int) + (n : Int) = (E : Int) := by omega
  have hEb : (E : Int) ≤ 256 := by omega
  have HE := hid hE
  have HN := hid hn
  clear h hE hn
  go_enter Try.func34, Try.ntmps34
  go_wp2
  go_loopw [8, 9] (fun v i wr => ∃ j q : Nat, j ≤ n ∧ Hid (q = a + j) ∧ v = .int .i64 (cnt f a j : Nat) ∧ i = .int .i64 (q : Int) ∧ wr = w) (fun _ i _ => E - (intOf i).toNat)
  case atStart => exact ⟨0, a, Nat.zero_le _, rfl, rfl, rfl, rfl⟩
  case round =>
    obtain ⟨j, q, hj, hq, rfl, rfl, rfl⟩ := hrel
    by_cases hlt : j < n
    · have hlt' : (q : Int) < (E : Int) := by have := hq.out; have := HE.out; omega
      have hqk : (q : Int) < (k : Int) := by have := hq.out; have := HN.out; omega
      obtain ⟨lb, ad, len, c, rfl, _, hc, hlen⟩ := H.out.len_at q (by omega)
      have hct := cnt_le f a j
      have hsucc0 := cnt_succ f a j
      rw [← hq.out] at hsucc0
      generalize hv : cnt f a j = V at hct hsucc0
      have hVb : (V : Int) ≤ 256 := by omega
      cases hio : (f (q : Int)).isSome with
      | true =>
        rw [hio] at hlen hsucc0
        simp only [if_true] at hlen hsucc0
        subst hlen
        have HS := hid hsucc0
        have HV := hid hv
        clear hsucc0 hv hct
        go_wp2
        go_roundw
        case rel => exact ⟨j + 1, q + 1, by omega, hid (by have := hq.out; omega), by rw [HS.out]; rfl, by go_num, by trivial⟩
        case measure => simp [intOf]; omega
      | false =>
        rw [hio] at hlen hsucc0
        simp only [Bool.false_eq_true, if_false] at hlen hsucc0
        subst hlen
        have HS := hid hsucc0
        have HV := hid hv
        clear hsucc0 hv hct
        go_wp2
        go_roundw
        case rel => exact ⟨j + 1, q + 1, by omega, hid (by have := hq.out; omega), by rw [HS.out]; go_num, by go_num, by trivial⟩
        case measure => simp [intOf]; omega
    · obtain rfl : n = j := by omega
      have hlt' : (E : Int) ≤ (q : Int) := by have := hq.out; have := HE.out; omega
      clear hlt
      go_wp2
      go_ret2
      exact ⟨rfl, rfl⟩
end
end Go.Proofs.Ytpabfghpfigoaaa
