/-
  Layer 12: program and reference side by side; ints.
-/
import Derived.Test.YtpabfghpfigoaaaCp
import Derived.Test.YtpabfghpfigoaaaRn
import Derived.BigQuiet
namespace Go.Proofs.Ytpabfghpfigoaaa
open Go.RowKit Go.Tn Go.Shelf
open Go.Proofs

theorem JM.others {w w' : World} {p mb B k m : Nat} {d : Nat → Int} {f : Int → Option (Nat → Int)} (h : JM w p mb B d k m f) {S : List Nat} (hS : ∀ s ∈ S, ∃ t cs, Blk w s t cs ∧ t ≠ 40 ∧ t ≠ 62) (hm : Tn.Mod S w w') : JM w' p mb B d k m f := by
  refine h.mod hm (fun hs => ?_) (fun hs => ?_) (fun s hs cs hc => ?_)
  · obtain ⟨t, cs, hb, h1, _⟩ := hS p hs
    obtain ⟨a, cap, hp, _⟩ := h.im.blk
    exact hb.ne_ hp h1 rfl
  · obtain ⟨t, cs, hb, _⟩ := hS mb hs
    exact hb.ne_map h.im.is.imap rfl
  · obtain ⟨t, cs2, hb, _, h2⟩ := hS s hs
    exact hb.ne_ hc h2 rfl

structure TW (w0 w : World) (p mb B r : Nat) (la : Option Addr) (lc bb bc : Nat) (d : Nat → Int) (k m : Nat) (f : Int → Option (Nat → Int)) : Prop where
  x : JM w p mb B d k m f
  y : RJ w r la lc bb bc d k m f
  mod : Tn.Mod [] w0 w
  mbg : w0.heap.size ≤ mb
  rg : w0.heap.size ≤ r
  lg : ∀ lb, la = some ⟨lb, 0, none⟩ → w0.heap.size ≤ lb

def rdLen (k : Nat) (x : Int) : Nat := if 0 ≤ x ∧ x < k then 64 else 0

section
variable {w0 w w' : World} {p mb B r lc bb bc k m : Nat} {la : Option Addr} {d : Nat → Int} {f f' : Int → Option (Nat → Int)}

theorem TW.mod0 (h : TW w0 w p mb B r la lc bb bc d k m f) (hm : Tn.Mod [] w w') : TW w0 w' p mb B r la lc bb bc d k m f :=
  ⟨h.x.mod0 hm, h.y.mod0 hm, h.mod.andThen hm, h.mbg, h.rg, h.lg⟩

/-- The program has turned, then the reference. -/
theorem TW.after_x (h : TW w0 w p mb B r la lc bb bc d k m f) (hx : JM w' p mb B d k m f') (hm : Tn.Mod [mb] w w') : RJ w' r la lc bb bc d k m f ∧ Tn.Mod [] w0 w' :=
  ⟨h.y.off hm (fun s hs t cs _ hb => by simp at hs; subst hs; exact hb.ne_map h.x.im.is.imap rfl), h.mod.trans hm (by intro s hs; simp at hs; subst hs; exact .inr h.mbg)⟩
theorem TW.after_r (hx : JM w p mb B d k m f') (h1 : Tn.Mod [] w0 w) (hy0 : RJ w r la lc bb bc d k m f) (hy : RJ w' r la lc bb bc d k m f') (hm : w' = w ∨ ∃ lb cs, la = some ⟨lb, 0, none⟩ ∧ Blk w lb 27 cs ∧ Tn.Mod [r, lb] w w') (g1 : w0.heap.size ≤ mb) (g2 : w0.heap.size ≤ r) (g3 : ∀ lb, la = some ⟨lb, 0, none⟩ → w0.heap.size ≤ lb) : TW w0 w' p mb B r la lc bb bc d k m f' := by
  rcases hm with rfl | ⟨lb, cs, e, hb, hm⟩
  · exact ⟨hx, hy, h1, g1, g2, g3⟩
  · exact ⟨hx.others (fun s hs => by
      simp at hs
      rcases hs with rfl | rfl
      · exact ⟨56, _, hy0.blk, by decide, by decide⟩
      · exact ⟨27, cs, hb, by decide, by decide⟩) hm, hy, h1.trans hm (by intro s hs; simp at hs; rcases hs with rfl | rfl; exact .inr g2; exact .inr (g3 _ e)), g1, g2, g3⟩

theorem Bys_zero (a : Option Addr) (g : Nat → Int) : Bys w a 0 g := fun h => absurd h (by omega)

theorem xread (h : JM w p mb B d k m f) (x : Int) : Calls Try.prog 14 #[.pointer (some ⟨p, 0, none⟩), .int .i64 x] w fun e w' => ∃ ad c, e = .returned (.tuple #[.slice ad (rdLen k x) c, .int .i64 (secE k x)]) ∧ Bys w' ad (rdLen k x) (cur d f x.toNat) ∧ Tn.Mod [] w w' := by
  unfold rdLen secE
  by_cases hx : 0 ≤ x ∧ x < k
  · rw [if_pos hx, if_pos hx]
    obtain ⟨X, rfl⟩ := Int.eq_ofNat_of_zero_le hx.1
    refine (read_j h X (by omega)).mono ?_
    rintro e w' ⟨q, rfl, hb, _, hm⟩
    exact ⟨_, _, rfl, Bys_sec hb, hm⟩
  · rw [if_neg hx, if_neg hx]
    refine (read_out h.im x hx h.pB h.Bw).mono ?_
    rintro e w' ⟨rfl, hm⟩
    exact ⟨_, _, rfl, Bys_zero _ _, hm⟩
theorem yread (h : RJ w r la lc bb bc d k m f) (x : Int) : Calls Try.prog 31 #[.pointer (some ⟨r, 0, none⟩), .int .i64 x] w fun e w' => ∃ ad c, e = .returned (.tuple #[.slice ad (rdLen k x) c, .int .i64 (secE k x)]) ∧ Bys w' ad (rdLen k x) (cur d f x.toNat) ∧ Tn.Mod [] w w' := by
  unfold rdLen secE
  by_cases hx : 0 ≤ x ∧ x < k
  · rw [if_pos hx, if_pos hx]
    obtain ⟨X, rfl⟩ := Int.eq_ofNat_of_zero_le hx.1
    refine (rread_in h X (by omega)).mono ?_
    rintro e w' ⟨q, c, rfl, hb, hm⟩
    exact ⟨_, _, rfl, hb, hm⟩
  · rw [if_neg hx, if_neg hx]
    refine (rread_out h x hx).mono ?_
    rintro e w' ⟨rfl, rfl⟩
    exact ⟨_, _, rfl, Bys_zero _ _, Mod.refl _ _⟩
theorem xbase (h : JM w p mb B d k m f) (x : Int) : Calls Try.prog 15 #[.pointer (some ⟨p, 0, none⟩), .int .i64 x] w fun e w' => ∃ ad c, e = .returned (.tuple #[.slice ad (rdLen k x) c, .int .i64 (secE k x)]) ∧ Bys w' ad (rdLen k x) (fun j => d (64 * x.toNat + j)) ∧ Tn.Mod [] w w' := by
  unfold rdLen secE
  by_cases hx : 0 ≤ x ∧ x < k
  · rw [if_pos hx, if_pos hx]
    obtain ⟨X, rfl⟩ := Int.eq_ofNat_of_zero_le hx.1
    refine (base_j h X (by omega)).mono ?_
    rintro e w' ⟨q, rfl, hb, _, hm⟩
    exact ⟨_, _, rfl, Bys_sec hb, hm⟩
  · rw [if_neg hx, if_neg hx]
    refine (base_out h.im x hx).mono ?_
    rintro e w' ⟨rfl, rfl⟩
    exact ⟨_, _, rfl, Bys_zero _ _, Mod.refl _ _⟩
theorem ybase (h : RJ w r la lc bb bc d k m f) (x : Int) : Calls Try.prog 35 #[.pointer (some ⟨r, 0, none⟩), .int .i64 x] w fun e w' => ∃ ad c, e = .returned (.tuple #[.slice ad (rdLen k x) c, .int .i64 (secE k x)]) ∧ Bys w' ad (rdLen k x) (fun j => d (64 * x.toNat + j)) ∧ Tn.Mod [] w w' := by
  unfold rdLen secE
  by_cases hx : 0 ≤ x ∧ x < k
  · rw [if_pos hx, if_pos hx]
    obtain ⟨X, rfl⟩ := Int.eq_ofNat_of_zero_le hx.1
    refine (rbase_in h X (by omega)).mono ?_
    rintro e w' ⟨q, c, rfl, hb, hm⟩
    exact ⟨_, _, rfl, hb, hm⟩
  · rw [if_neg hx, if_neg hx]
    refine (rbase_out h x hx).mono ?_
    rintro e w' ⟨rfl, rfl⟩
    exact ⟨_, _, rfl, Bys_zero _ _, Mod.refl _ _⟩

open Classical in
noncomputable def needN (f : Int → Option (Nat → Int)) (k : Nat) (a n : Int) : Int := if needBad k a n then 0 else (cnt f a.toNat n.toNat : Nat)
open Classical in
noncomputable def needE (k : Nat) (a n : Int) : Int := if needBad k a n then 1 else 0
theorem xneed (h : JM w p mb B d k m f) (a n : Int) : Calls Try.prog 12 #[.pointer (some ⟨p, 0, none⟩), .int .i64 a, .int .i64 n] w fun e w' => e = .returned (.tuple #[.int .i64 (needN f k a n), .int .i64 (needE k a n)]) ∧ Tn.Mod [] w w' := by
  unfold needN needE
  by_cases hb : needBad k a n
  · rw [if_pos hb, if_pos hb]
    exact (need_bad h a n hb).mono fun e w' ⟨h1, h2⟩ => ⟨h1, h2 ▸ Mod.refl _ _⟩
  · rw [if_neg hb, if_neg hb]
    unfold needBad at hb
    obtain ⟨A, rfl⟩ := Int.eq_ofNat_of_zero_le (show 0 ≤ a by omega)
    obtain ⟨N, rfl⟩ := Int.eq_ofNat_of_zero_le (show 0 ≤ n by omega)
    exact need_j h A N (by omega)
theorem yneed (h : RJ w r la lc bb bc d k m f) (a n : Int) : Calls Try.prog 34 #[.pointer (some ⟨r, 0, none⟩), .int .i64 a, .int .i64 n] w fun e w' => e = .returned (.tuple #[.int .i64 (needN f k a n), .int .i64 (needE k a n)]) ∧ Tn.Mod [] w w' := by
  unfold needN needE
  by_cases hb : needBad k a n
  · rw [if_pos hb, if_pos hb]
    exact (rneed_bad h a n hb).mono fun e w' ⟨h1, h2⟩ => ⟨h1, h2 ▸ Mod.refl _ _⟩
  · rw [if_neg hb, if_neg hb]
    unfold needBad at hb
    obtain ⟨A, rfl⟩ := Int.eq_ofNat_of_zero_le (show 0 ≤ a by omega)
    obtain ⟨N, rfl⟩ := Int.eq_ofNat_of_zero_le (show 0 ≤ n by omega)
    exact (rneed_in h A N (by omega)).mono fun e w' ⟨h1, h2⟩ => ⟨h1, h2 ▸ Mod.refl _ _⟩

/-- The same numbers. -/
theorem ints_f (A1 A2 : Option Addr) (n c1 c2 b1 b2 : Nat) (l : List Nat) (hl : l.length = n) (hn : n ≤ 256) (h1 : w.ownsRow b1 3 1 (.slice A1 n c1) n (intsL l)) (h2 : w.ownsRow b2 3 1 (.slice A2 n c2) n (intsL l)) :
    Calls Try.prog 22 #[.slice A1 n c1, .slice A2 n c2] w fun e w' => e = .returned (.bool true) ∧ Tn.Mod [] w w' := by
  have hnI : (n : Int) ≤ 256 := by omega
  have cellAt : ∀ (A : Option Addr) (c b t : Nat), w.ownsRow b 3 1 (.slice A n c) n (intsL l) → t < n → ∃ g, A = some ⟨g, 0, none⟩ ∧ w.cell? ⟨g, t, none⟩ = some (.int .i64 ((l.getD t 0 : Nat) : Int)) := by
    intro A c b t ho ht
    obtain ⟨_, ⟨e, h0⟩ | ⟨g, cp, cur, e, _⟩⟩ := id ho
    · omega
    · cases e
      refine ⟨g, rfl, ?_⟩
      have h5 := ho.cells (g := g) rfl t (.int .i64 ((l.getD t 0 : Nat) : Int)) (by
        unfold intsL
        rw [List.getElem?_map, List.getD_eq_getElem?_getD, List.getElem?_eq_getElem (by omega)]
        rfl)
      rw [Addr.add_lit, Nat.zero_add] at h5
      exact h5
  have HC := hid cellAt
  have H1 := hid h1
  have H2 := hid h2
  clear cellAt h1 h2 hl hn
  go_enter Try.func22, Try.ntmps22
  go_wp2
  go_loopw [5] (fun i wr => ∃ (j nd : Nat), j ≤ n ∧ i = .int .i64 (j : Int) ∧ wr = w.drewN nd) (fun i _ => n - (intOf i).toNat)
  case atStart => exact ⟨0, 0, Nat.zero_le _, rfl, rfl⟩
  case round =>
    obtain ⟨j, nd, hj, rfl, rfl⟩ := hrel
    by_cases hlt : j < n
    · obtain ⟨g1, rfl, hc1⟩ := HC.out A1 c1 b1 j H1.out hlt
      obtain ⟨g2, rfl, hc2⟩ := HC.out A2 c2 b2 j H2.out hlt
      have hlt' : (j : Int) < (n : Int) := by omega
      have e1 : (w.drewN nd).cell? ⟨g1, j, none⟩ = some (.int .i64 ((l.getD j 0 : Nat) : Int)) := hc1
      have e2 : (w.drewN nd).cell? ⟨g2, j, none⟩ = some (.int .i64 ((l.getD j 0 : Nat) : Int)) := hc2
      generalize ((l.getD j 0 : Nat) : Int) = V at hc1 hc2 e1 e2
      go_wp2
      go_quiet (fail)
      go_wp2
      go_roundw
      case rel => exact ⟨j + 1, _, by omega, by go_num, rfl⟩
      case measure => simp [intOf]; omega
    · obtain rfl : n = j := by omega
      clear hlt
      go_wp2
      go_ret
      exact ⟨rfl, (Mod.refl [] w).drewN nd⟩
end
end Go.Proofs.Ytpabfghpfigoaaa
