/-
  Layer 12: the reference in the heap; Is, Base, Read.
-/
import Derived.Test.YtpabfghpfigoaaaNow
import Derived.Test.YtpabfghpfigoaaaTrimsJ
namespace Go.Proofs.Ytpabfghpfigoaaa
open Go.RowKit Go.Tn Go.Shelf
open Go.Proofs

/-- What stands in the reference's row at a sector. -/
def SlotOk (w : World) (v : Option Value) (o : Option (Nat → Int)) : Prop :=
  match o with
  | none => ∃ ad c, v = some (.slice ad 0 c)
  | some g => ∃ q c, v = some (.slice (some ⟨q, 0, none⟩) 64 c) ∧ (∃ cs, Blk w q 5 cs) ∧ Bys w (some ⟨q, 0, none⟩) 64 g

structure RJ (w : World) (r : Nat) (la : Option Addr) (lc bb bc : Nat) (d : Nat → Int) (k m : Nat) (f : Int → Option (Nat → Int)) : Prop where
  blk : Blk w r 56 #[.slice (some ⟨bb, 0, none⟩) (64 * k : Nat) bc, .slice la k lc, .int .i64 ((m : Int) - (num f k : Nat))]
  base : Bys w (some ⟨bb, 0, none⟩) (64 * k) d
  bbk : ∃ cs, Blk w bb 5 cs
  cap : 64 * k ≤ bc
  row : 0 < k → ∃ lb cs, la = some ⟨lb, 0, none⟩ ∧ Blk w lb 27 cs ∧ k ≤ cs.size ∧ ∀ i : Nat, i < k → SlotOk w cs[i]? (f (i : Int))
  dom : ∀ x, (f x).isSome → 0 ≤ x ∧ x < k
  le : num f k ≤ m
  k6 : k ≤ 256
  m6 : m ≤ 256

/-- A block that the reference does not use. -/
def Off (w : World) (s : Nat) : Prop := ∀ t cs, t = 5 ∨ t = 27 ∨ t = 56 → ¬ Blk w s t cs

theorem SlotOk.mod {w w' : World} {v : Option Value} {o : Option (Nat → Int)} (h : SlotOk w v o) {S : List Nat} (hm : Tn.Mod S w w') (hS : ∀ q cs, Blk w q 5 cs → q ∉ S) : SlotOk w' v o := by
  unfold SlotOk at *
  cases o with
  | none => exact h
  | some g =>
    obtain ⟨q, c, h1, ⟨cs, h2⟩, h3⟩ := h
    exact ⟨q, c, h1, ⟨cs, h2.mod hm (hS q cs h2)⟩, h3.mod hm (fun b o e => by cases e; exact hS q cs h2)⟩

section
variable {w w' : World} {r lc bb bc k m : Nat} {la : Option Addr} {d : Nat → Int} {f : Int → Option (Nat → Int)}

theorem RJ.off (h : RJ w r la lc bb bc d k m f) {S : List Nat} (hm : Tn.Mod S w w') (hS : ∀ s, s ∈ S → Off w s) : RJ w' r la lc bb bc d k m f := by
  obtain ⟨h1, h2, ⟨cs, h3⟩, h4, h5, h6, h7, h8, h9⟩ := h
  have n5 : ∀ q cs, Blk w q 5 cs → q ∉ S := fun q cs hb hs => hS q hs 5 cs (.inl rfl) hb
  refine ⟨h1.mod hm (fun hs => hS r hs _ _ (.inr (.inr rfl)) h1), h2.mod hm (fun b o e => by cases e; exact n5 bb cs h3), ⟨cs, h3.mod hm (n5 bb cs h3)⟩, h4, fun h0 => ?_, h6, h7, h8, h9⟩
  obtain ⟨lb, cs2, e, hb, hsz, ha⟩ := h5 h0
  exact ⟨lb, cs2, e, hb.mod hm (fun hs => hS lb hs _ _ (.inr (.inl rfl)) hb), hsz, fun i hi => (ha i hi).mod hm n5⟩
theorem RJ.mod0 (h : RJ w r la lc bb bc d k m f) (hm : Tn.Mod [] w w') : RJ w' r la lc bb bc d k m f := h.off hm (by simp)

/-- Before anything is written: a block that is none of its three. -/
theorem RJ.mod00 (h : RJ w r la lc bb bc d k m f00) {S : List Nat} (hm : Tn.Mod S w w') (h1 : r ∉ S) (h2 : bb ∉ S) (h3 : ∀ lb cs, Blk w lb 27 cs → lb ∉ S) : RJ w' r la lc bb bc d k m f00 := by
  obtain ⟨g1, g2, ⟨cs, g3⟩, g4, g5, g6, g7, g8, g9⟩ := h
  refine ⟨g1.mod hm h1, g2.mod hm (fun b o e => by cases e; exact h2), ⟨cs, g3.mod hm h2⟩, g4, fun h0 => ?_, g6, g7, g8, g9⟩
  obtain ⟨lb, cs2, e, hb, hsz, ha⟩ := g5 h0
  exact ⟨lb, cs2, e, hb.mod hm (h3 lb cs2 hb), hsz, fun i hi => ha i hi⟩

theorem is_f (h : RJ w r la lc bb bc d k m f) (x : Int) : Calls Try.prog 37 #[.pointer (some ⟨r, 0, none⟩), .int .i64 x] w fun e w' => e = .returned (.bool (decide (0 ≤ x ∧ x < k))) ∧ w = w' := by
  have c1 := h.blk.cell 1
  simp only [List.getElem?_toArray, List.getElem?_cons_zero, List.getElem?_cons_succ] at c1
  clear h
  by_cases h0 : x < 0
  · have e : decide (0 ≤ x ∧ x < (k : Int)) = false := decide_eq_false (by omega)
    rw [e]
    go_enter Try.func37, Try.ntmps37
    go_wp2
    go_ret
    exact ⟨rfl, rfl⟩
  · have h0' : 0 ≤ x := by omega
    by_cases h1 : x < k
    · have e : decide (0 ≤ x ∧ x < (k : Int)) = true := decide_eq_true (by omega)
      rw [e]
      clear h0
      go_enter Try.func37, Try.ntmps37
      go_wp2
      go_ret
      exact ⟨rfl, rfl⟩
    · have e : decide (0 ≤ x ∧ x < (k : Int)) = false := decide_eq_false (by omega)
      have h2 : decide (x < (k : Int)) = false := decide_eq_false h1
      rw [e]
      clear h0 h1 e
      go_enter Try.func37, Try.ntmps37
      go_wp2
      go_ret
      exact ⟨rfl, rfl⟩

theorem rbase_out (h : RJ w r la lc bb bc d k m f) (x : Int) (hx : ¬ (0 ≤ x ∧ x < k)) : Calls Try.prog 35 #[.pointer (some ⟨r, 0, none⟩), .int .i64 x] w fun e w' => e = .returned (.tuple #[.slice none 0 0, .int .i64 1]) ∧ w = w' := by
  have H := hid h
  have e : decide (0 ≤ x ∧ x < (k : Int)) = false := decide_eq_false hx
  have E := hid e
  clear h e hx
  go_enter Try.func35, Try.ntmps35
  go_wp2_with (go_at_call 37; refine (is_f H.out _).mono ?_; rw [E.out]; rintro e w' ⟨rfl, rfl⟩)
  go_ret2
  exact ⟨rfl, rfl⟩

set_option maxHeartbeats 2000000 in
theorem rbase_in (h : RJ w r la lc bb bc d k m f) (X : Nat) (hx : X < k) : Calls Try.prog 35 #[.pointer (some ⟨r, 0, none⟩), .int .i64 (X : Nat)] w fun e w' => ∃ q c, e = .returned (.tuple #[.slice (some ⟨q, 0, none⟩) 64 c, .int .i64 0]) ∧ Bys w' (some ⟨q, 0, none⟩) 64 (fun j => d (64 * X + j)) ∧ Tn.Mod [] w w' := by
  have H := hid h
  have hk6 := h.k6
  have hcap := h.cap
  have e : decide (0 ≤ (X : Int) ∧ (X : Int) < (k : Int)) = true := decide_eq_true (by omega)
  have E := hid e
  have hm1 : Tn.Mod [] w (w.alloc (.cells #[] 5)) := (Mod.refl [] w).alloc _
  have HM := hid hm1
  have hR := (h.blk.mod hm1 (by simp)).cell 0
  simp only [List.getElem?_toArray, List.getElem?_cons_zero] at hR
  obtain ⟨L, hL⟩ : ∃ L, X * 64 = L := ⟨_, rfl⟩
  obtain ⟨H2, hH⟩ : ∃ H, (X + 1) * 64 = H := ⟨_, rfl⟩
  have t4 : (X : Int) * 64 = (L : Int) := by omega
  have t5 : ((X : Int) + 1) * 64 = (H2 : Int) := by omega
  have hLI : (L : Int) ≤ 16384 := by omega
  have hHI : (H2 : Int) ≤ 16384 := by omega
  have hXI : (X : Int) ≤ 256 := by omega
  have hsl := slice_64 (b := bb) (off := 0) (len := 64 * k) (cap := bc) (l := L) (h := H2) (by omega) (by omega)
  simp only [Nat.zero_add] at hsl
  have HW := hid (show Bys (w.alloc (.cells #[] 5)) (some ⟨bb, L, none⟩) 64 (fun j => d (64 * X + j)) by
    have h1 := Bys_win (l := L) (n := 64) (h.base.mod hm1 (by simp)) (by omega)
    rw [Nat.zero_add] at h1
    rw [show L = 64 * X by omega] at h1 ⊢
    exact h1)
  have HQ := hid (Blk.new w 5 #[])
  clear h hL hH hx e hm1 hcap
  go_enter Try.func35, Try.ntmps35
  go_wp2_with (first
    | (go_at_call 37; refine (is_f H.out _).mono ?_; rw [E.out]; rintro e w' ⟨rfl, rfl⟩)
    | (at_builtin; refine wpList_app5 rfl _ _ rfl w.heap.size rfl (some ⟨bb, L, none⟩) 64 (bc - L) rfl (fun j => d (64 * X + j)) HQ.out HW.out (by omega) ?_))
  intro q' c' w1 h1 h2 h3 cs h4 h5 h6
  have H1 := hid (Bys_cells h2 h3)
  have H2 := hid (HM.out.trans h5 (by simp))
  clear h1 h2 h3 h4 h5 h6
  go_wp2
  go_ret2
  exact ⟨q', c', rfl, H1.out, H2.out⟩
end
end Go.Proofs.Ytpabfghpfigoaaa
