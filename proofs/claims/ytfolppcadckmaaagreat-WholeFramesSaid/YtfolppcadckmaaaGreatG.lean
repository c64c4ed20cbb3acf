/-
  Layer 14, bridge.Bridge: Head, Done.
-/
import Derived.Test.YtfolppcadckmaaaGreatF
set_option maxRecDepth 100000
namespace Go.Proofs.YtfolppcadckmaaaGreat.Br
open Go.RowKit Go.Tn Go.Tn.P14

section
variable {w w' : World} {p bp bk : Nat} {FP : List Nat} {C : Nat → Option Addr × Nat} {S : St}

def headP (S : St) (bp : Nat) (x : Int) : Option Addr := if isP S x then some ⟨bp, x.toNat * 13, none⟩ else none

/-- 'head'. -/
theorem headp_f (h : BM w p bp bk FP C S) (x : Int) : Calls Tryz.prog 86 #[.pointer (some ⟨p, 0, none⟩), .int .i64 x] w fun e w' => e = .returned (.tuple #[.pointer (headP S bp x), .int .i64 (headE S x)]) ∧ w = w' := by
  unfold headP headE
  by_cases hp : isP S x = true
  · obtain ⟨h0, h1⟩ := isP_iff.1 hp
    obtain ⟨k, rfl⟩ := Int.eq_ofNat_of_zero_le h0
    have hk : k < S.n := by omega
    have hpF : ¬ (isP S (k : Int) = false) := by simp [hp]
    rw [if_pos hp, if_neg hpF]
    simp only [Int.toNat_natCast]
    have dq := h.que hk
    obtain ⟨n, hn⟩ : ∃ n, (S.L k).q.length = n := ⟨_, rfl⟩
    rw [hn] at dq
    have H := hid h
    by_cases hq : (S.L k).q = []
    · rw [if_pos hq]
      have hn0 : n = 0 := by rw [← hn, hq]; rfl
      subst hn0
      clear h hp h0 h1 hpF hq hn
      go_enter Tryz.func86, Tryz.ntmps86
      go_wp2_with (go_at_call 37; refine (at_in H.out hk).mono ?_; rintro e w' ⟨rfl, rfl⟩)
      go_ret2
      exact ⟨rfl, rfl⟩
    · rw [if_neg hq]
      have hn0 : 0 < n := by rw [← hn]; exact List.length_pos_iff.2 hq
      have hn1 : ((n : Int) == 0) = false := by simp; omega
      clear h hp h0 h1 hpF hq hn
      go_enter Tryz.func86, Tryz.ntmps86
      go_wp2_with (go_at_call 37; refine (at_in H.out hk).mono ?_; rintro e w' ⟨rfl, rfl⟩)
      go_ret2
      exact ⟨rfl, rfl⟩
  · have hp' : isP S x = false := by simpa using hp
    rw [if_neg hp, if_pos hp']
    have H := hid h
    have HP := hid hp'
    clear hp hp' h
    go_enter Tryz.func86, Tryz.ntmps86
    go_wp2_with (go_at_call 37; refine (at_out H.out HP.out).mono ?_; rintro e w' ⟨rfl, rfl⟩)
    go_ret2
    exact ⟨rfl, rfl⟩

theorem headp_in (h : BM w p bp bk FP C S) {k : Nat} (hk : k < S.n) {fr : List Int} {q : List (List Int)} (hq : (S.L k).q = fr :: q) : Calls Tryz.prog 86 #[.pointer (some ⟨p, 0, none⟩), .int .i64 k] w fun e w' => e = .returned (.tuple #[.pointer (some ⟨bp, k * 13, none⟩), .int .i64 0]) ∧ w = w' := by
  have := headp_f h k
  have hp := isP_nat.2 hk
  rw [headP, if_pos hp, headE, if_neg (by simp [hp]), if_neg (by simp [hq])] at this
  exact this
theorem headp_not (h : BM w p bp bk FP C S) {x : Int} (hx : headE S x ≠ 0) : Calls Tryz.prog 86 #[.pointer (some ⟨p, 0, none⟩), .int .i64 x] w fun e w' => (∃ u, e = .returned (.tuple #[.pointer u, .int .i64 (headE S x)])) ∧ w = w' :=
  (headp_f h x).mono fun e w' ⟨h1, h2⟩ => ⟨⟨_, h1⟩, h2⟩

theorem headE_cases (S : St) (x : Int) : headE S x = 1 ∨ headE S x = 6 ∨ (headE S x = 0 ∧ ∃ k fr q, x = ((k : Nat) : Int) ∧ k < S.n ∧ (S.L k).q = fr :: q) := by
  unfold headE
  by_cases hp : isP S x = true
  · obtain ⟨h0, h1⟩ := isP_iff.1 hp
    obtain ⟨k, rfl⟩ := Int.eq_ofNat_of_zero_le h0
    rw [if_neg (by simp [hp])]
    simp only [Int.toNat_natCast]
    by_cases hq : (S.L k).q = []
    · rw [if_pos hq]; exact .inr (.inl rfl)
    · obtain ⟨fr, q, he⟩ := List.exists_cons_of_ne_nil hq
      rw [if_neg hq]; exact .inr (.inr ⟨rfl, k, fr, q, rfl, by omega, he⟩)
  · left
    rw [if_pos (by simpa using hp)]

/-- The first frame that waits, in the heap. -/
theorem BM.first (h : BM w p bp bk FP C S) {k : Nat} (hk : k < S.n) {fr : List Int} {q : List (List Int)} (hq : (S.L k).q = fr :: q) :
    ∃ g off cap fg fcap cs, w.cell? ⟨bp, k * 13 + 12, none⟩ = some (.slice (some ⟨g, off, none⟩) (q.length + 1) cap) ∧ C k = (some ⟨g, off, none⟩, cap) ∧ w.cell? ⟨g, off, none⟩ = some (.slice (some ⟨fg, 0, none⟩) fr.length fcap) ∧ Blk w fg 5 cs ∧ fg ∈ FP ∧
      (∀ (j : Nat) (y : Int), fr[j]? = some y → cs[j]? = some (.int .u8 y)) ∧ ∃ x xs, QRow w 22 (some ⟨g, off, none⟩) cap (x :: xs) ∧ Frs w FP (x :: xs) (fr :: q) := by
  obtain ⟨xs, hr, hf⟩ := h.rows.que k hk
  have hc := h.que hk
  rw [hq] at hf hc
  cases xs with
  | nil => have := hf.1; simp at this
  | cons x xs =>
    obtain ⟨g, off, hA⟩ := hr.addr (by simp)
    obtain ⟨⟨A, cap⟩, hC⟩ : ∃ c, C k = c := ⟨_, rfl⟩
    rw [hC] at hr hc hA
    simp only at hA
    subst hA
    obtain ⟨fg, fcap, cs, rfl, hfg, hb, hcs⟩ := hf.2 0 x fr (by simp) (by simp)
    have h0 := hr.cell (i := 0) (x := .slice (some ⟨fg, 0, none⟩) fr.length fcap) (by simp)
    exact ⟨g, off, cap, fg, fcap, cs, hc, hC, h0, hb, hfg, hcs, _, xs, hr, hf⟩

theorem blk_news {g : Nat} {cs : Array Value} {fr : List Int} (hb : Blk w g 5 cs) (hc : ∀ (j : Nat) (y : Int), fr[j]? = some y → cs[j]? = some (.int .u8 y)) : ∀ j u, (bytesV fr)[j]? = some u → w.cell? ((⟨g, 0, none⟩ : Addr).add j) = some u := by
  intro j u hu
  simp only [bytesV, List.getElem?_map, Option.map_eq_some_iff] at hu
  obtain ⟨y, hy, rfl⟩ := hu
  rw [add_none, hb.cell, Nat.zero_add]
  exact hc j y hy
theorem own_bytes {g cap n : Nat} {fr : List Int} (h : w.ownsRow 0 5 1 (.slice (some ⟨g, 0, none⟩) n cap) n (bytesV fr)) (hg : g < w.heap.size) (hb : ∀ y, y ∈ fr → 0 ≤ y ∧ y ≤ 255) : Bytes w (some ⟨g, 0, none⟩) fr :=
  ⟨hb, fun _ => ⟨g, 0, rfl, hg, fun j y hj => by
    have := h.cells (g := g) rfl j _ (bytesV_get hj)
    rwa [add_none] at this⟩⟩

set_option maxHeartbeats 1000000 in
/-- 'Head'. -/
theorem head_f (h : BM w p bp bk FP C S) {M : Int} (G : Ok S M) (x : Int) : Calls Tryz.prog 82 #[.pointer (some ⟨p, 0, none⟩), .int .i64 x] w fun e w' =>
    (∃ A cap, e = .returned (.tuple #[.slice A (headV S x).length cap, .int .i64 (headE S x)]) ∧ Bytes w' A (headV S x)) ∧ Mod [] w w' := by
  rcases headE_cases S x with he | he | ⟨he, k, fr, q, rfl, hk, hq⟩
  · have hv : headV S x = [] := by
      unfold headE at he
      unfold headV
      split at he
      · rename_i hp; rw [if_pos hp]
      · split at he <;> cases he
    have H := hid h
    have HE := hid he
    have HN := hid (show headE S x ≠ 0 by rw [he]; decide)
    rw [hv, he]
    clear h G he hv
    go_enter Tryz.func82, Tryz.ntmps82
    go_wp2_with (go_at_call 86; refine (headp_not H.out HN.out).mono ?_; rintro e w' ⟨⟨u, rfl⟩, rfl⟩; rw [HE.out])
    go_ret2
    exact ⟨⟨none, 0, rfl, fun y hy => absurd hy (by simp), fun h => absurd h (by simp)⟩, Mod.refl _ _⟩
  · have hv : headV S x = [] := by
      unfold headE at he
      unfold headV
      split at he
      · cases he
      · rename_i hp
        rw [if_neg hp]
        split at he
        · rename_i hq; rw [hq]; rfl
        · cases he
    have H := hid h
    have HE := hid he
    have HN := hid (show headE S x ≠ 0 by rw [he]; decide)
    rw [hv, he]
    clear h G he hv
    go_enter Tryz.func82, Tryz.ntmps82
    go_wp2_with (go_at_call 86; refine (headp_not H.out HN.out).mono ?_; rintro e w' ⟨⟨u, rfl⟩, rfl⟩; rw [HE.out])
    go_ret2
    exact ⟨⟨none, 0, rfl, fun y hy => absurd hy (by simp), fun h => absurd h (by simp)⟩, Mod.refl _ _⟩
  · have hv : headV S (k : Int) = fr := by
      unfold headV
      rw [if_neg (by simp [isP_nat.2 hk]), Int.toNat_natCast, hq]
      rfl
    rw [hv, he]
    obtain ⟨f2, f128, fby⟩ := G.fr k hk fr (by rw [hq]; simp)
    obtain ⟨g, off, cap, fg, fcap, cs, d12, _, c0, hb, hfg, hcs, _⟩ := h.first hk hq
    have H := hid h
    have HCS := hid hcs
    have HB := hid hb
    have HBY := hid fby
    have hbp := h.rows.row.lt
    obtain ⟨i5, hi5, hz0, hz1, hz2⟩ := info_parts info5
    have HQ := hid hq
    clear h hcs hb fby hq he hv
    go_enter Tryz.func82, Tryz.ntmps82
    go_wp2_with (first
      | (go_at_call 86; refine (headp_in H.out hk HQ.out).mono ?_; rintro e w' ⟨rfl, rfl⟩)
      | (at_builtin; refine wpList_append_lies _ rfl _ _ 22 rfl 0 5 i5 _ 1 1 Tryz.underlying22 hi5 hz0 hz1 hz2 rfl (by decide) (.slice none 0 0) 0 [] rfl (World.ownsRow_nil _ 0 5 1) ⟨fg, 0, none⟩ fr.length fcap (bytesV fr) rfl (by simp [bytesV_len]) ?c1 (bytesV_one fr) (by omega) (by unfold maxLen; omega) (by omega) (Nat.zero_le _) w.heap.size rfl ?_))
    case c1 => exact blk_news HB.out HCS.out
    intro g2 cap2 w2 hown hgr hat hlt
    have HO := hid (own_bytes hown hlt HBY.out)
    have HM := hid ((Mod.refl [] w).grown hgr (by simp [Value.ownBlock]))
    clear hown hgr hat hlt
    go_wp2
    go_ret2
    exact ⟨⟨_, cap2, rfl, HO.out⟩, HM.out⟩
end

end Go.Proofs.YtfolppcadckmaaaGreat.Br
