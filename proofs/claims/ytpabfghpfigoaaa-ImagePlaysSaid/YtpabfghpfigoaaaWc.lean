/-
  Layer 12: New with its books; a script's operations; the plain law of Needs.
-/
import Derived.Test.YtpabfghpfigoaaaWb
import Derived.Test.YtpabfghpfigoaaaScr
namespace Go.Proofs.Ytpabfghpfigoaaa
open Go.RowKit Go.Tn Go.Shelf
open Go.Proofs

theorem new_j (b off k cap m : Nat) (d : Nat → Int) (w : World) (hk : k ≤ 256) (hm : m ≤ 256) (hcap : 64 * k ≤ cap) (hb : b < w.heap.size) (hc : ∀ j, j < 64 * k → w.cell? ⟨b, off + j, none⟩ = some (.int .u8 (d j))) :
    Calls Try.prog 8 #[.slice (some ⟨b, off, none⟩) (64 * k : Nat) cap, .int .i64 (m : Nat)] w fun e w' => ∃ p mb B, e = .returned (.tuple #[.pointer (some ⟨p, 0, none⟩), .int .i64 0]) ∧ JM w' p mb B d k m (fun _ => none) ∧ w.heap.size ≤ mb ∧ w.heap.size ≤ p ∧ Tn.Mod [] w w' := by
  refine (new_ok b off k cap m d w hk hm hcap hb (fun i hi t v hv => ?_)).mono ?_
  · obtain ⟨ht2, rfl⟩ := sec_list_at _ _ _ _ hv
    rw [Nat.add_assoc]
    exact hc _ (by omega)
  · rintro e w' ⟨rfl, v, hN⟩
    obtain ⟨h1, h2, h3, h4⟩ := hN.im
    exact ⟨w.heap.size + 1, w.heap.size, w.heap.size + 5, rfl, ⟨h1, by rw [h2, num_none], by rw [num_none]; exact Nat.zero_le _, by omega, by omega, h4, hk, hm⟩, Nat.le_refl _, by omega, h3⟩

theorem Bytes_bys {w : World} {A : Option Addr} {fr : List Int} (h : Bytes w A fr) : Bys w A fr.length (fun j => fr.getD j 0) := by
  intro h0
  obtain ⟨b, off, rfl, hb, hc⟩ := h.2 h0
  refine ⟨b, off, rfl, hb, fun j hj => hc j _ ?_⟩
  show fr[j]? = some (fr.getD j 0)
  rw [List.getD_eq_getElem?_getD, List.getElem?_eq_getElem hj]
  rfl

theorem OpAt_mod {w w' : World} {b off : Nat} {o : OpV} (h : OpAt w b off o) (hb : b < w.heap.size) (hm : Tn.Mod [] w w') : OpAt w' b off o := by
  obtain ⟨h0, h1, h2, h3, h4, h5, h6⟩ := h
  refine ⟨(hm.cell (p := ⟨b, _, none⟩) hb (by simp)).trans h0, (hm.cell (p := ⟨b, _, none⟩) hb (by simp)).trans h1, (hm.cell (p := ⟨b, _, none⟩) hb (by simp)).trans h2, (hm.cell (p := ⟨b, _, none⟩) hb (by simp)).trans h3, (hm.cell (p := ⟨b, _, none⟩) hb (by simp)).trans h4, ⟨h5.1, fun h => ?_⟩, h6⟩
  obtain ⟨b', off', e, hb', hc⟩ := h5.2 h
  exact ⟨b', off', e, Nat.lt_of_lt_of_le hb' hm.size, fun j y hj => (hm.cell (p := ⟨b', _, none⟩) hb' (by simp)).trans (hc j y hj)⟩

theorem scr_at {w : World} {a : Option Addr} {len : Nat} {O : Nat → OpV} (h : IsScr w a len O) {k : Nat} (hk : k < len) : ∃ b off, a = some ⟨b, off, none⟩ ∧ b < w.heap.size ∧ OpAt w b (off + k * 5) (O k) := by
  obtain ⟨b, off, ha, hb, hx⟩ := h.2 (by omega)
  exact ⟨b, off, ha, hb, hx k hk⟩

/-- What holds of Needs' second loop after j writes. -/
structure NInv (f : Int → Option (Nat → Int)) (k m from_ j : Nat) (f' : Int → Option (Nat → Int)) (full : Bool) : Prop where
  full_ : full = decide (m < num f k + cnt f from_ j)
  sum : cnt f' from_ j + num f' k = num f k + cnt f from_ j
  le : num f' k ≤ m
  hit : m < num f k + cnt f from_ j → num f' k = m
  rest : num f k + cnt f from_ j ≤ m → cnt f' from_ j = 0
  other : ∀ x : Nat, ¬ (from_ ≤ x ∧ x < from_ + j) → (f' x).isSome = (f x).isSome

theorem cnt_congr {f g : Int → Option (Nat → Int)} (a j : Nat) (h : ∀ x : Nat, a ≤ x → x < a + j → (f x).isSome = (g x).isSome) : cnt f a j = cnt g a j := by
  induction j with
  | zero => rfl
  | succ j ih => rw [cnt_succ, cnt_succ, ih (fun x h1 h2 => h x h1 (by omega)), h (a + j) (by omega) (by omega)]

theorem NInv.start {f : Int → Option (Nat → Int)} {k m a : Nat} (h : num f k ≤ m) : NInv f k m a 0 f false := by
  have h0 : cnt f a 0 = 0 := rfl
  refine ⟨by rw [h0]; simp; omega, by omega, h, by rw [h0]; omega, fun _ => h0, fun x _ => rfl⟩

theorem NInv.step {f f' : Int → Option (Nat → Int)} {k m a j : Nat} {full : Bool} (h : NInv f k m a j f' full) (hk : a + j < k) (g : Nat → Int) :
    (wrE k m f' ((a + j : Nat) : Int) 64 = 0 ∨ wrE k m f' ((a + j : Nat) : Int) 64 = 71) ∧ NInv f k m a (j + 1) (wrF k m f' ((a + j : Nat) : Int) 64 g) (full || decide (wrE k m f' ((a + j : Nat) : Int) 64 = 71)) := by
  obtain ⟨h1, h2, h3, h4, h5, h6⟩ := h
  have hin : (0 : Int) ≤ ((a + j : Nat) : Int) ∧ ((a + j : Nat) : Int) < k := by omega
  have hs := h6 (a + j) (by omega)
  have hc := cnt_succ f a j
  by_cases hz : (f' ((a + j : Nat) : Int)).isSome = false ∧ num f' k = m
  · have he : wrE k m f' ((a + j : Nat) : Int) 64 = 71 := by unfold wrE; rw [if_neg (by simpa using hin), if_neg (by simp), if_pos hz]
    have hf : wrF k m f' ((a + j : Nat) : Int) 64 g = f' := by unfold wrF; rw [he]; rfl
    have hc' := cnt_succ f' a j
    rw [hz.1] at hc' hs
    rw [← hs] at hc
    simp only [Bool.false_eq_true, if_false] at hc hc'
    rw [hf, he]
    refine ⟨.inr rfl, ⟨?_, by omega, h3, fun _ => hz.2, fun hle => by omega, fun x hx => h6 x (by omega)⟩⟩
    · have : decide (m < num f k + cnt f a (j + 1)) = true := by rw [decide_eq_true_iff]; omega
      rw [this]; simp
  · have he : wrE k m f' ((a + j : Nat) : Int) 64 = 0 := by unfold wrE; rw [if_neg (by simpa using hin), if_neg (by simp), if_neg hz]
    have hf : wrF k m f' ((a + j : Nat) : Int) 64 g = put f' ((a + j : Nat) : Int) (some g) := by unfold wrF; rw [if_pos he]
    have hput : ∀ x : Nat, x ≠ a + j → (put f' ((a + j : Nat) : Int) (some g) (x : Int)).isSome = (f' (x : Int)).isSome := fun x hx => by
      unfold put; rw [if_neg (by omega)]
    have hat : (put f' ((a + j : Nat) : Int) (some g) ((a + j : Nat) : Int)).isSome = true := by unfold put; simp
    have hcp : cnt (put f' ((a + j : Nat) : Int) (some g)) a j = cnt f' a j := cnt_congr a j fun x _ hx => hput x (by omega)
    have hc' := cnt_succ (put f' ((a + j : Nat) : Int) (some g)) a j
    rw [hat, hcp] at hc'
    simp only [if_true] at hc'
    have hn := num_put f' ((a + j : Nat) : Int) (some g) k hin
    simp only [Option.isSome_some, if_true] at hn
    rw [hf, he]
    have hdec : decide ((0 : Int) = 71) = false := by decide
    rw [hdec, Bool.or_false]
    cases hb : (f' ((a + j : Nat) : Int)).isSome with
    | true =>
      rw [hb] at hn hs
      rw [← hs] at hc
      simp only [if_true] at hn hc
      refine ⟨.inl rfl, ⟨by rw [h1, hc]; rfl, by omega, by omega, fun h => ?_, fun h => ?_, fun x hx => ?_⟩⟩
      · have := h4 (by omega); omega
      · have := h5 (by omega); omega
      · rw [hput x (by omega)]; exact h6 x (by omega)
    | false =>
      have hnm : num f' k ≠ m := fun e => hz ⟨hb, e⟩
      rw [hb] at hn hs
      rw [← hs] at hc
      simp only [Bool.false_eq_true, if_false] at hn hc
      have hlt : num f k + cnt f a j ≤ m := by
        apply Nat.le_of_not_lt
        intro hgt
        exact hnm (h4 hgt)
      have h50 := h5 hlt
      refine ⟨.inl rfl, ⟨?_, by omega, by omega, fun h => by omega, fun h => by omega, fun x hx => ?_⟩⟩
      · rw [h1]
        congr 1
        apply propext
        constructor <;> intro h <;> omega
      · rw [hput x (by omega)]; exact h6 x (by omega)
end Go.Proofs.Ytpabfghpfigoaaa
