/-
  Layer 14: ports in the heap: a block of records of thirteen cells, one of them a slice of frames; for the program's ports and for the reference's.
-/
import Derived.Test.YtfolppcadckmaaaGreatSt
namespace Go.Tn.P14
open Go.RowKit

def pcell (qi : Nat) (ρ : Nat → Nat) (P : Po) (C : Option Addr × Nat) (j : Nat) : Value := if j = qi then .slice C.1 P.q.length C.2 else .int .i64 (P.c (ρ j))
def flat (qi : Nat) (ρ : Nat → Nat) (n : Nat) (L : Nat → Po) (C : Nat → Option Addr × Nat) : Array Value := Array.ofFn fun k : Fin (n * 13) => pcell qi ρ (L (k.1 / 13)) (C (k.1 / 13)) (k.1 % 13)

section
variable {qi : Nat} {ρ : Nat → Nat} {n : Nat} {L : Nat → Po} {C : Nat → Option Addr × Nat}

theorem flat_size : (flat qi ρ n L C).size = n * 13 := by simp [flat]
theorem flat_get {i j : Nat} (hi : i < n) (hj : j < 13) : (flat qi ρ n L C)[i * 13 + j]? = some (pcell qi ρ (L i) (C i) j) := by
  have h : i * 13 + j < n * 13 := by omega
  have h1 : (i * 13 + j) / 13 = i := by omega
  have h2 : (i * 13 + j) % 13 = j := by omega
  simp only [flat, Array.getElem?_ofFn, h, dif_pos, h1, h2]

theorem flat_ext {n : Nat} {X : Array Value} (hs : X.size = n * 13) (h : ∀ i j, i < n → j < 13 → X[i * 13 + j]? = some (pcell qi ρ (L i) (C i) j)) : X = flat qi ρ n L C := by
  apply Array.ext_getElem?
  intro k
  by_cases hk : k < n * 13
  · have := h (k / 13) (k % 13) (by omega) (by omega)
    have h2 := flat_get (qi := qi) (ρ := ρ) (L := L) (C := C) (i := k / 13) (j := k % 13) (n := n) (by omega) (by omega)
    rw [show k / 13 * 13 + k % 13 = k by omega] at this h2
    rw [this, h2]
  · rw [Array.getElem?_eq_none (by omega), Array.getElem?_eq_none (by rw [flat_size]; omega)]

theorem flat_set {i k j : Nat} (hi : i < n) (hk : k < 13) (hq : k ≠ qi) (hj : ρ k = j) (hρ : ∀ k', k' < 13 → k' ≠ qi → ρ k' = j → k' = k) (x : Int) :
    (flat qi ρ n L C).setIfInBounds (i * 13 + k) (.int .i64 x) = flat qi ρ n (upd L i ((L i).set j x)) C := by
  refine flat_ext (by simp [flat_size]) fun i' j' hi' hj' => ?_
  rw [Array.getElem?_setIfInBounds]
  by_cases he : i * 13 + k = i' * 13 + j'
  · have : i = i' := by omega
    subst this
    have : k = j' := by omega
    subst this
    rw [if_pos rfl, if_pos (by rw [flat_size]; omega)]
    simp [pcell, hq, upd, Po.set, hj]
  · rw [if_neg he, flat_get hi' hj']
    by_cases hii : i' = i
    · subst hii
      simp only [pcell, upd, if_true, Po.set]
      by_cases hjq : j' = qi
      · simp [hjq]
      · rw [if_neg hjq, if_neg hjq, if_neg]
        intro e
        exact he (by rw [hρ j' hj' hjq e])
    · simp [pcell, upd, hii]

theorem flat_setq {i : Nat} (hi : i < n) (hk : qi < 13) (A : Option Addr) (cap : Nat) (q : List (List Int)) :
    (flat qi ρ n L C).setIfInBounds (i * 13 + qi) (.slice A q.length cap) = flat qi ρ n (upd L i ((L i).setq q)) (upd C i (A, cap)) := by
  refine flat_ext (by simp [flat_size]) fun i' j' hi' hj' => ?_
  rw [Array.getElem?_setIfInBounds]
  by_cases he : i * 13 + qi = i' * 13 + j'
  · have : i = i' := by omega
    subst this
    have : qi = j' := by omega
    subst this
    rw [if_pos rfl, if_pos (by rw [flat_size]; omega)]
    simp [pcell, upd, Po.setq]
  · rw [if_neg he, flat_get hi' hj']
    by_cases hii : i' = i
    · subst hii
      have : j' ≠ qi := fun e => he (by rw [e])
      simp [pcell, upd, this, Po.setq]
    · simp [pcell, upd, hii]

end

/-- The slices xs read as the frames q; their blocks lie among FP. -/
def Frs (w : World) (FP : List Nat) (xs : List Value) (q : List (List Int)) : Prop :=
  xs.length = q.length ∧ ∀ (i : Nat) (x : Value) (fr : List Int), xs[i]? = some x → q[i]? = some fr →
    ∃ g cap cs, x = .slice (some ⟨g, 0, none⟩) fr.length cap ∧ g ∈ FP ∧ Blk w g 5 cs ∧ ∀ (j : Nat) (y : Int), fr[j]? = some y → cs[j]? = some (.int .u8 y)

/-- Of w's blocks FP's alone may have turned; FP has grown by new ones. -/
structure Step (w w' : World) (FP FP' : List Nat) : Prop where
  mod : Mod FP w w'
  up : ∀ b, b ∈ FP → b ∈ FP'
  new : ∀ b, b ∈ FP' → b ∈ FP ∨ w.heap.size ≤ b

section
variable {w w' w'' : World} {FP FP' FP'' : List Nat}
theorem Step.refl (w : World) (FP : List Nat) : Step w w FP FP := ⟨Mod.refl _ _, fun _ h => h, fun _ h => .inl h⟩
theorem Step.of_mod (h : Mod FP w w') : Step w w' FP FP := ⟨h, fun _ h => h, fun _ h => .inl h⟩
theorem Step.trans (h : Step w w' FP FP') (k : Step w' w'' FP' FP'') : Step w w'' FP FP'' :=
  ⟨h.mod.trans k.mod fun t ht => h.new t ht, fun b hb => k.up b (h.up b hb), fun b hb => by
    rcases k.new b hb with h1 | h1
    · exact h.new b h1
    · exact .inr (Nat.le_trans h.mod.size h1)⟩
theorem Step.out (h : Step w w' FP FP') {b : Nat} (hb : b < w.heap.size) (hn : b ∉ FP) : b ∉ FP' := fun hm => by
  rcases h.new b hm with h1 | h1
  · exact hn h1
  · omega

theorem Frs.mod {S : List Nat} {xs : List Value} {q : List (List Int)} (h : Frs w FP xs q) (hm : Mod S w w') (hS : ∀ g cs, g ∈ FP → Blk w g 5 cs → g ∉ S) (hF : ∀ b, b ∈ FP → b ∈ FP') : Frs w' FP' xs q :=
  ⟨h.1, fun i x fr hx hfr => by
    obtain ⟨g, cap, cs, e, hg, hb, hc⟩ := h.2 i x fr hx hfr
    exact ⟨g, cap, cs, e, hF g hg, hb.mod hm (hS g cs hg hb), hc⟩⟩
theorem Frs.nil (w : World) (FP : List Nat) : Frs w FP [] [] := ⟨rfl, fun i x fr hx _ => by simp at hx⟩
theorem Frs.push {xs : List Value} {q : List (List Int)} (h : Frs w FP xs q) {fr : List Int} {g cap : Nat} {cs : Array Value} (hg : g ∈ FP) (hb : Blk w g 5 cs) (hc : ∀ (j : Nat) (y : Int), fr[j]? = some y → cs[j]? = some (.int .u8 y)) :
    Frs w FP (xs ++ [.slice (some ⟨g, 0, none⟩) fr.length cap]) (q ++ [fr]) := by
  refine ⟨by simp [h.1], fun i x f hx hf => ?_⟩
  by_cases hi : i < xs.length
  · rw [List.getElem?_append_left hi] at hx
    rw [List.getElem?_append_left (by rw [← h.1]; exact hi)] at hf
    exact h.2 i x f hx hf
  · have hl := (List.getElem?_eq_some_iff.1 hx).1
    simp at hl
    have : i = xs.length := by omega
    subst this
    simp at hx
    rw [h.1] at hf
    simp at hf
    subst hx hf
    exact ⟨g, cap, cs, rfl, hg, hb, hc⟩
theorem Frs.tail {xs : List Value} {x : Value} {q : List (List Int)} {fr : List Int} (h : Frs w FP (x :: xs) (fr :: q)) : Frs w FP xs q :=
  ⟨by have := h.1; simpa using this, fun i y f hy hf => h.2 (i + 1) y f (by simpa using hy) (by simpa using hf)⟩
end

structure PRows (w : World) (t qi : Nat) (ρ : Nat → Nat) (bp : Nat) (FP : List Nat) (C : Nat → Option Addr × Nat) (n : Nat) (L : Nat → Po) : Prop where
  row : Blk w bp t (flat qi ρ n L C)
  que : ∀ i, i < n → ∃ xs, QRow w 22 (C i).1 (C i).2 xs ∧ Frs w FP xs (L i).q
  sep : ∀ i j, i < n → j < n → i ≠ j → ∀ b, b ∈ blkOf (C i).1 → b ∉ blkOf (C j).1
  own : ∀ i, i < n → ∀ b, b ∈ blkOf (C i).1 → b ∈ FP
  bpF : bp ∈ FP
  old : ∀ b, b ∈ FP → b < w.heap.size
  t23 : t ≠ 22
  t5 : t ≠ 5

section
variable {w w' : World} {t qi : Nat} {ρ : Nat → Nat} {bp : Nat} {FP : List Nat} {C : Nat → Option Addr × Nat} {n : Nat} {L : Nat → Po}

theorem PRows.cell (h : PRows w t qi ρ bp FP C n L) {i j : Nat} (hi : i < n) (hj : j < 13) : w.cell? ⟨bp, i * 13 + j, none⟩ = some (pcell qi ρ (L i) (C i) j) := by
  rw [h.row.cell, flat_get hi hj]
theorem PRows.free (h : PRows w t qi ρ bp FP C n L) (k : Nat) : w.frozen? ⟨bp, k, none⟩ = false := h.row.frozen k

theorem PRows.mod {S FP' : List Nat} (h : PRows w t qi ρ bp FP C n L) (hm : Mod S w w') (hS : ∀ b, b ∈ FP → b ∉ S) (hF : ∀ b, b ∈ FP → b ∈ FP') (hF' : ∀ b, b ∈ FP' → b < w'.heap.size) : PRows w' t qi ρ bp FP' C n L :=
  ⟨h.row.mod hm (hS bp h.bpF), fun i hi => by
    obtain ⟨xs, h1, h2⟩ := h.que i hi
    exact ⟨xs, h1.mod hm fun b hb => hS b (h.own i hi b hb), h2.mod hm (fun g _ hg _ => hS g hg) hF⟩, h.sep, fun i hi b hb => hF b (h.own i hi b hb), hF bp h.bpF, hF', h.t23, h.t5⟩

theorem PRows.same {S : List Nat} (h : PRows w t qi ρ bp FP C n L) (hm : Mod S w w') (hS : ∀ b, b ∈ FP → b ∉ S) : PRows w' t qi ρ bp FP C n L :=
  h.mod hm hS (fun _ h => h) fun b hb => Nat.lt_of_lt_of_le (h.old b hb) hm.size

/-- A map is turned. -/
theorem PRows.mapped (h : PRows w t qi ρ bp FP C n L) {b : Nat} (hb : IsM w b) (hm : Mod [b] w w') : PRows w' t qi ρ bp FP C n L := by
  have hne : ∀ {g : Nat} {u : TypeId} {cs : Array Value}, Blk w g u cs → g ∉ [b] := fun hg e => by simp at e; subst e; exact Blk.ne_map hg hb.imap rfl
  refine ⟨h.row.mod hm (hne h.row), fun i hi => ?_, h.sep, h.own, h.bpF, fun b hb => Nat.lt_of_lt_of_le (h.old b hb) hm.size, h.t23, h.t5⟩
  obtain ⟨xs, h1, h2⟩ := h.que i hi
  refine ⟨xs, h1.mod hm fun b' hb' => ?_, h2.mod hm (fun g cs _ hg => hne hg) fun _ h => h⟩
  rcases h1.2.2 with ⟨e0, _⟩ | ⟨g, off, cur, e0, hg, _⟩
  · rw [e0] at hb'; simp [blkOf] at hb'
  · rw [e0] at hb'; simp [blkOf] at hb'
    subst hb'
    exact hne hg

/-- A number is stored. -/
theorem PRows.setc (h : PRows w t qi ρ bp FP C n L) {i k j : Nat} (hi : i < n) (hk : k < 13) (hq : k ≠ qi) (hj : ρ k = j) (hρ : ∀ k', k' < 13 → k' ≠ qi → ρ k' = j → k' = k) (x : Int) :
    PRows (w.setCell ⟨bp, i * 13 + k, none⟩ (.int .i64 x)) t qi ρ bp FP C n (upd L i ((L i).set j x)) := by
  have hm : Mod [bp] w (w.setCell ⟨bp, i * 13 + k, none⟩ (.int .i64 x)) := (Mod.refl _ _).setCell (.inl (by simp)) _
  refine ⟨?_, fun i' hi' => ?_, h.sep, h.own, h.bpF, fun b hb => by simpa using h.old b hb, h.t23, h.t5⟩
  · rw [← flat_set hi hk hq hj hρ]
    exact h.row.set_ _ _
  · obtain ⟨xs, h1, h2⟩ := h.que i' hi'
    have hq' : (upd L i ((L i).set j x) i').q = (L i').q := by
      unfold upd
      by_cases e : i' = i
      · subst e; simp [Po.set]
      · simp [e]
    rw [hq']
    refine ⟨xs, h1.mod hm fun b hb e => ?_, h2.mod hm (fun g cs hg hb e => ?_) fun _ h => h⟩
    · simp at e
      subst e
      exact h1.ne_blk h.row h.t23 hb
    · simp at e
      exact Blk.ne_ h.row hb h.t5 e.symm

/-- A queue is stored: what stood in its row may have turned ahead of it. -/
theorem PRows.putq (h : PRows w t qi ρ bp FP C n L) {i : Nat} (hi : i < n) (hk : qi < 13) {S FP' : List Nat} (hm : Mod S w w') (hS : ∀ b, b ∈ S → b ∈ blkOf (C i).1) {A : Option Addr} {cap : Nat} {q : List (List Int)} {xs : List Value}
    (hr : QRow w' 22 A cap xs) (hf : Frs w' FP' xs q) (hA : ∀ b, b ∈ blkOf A → b ∈ blkOf (C i).1 ∨ w.heap.size ≤ b) (hF : ∀ b, b ∈ FP → b ∈ FP') (hF2 : ∀ b, b ∈ blkOf A → b ∈ FP') (hF' : ∀ b, b ∈ FP' → b < w'.heap.size) :
    PRows (w'.setCell ⟨bp, i * 13 + qi, none⟩ (.slice A q.length cap)) t qi ρ bp FP' (upd C i (A, cap)) n (upd L i ((L i).setq q)) := by
  have hm2 : Mod [bp] w' (w'.setCell ⟨bp, i * 13 + qi, none⟩ (.slice A q.length cap)) := (Mod.refl _ _).setCell (.inl (by simp)) _
  have hbS : bp ∉ S := fun e => by
    obtain ⟨xs, h1, _⟩ := h.que i hi
    exact h1.ne_blk h.row h.t23 (hS bp e)
  have hrow' := h.row.mod hm hbS
  refine ⟨?_, fun i' hi' => ?_, fun i' j' hi' hj' hne b hb hb' => ?_, fun i' hi' b hb => ?_, hF bp h.bpF, fun b hb => by simpa using hF' b hb, h.t23, h.t5⟩
  · rw [← flat_setq hi hk]
    exact hrow'.set_ _ _
  · by_cases e : i' = i
    · subst e
      rw [upd_at, upd_at]
      refine ⟨xs, hr.mod hm2 fun b hb e => ?_, hf.mod hm2 (fun g cs hg hb e => ?_) fun _ h => h⟩
      · simp at e
        subst e
        exact hr.ne_blk hrow' h.t23 hb
      · simp at e
        exact Blk.ne_ hrow' hb h.t5 e.symm
    · rw [upd_ne _ _ e, upd_ne _ _ e]
      obtain ⟨ys, h1, h2⟩ := h.que i' hi'
      have h3 : QRow w' 22 (C i').1 (C i').2 ys := h1.mod hm fun b hb hbs => h.sep i' i hi' hi e b hb (hS b hbs)
      have h4 : Frs w' FP' ys (L i').q := h2.mod hm (fun g cs hg hb hbs => by
        obtain ⟨zs, k1, _⟩ := h.que i hi
        exact k1.ne_blk hb (by decide) (hS g hbs)) hF
      refine ⟨ys, h3.mod hm2 fun b hb e => ?_, h4.mod hm2 (fun g cs hg hb e => ?_) fun _ h => h⟩
      · simp at e
        subst e
        exact h3.ne_blk hrow' h.t23 hb
      · simp at e
        exact Blk.ne_ hrow' hb h.t5 e.symm
  · by_cases e : i' = i
    · subst e
      rw [upd_at] at hb
      rw [upd_ne _ _ (fun e => hne e.symm)] at hb'
      rcases hA b hb with h1 | h1
      · exact h.sep i' j' hi' hj' hne b h1 hb'
      · have := h.old b (h.own j' hj' b hb'); omega
    · rw [upd_ne _ _ e] at hb
      by_cases e2 : j' = i
      · subst e2
        rw [upd_at] at hb'
        rcases hA b hb' with h1 | h1
        · exact h.sep i' j' hi' hj' hne b hb h1
        · have := h.old b (h.own i' hi' b hb); omega
      · rw [upd_ne _ _ e2] at hb'
        exact h.sep i' j' hi' hj' hne b hb hb'
  · by_cases e : i' = i
    · subst e
      rw [upd_at] at hb
      exact hF2 b hb
    · rw [upd_ne _ _ e] at hb
      exact hF b (h.own i' hi' b hb)
end

/-- A slice of bytes reads as fr. -/
def Bytes (w : World) (A : Option Addr) (fr : List Int) : Prop := (∀ y, y ∈ fr → 0 ≤ y ∧ y ≤ 255) ∧ (0 < fr.length → ∃ b off, A = some ⟨b, off, none⟩ ∧ b < w.heap.size ∧ ∀ (j : Nat) (y : Int), fr[j]? = some y → w.cell? ⟨b, off + j, none⟩ = some (.int .u8 y))

theorem Bytes.mod {w w' : World} {S : List Nat} {A : Option Addr} {fr : List Int} (h : Bytes w A fr) (hm : Mod S w w') (hS : ∀ b, b ∈ blkOf A → b ∉ S) : Bytes w' A fr := by
  refine ⟨h.1, fun hp => ?_⟩
  obtain ⟨b, off, rfl, hb, hc⟩ := h.2 hp
  exact ⟨b, off, rfl, Nat.lt_of_lt_of_le hb hm.size, fun j y hj => (hm.cell hb (hS b (by simp [blkOf]))).trans (hc j y hj)⟩

end Go.Tn.P14
