/-
  Layer 3: PmapBack, the plain law: what the list of pairs, Get, Find and Hole answer fits together.
-/
import Derived.Test.YtgpmaljekfbchaaPc
namespace Go.Proofs.Ytgpmaljekfbchaa
open Go.RowKit Go.Tn Go.Tn.P3

/-- The k-th pair is a place with its frame. -/
theorem pair_at {L : List Int} {j : Nat} {x : Int × Int} (h : (pairs L)[j]? = some x) : ∃ k : Nat, k < L.length ∧ x = ((k : Int), at_ L k) ∧ 0 ≤ at_ L k ∧ (pairsTo L k).length = j := by
  have hj := (List.getElem?_eq_some_iff.1 h).1
  obtain ⟨k, h1, h2, h3, h4⟩ := pairs_get L.length (Nat.le_refl _) j hj
  have : x = ((k : Int), at_ L k) := by
    have h' : (pairsTo L L.length)[j]? = some x := h
    rw [h3] at h'
    injection h' with h'
    exact h'.symm
  exact ⟨k, h1, this, h2, h4⟩

theorem fAt_at {L : List Int} {k : Nat} (h0 : 0 ≤ at_ L k) : fAt L (k : Int) = some (at_ L k) := fAt_some.2 ⟨by omega, h0, by simp⟩

theorem pair_get {L : List Int} {j : Nat} {x : Int × Int} (h : (pairs L)[j]? = some x) : getV L x.1 = x.2 ∧ getE L x.1 = 0 := by
  obtain ⟨k, h1, rfl, h2, _⟩ := pair_at h
  have hf := fAt_at h2
  have hin : inB L (k : Int) = true := by simp [inB, h1]
  exact ⟨by simp [getV, hin, hf], by simp [getE, hin, hf]⟩

theorem pair_find {L : List Int} (G : Ok3 L) {j : Nat} {x : Int × Int} (h : (pairs L)[j]? = some x) : findV L x.2 = x.1 ∧ findE L x.2 = 0 := by
  obtain ⟨k, h1, rfl, h2, _⟩ := pair_at h
  have hp : pAt L (at_ L k) = some (k : Int) := (pAt_some G h2).2 rfl
  exact ⟨by simp [findV, hp], by simp [findE, hp]⟩

theorem pair_rise {L : List Int} {j : Nat} {x y : Int × Int} (h : (pairs L)[j]? = some x) (h' : (pairs L)[j + 1]? = some y) : x.1 < y.1 := by
  obtain ⟨k, _, rfl, h0, h2⟩ := pair_at h
  obtain ⟨k', _, rfl, h0', h2'⟩ := pair_at h'
  rcases Nat.lt_or_ge k k' with hlt | hge
  · simp; omega
  · have := pairsTo_mono L hge
    omega

theorem pairsTo_full_to {L : List Int} : ∀ {k : Nat}, (∀ j, j < k → 0 ≤ at_ L j) → (pairsTo L k).length = k
  | 0, _ => rfl
  | k + 1, h => by
    have ih := pairsTo_full_to (L := L) (k := k) (fun j hj => h j (by omega))
    simp [pairsTo, h k (by omega), ih]

theorem hole_cases (L : List Int) : (∃ k : Nat, k < L.length ∧ holeV L = k ∧ holeE L = 0 ∧ at_ L k < 0 ∧ ∀ j, j < k → 0 ≤ at_ L j) ∨ (holeV L = 0 ∧ holeE L = 6 ∧ ∀ j, j < L.length → 0 ≤ at_ L j) := by
  cases hf : L.findIdx? (fun x => decide (x < 0)) with
  | some k =>
    obtain ⟨hk, h1, h2⟩ := List.findIdx?_eq_some_iff_getElem.1 hf
    have hat : ∀ j, (hj : j < L.length) → at_ L j = L[j] := fun j hj => by simp [at_, List.getElem?_eq_getElem hj]
    refine .inl ⟨k, hk, by simp [holeV, hf], by simp [holeE, hf], ?_, fun j hj => ?_⟩
    · rw [hat k hk]; simpa using h1
    · rw [hat j (by omega)]
      have := h2 j hj
      simpa using this
  | none =>
    refine .inr ⟨by simp [holeV, hf], by simp [holeE, hf], fun j hj => ?_⟩
    have h1 := List.findIdx?_eq_none_iff.1 hf L[j] (List.getElem_mem hj)
    have hat : at_ L j = L[j] := by simp [at_, List.getElem?_eq_getElem hj]
    rw [hat]
    simpa using h1

/-- The last part of the law: the hole lies where the list has a gap. -/
theorem hole_law (L : List Int) :
    (∃ k : Nat, holeV L = k ∧ holeE L = 0 ∧ (pairs L).length < L.length ∧ k ≤ (pairs L).length ∧ ∀ x, (pairs L)[k]? = some x → (k : Int) < x.1) ∨
    (holeV L = 0 ∧ holeE L = 6 ∧ (pairs L).length = L.length) := by
  rcases hole_cases L with ⟨k, hk, hv, he, h0, hb⟩ | ⟨hv, he, hb⟩
  · refine .inl ⟨k, hv, he, ?_, ?_, fun x hx => ?_⟩
    · have h1 := pairsTo_full_to hb
      have h2 : (pairsTo L (k + 1)).length = k := by
        rw [show pairsTo L (k + 1) = if 0 ≤ at_ L k then pairsTo L k ++ [((k : Int), at_ L k)] else pairsTo L k from rfl, if_neg (by omega), h1]
      have h3 : ∀ c, k + 1 ≤ c → (pairsTo L c).length < c := by
        intro c hc
        induction c with
        | zero => omega
        | succ c ih =>
          rcases Nat.lt_or_ge k c with h | h
          · have := ih (by omega)
            rw [show pairsTo L (c + 1) = if 0 ≤ at_ L c then pairsTo L c ++ [((c : Int), at_ L c)] else pairsTo L c from rfl]
            split
            · simp; omega
            · omega
          · have : c = k := by omega
            subst this
            omega
      exact h3 L.length (by omega)
    · have h1 := pairsTo_full_to hb
      have h2 := pairsTo_mono L (show k ≤ L.length by omega)
      rw [h1] at h2
      exact h2
    · obtain ⟨k', hk', rfl, h0', hl⟩ := pair_at hx
      simp only
      rcases Nat.lt_trichotomy k' k with h | h | h
      · exfalso
        have h1 := pairsTo_full_to (L := L) (k := k') (fun j hj => hb j (by omega))
        omega
      · subst h; omega
      · omega
  · exact .inr ⟨hv, he, pairsTo_full_to hb⟩

end Go.Proofs.Ytgpmaljekfbchaa
