/-
  Layer 3: a map's places as a list (-1: none), and what each call answers and leaves. Lists and numbers alone.
-/
import Derived.Test.YtfolppcadckmaaaGreatMap
namespace Go.Tn.P3

def at_ (L : List Int) (i : Nat) : Int := L.getD i (-1)
/-- The frame at a place. -/
def fAt (L : List Int) (g : Int) : Option Int := if 0 ≤ g ∧ 0 ≤ at_ L g.toNat then some (at_ L g.toNat) else none
/-- The place of a frame. -/
def pAt (L : List Int) (m : Int) : Option Int := if 0 ≤ m then (L.findIdx? (· == m)).map (fun i : Nat => (i : Int)) else none

structure Ok3 (L : List Int) : Prop where
  len : L.length ≤ 48
  rng : ∀ i, i < L.length → -1 ≤ at_ L i ∧ at_ L i < 256
  inj : ∀ i j, i < j → j < L.length → 0 ≤ at_ L i → at_ L i ≠ at_ L j

def inB (L : List Int) (g : Int) : Bool := decide (0 ≤ g ∧ g < L.length)

def setE (L : List Int) (g m : Int) : Int :=
  if inB L g = false then 1 else if ¬ (0 ≤ m ∧ m < 256) then 1 else if (fAt L g).isSome then 30 else if (pAt L m).isSome then 8 else 0
def setL (L : List Int) (g m : Int) : List Int := if setE L g m = 0 then L.set g.toNat m else L
def getE (L : List Int) (g : Int) : Int := if inB L g = false then 1 else if (fAt L g).isSome then 0 else 6
def getV (L : List Int) (g : Int) : Int := if inB L g = false then 0 else (fAt L g).getD 0
def clearL (L : List Int) (g : Int) : List Int := if getE L g = 0 then L.set g.toNat (-1) else L
def findV (L : List Int) (m : Int) : Int := (pAt L m).getD 0
def findE (L : List Int) (m : Int) : Int := if (pAt L m).isSome then 0 else 6
def holeV (L : List Int) : Int := ((L.findIdx? (fun x => decide (x < 0))).map (fun i : Nat => (i : Int))).getD 0
def holeE (L : List Int) : Int := if (L.findIdx? (fun x => decide (x < 0))).isSome then 0 else 6
/-- The places from i on that have frames. -/
def pairsTo (L : List Int) : Nat → List (Int × Int)
  | 0 => []
  | k + 1 => if 0 ≤ at_ L k then pairsTo L k ++ [((k : Int), at_ L k)] else pairsTo L k
def pairs (L : List Int) : List (Int × Int) := pairsTo L L.length

theorem at_lt {L : List Int} {i : Nat} (h : 0 ≤ at_ L i) : i < L.length := by
  rcases Nat.lt_or_ge i L.length with h' | h'
  · exact h'
  · simp [at_, List.getElem?_eq_none h'] at h

theorem at_set {L : List Int} {g : Nat} (hg : g < L.length) (m : Int) (i : Nat) : at_ (L.set g m) i = if i = g then m else at_ L i := by
  unfold at_
  by_cases h : i = g
  · subst h; simp [hg]
  · rw [if_neg h, List.getD_eq_getElem?_getD, List.getD_eq_getElem?_getD, List.getElem?_set_ne (fun e => h e.symm)]

theorem pAt_some {L : List Int} (G : Ok3 L) {m : Int} {i : Nat} (hm : 0 ≤ m) : pAt L m = some (i : Int) ↔ at_ L i = m := by
  unfold pAt
  rw [if_pos hm]
  constructor
  · intro h
    simp only [Option.map_eq_some_iff] at h
    obtain ⟨j, hj, hji⟩ := h
    have : j = i := by omega
    subst this
    obtain ⟨hl, hp, _⟩ := List.findIdx?_eq_some_iff_getElem.1 hj
    simp only [beq_iff_eq] at hp
    simp [at_, List.getD_eq_getElem?_getD, List.getElem?_eq_getElem hl, hp]
  · intro h
    have hl : i < L.length := at_lt (by omega)
    have he : L[i] = m := by simpa [at_, List.getD_eq_getElem?_getD, List.getElem?_eq_getElem hl] using h
    have : L.findIdx? (· == m) = some i := by
      rw [List.findIdx?_eq_some_iff_getElem]
      refine ⟨hl, by simp [he], fun j hj hjm => ?_⟩
      simp only [beq_iff_eq] at hjm
      have hjl : j < L.length := by omega
      have hja : at_ L j = m := by simp [at_, List.getD_eq_getElem?_getD, List.getElem?_eq_getElem hjl, hjm]
      exact G.inj j i hj hl (by omega) (by rw [hja, h])
    simp [this]

theorem pAt_none {L : List Int} {m : Int} : pAt L m = none ↔ ∀ i, 0 ≤ m → at_ L i ≠ m := by
  unfold pAt
  by_cases hm : 0 ≤ m
  · simp only [if_pos hm, Option.map_eq_none_iff, List.findIdx?_eq_none_iff]
    constructor
    · intro h i _ hi
      have hl : i < L.length := at_lt (by omega)
      have := h L[i] (List.getElem_mem hl)
      simp [at_, List.getD_eq_getElem?_getD, List.getElem?_eq_getElem hl] at hi
      simp [hi] at this
    · intro h x hx
      obtain ⟨i, hi, rfl⟩ := List.getElem_of_mem hx
      have := h i hm
      simp [at_, List.getD_eq_getElem?_getD, List.getElem?_eq_getElem hi] at this
      simpa using this
  · simp [hm]

theorem pAt_nonneg {L : List Int} {m x : Int} (h : pAt L m = some x) : 0 ≤ m ∧ 0 ≤ x := by
  unfold pAt at h
  split at h
  · rename_i hm
    simp only [Option.map_eq_some_iff] at h
    obtain ⟨j, _, rfl⟩ := h
    exact ⟨hm, by omega⟩
  · cases h

theorem fAt_some {L : List Int} {g x : Int} : fAt L g = some x ↔ 0 ≤ g ∧ 0 ≤ x ∧ at_ L g.toNat = x := by
  unfold fAt
  by_cases h : 0 ≤ g ∧ 0 ≤ at_ L g.toNat
  · rw [if_pos h]
    constructor
    · intro e; injection e with e; subst e; exact ⟨h.1, h.2, rfl⟩
    · rintro ⟨_, _, e⟩; rw [e]
  · rw [if_neg h]
    constructor
    · intro e; cases e
    · rintro ⟨h1, h2, h3⟩; exact absurd ⟨h1, by omega⟩ h

theorem good_set {L : List Int} (G : Ok3 L) {g m : Int} (h : setE L g m = 0) : Ok3 (L.set g.toNat m) ∧ 0 ≤ g ∧ g < L.length ∧ 0 ≤ m ∧ m < 256 ∧ fAt L g = none ∧ pAt L m = none := by
  unfold setE at h
  split at h
  · cases h
  · rename_i h1
    split at h
    · cases h
    · rename_i h2
      split at h
      · cases h
      · rename_i h3
        split at h
        · cases h
        · rename_i h4
          simp only [Decidable.not_not] at h2
          simp only [inB, Bool.not_eq_false, decide_eq_true_eq] at h1
          have hf : fAt L g = none := by simpa using h3
          have hp : pAt L m = none := by simpa using h4
          have hgl : g.toNat < L.length := by omega
          refine ⟨⟨by simpa using G.len, ?_, ?_⟩, h1.1, h1.2, h2.1, h2.2, hf, hp⟩
          · intro i hi
            simp only [List.length_set] at hi
            rw [at_set hgl]
            split
            · omega
            · exact G.rng i hi
          · intro i j hij hj h0
            simp only [List.length_set] at hj
            rw [at_set hgl] at h0 ⊢
            rw [at_set hgl]
            have hp' := pAt_none.1 hp
            by_cases hi : i = g.toNat
            · have hjg : ¬ j = g.toNat := by omega
              rw [if_pos hi, if_neg hjg]
              exact fun e => hp' j h2.1 e.symm
            · rw [if_neg hi] at h0 ⊢
              by_cases hjg : j = g.toNat
              · rw [if_pos hjg]
                exact hp' i h2.1
              · rw [if_neg hjg]
                exact G.inj i j hij hj h0

theorem fAt_set {L : List Int} {g m : Int} (h0 : 0 ≤ g) (h1 : g < L.length) (hm : 0 ≤ m) (x : Int) : fAt (L.set g.toNat m) x = if x = g then some m else fAt L x := by
  unfold fAt
  have hgl : g.toNat < L.length := by omega
  rw [at_set hgl]
  by_cases hx : x = g
  · subst hx; simp [h0, hm]
  · rw [if_neg hx]
    by_cases hx0 : 0 ≤ x
    · have : ¬ x.toNat = g.toNat := by omega
      simp [this]
    · simp [hx0]

theorem pAt_ext {L : List Int} (G : Ok3 L) {m : Int} {o : Option Int} (h0 : ∀ x, o = some x → 0 ≤ m ∧ 0 ≤ x) (h : ∀ i : Nat, 0 ≤ m → (at_ L i = m ↔ o = some (i : Int))) : pAt L m = o := by
  cases hp : pAt L m with
  | none =>
    cases o with
    | none => rfl
    | some x =>
      obtain ⟨hm, hx⟩ := h0 x rfl
      obtain ⟨i, rfl⟩ := Int.eq_ofNat_of_zero_le hx
      exact absurd ((h i hm).2 rfl) (pAt_none.1 hp i hm)
  | some x =>
    obtain ⟨hm, hx⟩ := pAt_nonneg hp
    obtain ⟨i, rfl⟩ := Int.eq_ofNat_of_zero_le hx
    exact ((h i hm).1 ((pAt_some G hm).1 hp)).symm

theorem pAt_set {L : List Int} (G : Ok3 L) {g m : Int} (h : setE L g m = 0) (x : Int) : pAt (L.set g.toNat m) x = if x = m then some g else pAt L x := by
  obtain ⟨G', h0, h1, h2, h3, hf, hp⟩ := good_set G h
  have hgl : g.toNat < L.length := by omega
  refine pAt_ext G' ?_ ?_
  · intro y hy
    split at hy
    · rename_i e; injection hy with hy; subst e; subst hy; exact ⟨h2, h0⟩
    · exact pAt_nonneg hy
  · intro i hx
    rw [at_set hgl]
    by_cases hxm : x = m
    · subst hxm
      rw [if_pos rfl]
      constructor
      · intro e
        split at e
        · rename_i hi; congr 1; omega
        · exact absurd e (pAt_none.1 hp i hx)
      · intro e
        injection e with e
        rw [if_pos (by omega)]
    · rw [if_neg hxm, pAt_some G hx]
      by_cases hi : i = g.toNat
      · rw [if_pos hi]
        constructor
        · intro e; exact absurd e.symm hxm
        · intro e
          exfalso
          have := fAt_some (L := L) (g := g) (x := x)
          rw [hf] at this
          exact absurd (this.2 ⟨h0, hx, by rw [← hi]; exact e⟩) (by simp)
      · rw [if_neg hi]

theorem good_clear {L : List Int} (G : Ok3 L) {g : Int} (h : getE L g = 0) : Ok3 (L.set g.toNat (-1)) ∧ 0 ≤ g ∧ g < L.length ∧ fAt L g = some (getV L g) ∧ 0 ≤ getV L g ∧ at_ L g.toNat = getV L g := by
  unfold getE at h
  split at h
  · cases h
  · rename_i h1
    split at h
    · rename_i h2
      simp only [inB, Bool.not_eq_false, decide_eq_true_eq] at h1
      have hgl : g.toNat < L.length := by omega
      have hv : getV L g = (fAt L g).getD 0 := by simp [getV, inB, h1]
      obtain ⟨x, hx⟩ := Option.isSome_iff_exists.1 h2
      have hvx : getV L g = x := by rw [hv, hx]; rfl
      have hx' := fAt_some.1 hx
      refine ⟨⟨by simpa using G.len, ?_, ?_⟩, h1.1, h1.2, by rw [hvx]; exact hx, by rw [hvx]; exact hx'.2.1, by rw [hvx]; exact hx'.2.2⟩
      · intro i hi
        simp only [List.length_set] at hi
        rw [at_set hgl]
        split
        · omega
        · exact G.rng i hi
      · intro i j hij hj h0
        simp only [List.length_set] at hj
        rw [at_set hgl] at h0 ⊢
        rw [at_set hgl]
        by_cases hi : i = g.toNat
        · rw [if_pos hi] at h0; omega
        · rw [if_neg hi] at h0 ⊢
          by_cases hjg : j = g.toNat
          · rw [if_pos hjg]; omega
          · rw [if_neg hjg]; exact G.inj i j hij hj h0
    · cases h

theorem fAt_clear {L : List Int} {g : Int} (h0 : 0 ≤ g) (h1 : g < L.length) (x : Int) : fAt (L.set g.toNat (-1)) x = if x = g then none else fAt L x := by
  unfold fAt
  have hgl : g.toNat < L.length := by omega
  rw [at_set hgl]
  by_cases hx : x = g
  · subst hx; simp
  · rw [if_neg hx]
    by_cases hx0 : 0 ≤ x
    · have : ¬ x.toNat = g.toNat := by omega
      simp [this]
    · simp [hx0]

theorem pAt_clear {L : List Int} (G : Ok3 L) {g : Int} (h : getE L g = 0) (x : Int) : pAt (L.set g.toNat (-1)) x = if x = getV L g then none else pAt L x := by
  obtain ⟨G', h0, h1, hf, hv, ha⟩ := good_clear G h
  have hgl : g.toNat < L.length := by omega
  refine pAt_ext G' ?_ ?_
  · intro y hy
    split at hy
    · cases hy
    · exact pAt_nonneg hy
  · intro i hx
    rw [at_set hgl]
    by_cases hxm : x = getV L g
    · subst hxm
      rw [if_pos rfl]
      constructor
      · intro e
        exfalso
        split at e
        · omega
        · rename_i hi
          have hil : i < L.length := at_lt (by omega)
          rcases Nat.lt_or_gt_of_ne hi with hlt | hgt
          · exact G.inj i _ hlt hgl (by omega) (by omega)
          · exact G.inj _ i hgt hil (by omega) (by omega)
      · intro e; cases e
    · rw [if_neg hxm, pAt_some G hx]
      by_cases hi : i = g.toNat
      · rw [if_pos hi]
        constructor
        · intro e; omega
        · intro e; exact absurd (by rw [← ha, ← hi]; exact e.symm) hxm
      · rw [if_neg hi]

theorem good_setL {L : List Int} (G : Ok3 L) (g m : Int) : Ok3 (setL L g m) := by
  unfold setL; split
  · rename_i h; exact (good_set G h).1
  · exact G
theorem good_clearL {L : List Int} (G : Ok3 L) (g : Int) : Ok3 (clearL L g) := by
  unfold clearL; split
  · rename_i h; exact (good_clear G h).1
  · exact G
theorem len_setL (L : List Int) (g m : Int) : (setL L g m).length = L.length := by unfold setL; split <;> simp
theorem len_clearL (L : List Int) (g : Int) : (clearL L g).length = L.length := by unfold clearL; split <;> simp

theorem good_new (n : Nat) (h : n ≤ 48) : Ok3 (List.replicate n (-1)) := by
  have ha : ∀ i, at_ (List.replicate n (-1)) i = -1 := fun i => by
    unfold at_
    rw [List.getD_eq_getElem?_getD]
    by_cases hi : i < n <;> simp [hi]
  refine ⟨by simpa using h, fun i _ => by rw [ha]; omega, fun i j _ _ h0 => by rw [ha] at h0; omega⟩
theorem fAt_new (n : Nat) (g : Int) : fAt (List.replicate n (-1)) g = none := by
  have ha : ∀ i, at_ (List.replicate n (-1)) i = -1 := fun i => by
    unfold at_
    rw [List.getD_eq_getElem?_getD]
    by_cases hi : i < n <;> simp [hi]
  unfold fAt; rw [if_neg (by rw [ha]; omega)]
theorem pAt_new (n : Nat) (m : Int) : pAt (List.replicate n (-1)) m = none := by
  rw [pAt_none]
  intro i hm
  have ha : at_ (List.replicate n (-1)) i = -1 := by
    unfold at_
    rw [List.getD_eq_getElem?_getD]
    by_cases hi : i < n <;> simp [hi]
  omega

end Go.Tn.P3
