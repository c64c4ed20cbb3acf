/-
  Commit: ReplaceAll of one byte by one byte; the order of a tree's paths.
-/
import Derived.Test.YtlhjocgkmeoheaaDoorRe
import Derived.Sort.KeysCollected
import Derived.Lib.Replace
namespace Go.Proofs.YtlhjocgkmeoheaaDoor
open Go.RowKit Go.Tn Go.MapKept
open Go.Proofs

theorem ib_none : ∀ (l : List UInt8) (a : UInt8), Lib.indexByte l a = -1 → ∀ x ∈ l, x ≠ a
  | [], _, _, x, hx => by simp at hx
  | b :: r, a, h, x, hx => by
    unfold Lib.indexByte at h
    by_cases hb : b = a
    · subst hb; simp at h
    · have hb' : (b == a) = false := by simpa using hb
      rw [hb'] at h
      simp only [Bool.false_eq_true, if_false] at h
      have hge := Lib.indexByte_ge r a
      have hr : Lib.indexByte r a = -1 := by
        by_cases h1 : Lib.indexByte r a = -1
        · exact h1
        · rw [if_neg (by simpa using h1)] at h; omega
      rcases List.mem_cons.1 hx with rfl | hx
      · exact hb
      · exact ib_none r a hr x hx
theorem ib_some : ∀ (l : List UInt8) (a : UInt8) (m : Nat), Lib.indexByte l a = m → l = l.take m ++ a :: l.drop (m + 1) ∧ ∀ x ∈ l.take m, x ≠ a
  | [], a, m, h => by simp [Lib.indexByte] at h
  | b :: r, a, m, h => by
    unfold Lib.indexByte at h
    by_cases hb : b = a
    · subst hb
      simp at h
      obtain rfl : m = 0 := by omega
      simp
    · have hb' : (b == a) = false := by simpa using hb
      rw [hb'] at h
      simp only [Bool.false_eq_true, if_false] at h
      have hge := Lib.indexByte_ge r a
      by_cases h1 : Lib.indexByte r a = -1
      · rw [if_pos (by simpa using h1)] at h; omega
      · rw [if_neg (by simpa using h1)] at h
        obtain ⟨m', rfl⟩ : ∃ m', m = m' + 1 := ⟨m - 1, by omega⟩
        obtain ⟨h2, h3⟩ := ib_some r a m' (by omega)
        refine ⟨?_, ?_⟩
        · rw [List.take_succ_cons, List.drop_succ_cons, List.cons_append, ← h2]
        · intro x hx
          rw [List.take_succ_cons] at hx
          rcases List.mem_cons.1 hx with rfl | hx
          · exact hb
          · exact h3 x hx

def swp (a b : UInt8) (x : UInt8) : UInt8 := if x = a then b else x
theorem swp_none {a b : UInt8} {l : List UInt8} (h : ∀ x ∈ l, x ≠ a) : l.map (swp a b) = l := by
  conv => rhs; rw [← List.map_id l]
  refine List.map_congr_left fun x hx => ?_
  unfold swp
  rw [if_neg (h x hx)]
  rfl
theorem repl_one (a b : UInt8) : ∀ (f : Nat) (s : List UInt8), s.length < f → Lib.replaceK [a] [b] (Lib.countFrom [a] f s) s = s.map (swp a b)
  | 0, s, h => by omega
  | f + 1, s, h => by
    unfold Lib.countFrom
    rw [Lib.index_one]
    by_cases hi : Lib.indexByte s a = -1
    · rw [if_pos (by simpa using hi)]
      show s = _
      exact (swp_none (ib_none s a hi)).symm
    · rw [if_neg (by simpa using hi)]
      have hge := Lib.indexByte_ge s a
      obtain ⟨m, hm⟩ : ∃ m : Nat, Lib.indexByte s a = m := ⟨(Lib.indexByte s a).toNat, by omega⟩
      obtain ⟨h1, h2⟩ := ib_some s a m hm
      rw [hm, Nat.add_comm 1, Lib.replaceK_hit [a] [b] _ s m (by rw [Lib.index_one]; exact hm)]
      have hl : (s.drop (m + 1)).length < f := by
        have := congrArg List.length h1
        simp at this ⊢
        omega
      have hr := repl_one a b f (s.drop (m + 1)) hl
      simp only [Int.toNat_natCast, List.length_cons, List.length_nil, Nat.zero_add]
      rw [hr]
      conv => rhs; rw [h1]
      rw [List.map_append, List.map_cons, swp_none h2]
      simp [swp]
theorem repAll_one {a b : UInt8} (hab : a ≠ b) (s : List UInt8) : Lib.replaceAll s [a] [b] = s.map (swp a b) := by
  unfold Lib.replaceAll Lib.replace
  rw [if_neg (by simpa using hab)]
  unfold Lib.replaceNum
  rw [if_pos (.inl (by decide))]
  exact repl_one a b _ s (by omega)

/-- A path with the slashes turned. -/
def rep (n : ByteArray) : ByteArray := ba (n.data.toList.map (swp 47 0))
def unrep (n : ByteArray) : ByteArray := ba (n.data.toList.map (swp 0 47))
theorem may_nz {p : List UInt8} : ∀ {k : Nat}, nameE p k = 0 → ∀ x ∈ p, x ≠ 0 := by
  induction p with
  | nil => intro k _ x hx; simp at hx
  | cons b r ih =>
    intro k h x hx
    unfold nameE at h
    by_cases hm : mayB b.toNat = false
    · rw [if_pos hm] at h; cases h
    · rw [if_neg hm] at h
      by_cases hk : k = 32
      · rw [if_pos hk] at h; cases h
      · rw [if_neg hk] at h
        rcases List.mem_cons.1 hx with rfl | hx
        · intro e
          subst e
          exact hm (by decide)
        · exact ih h x hx
theorem split_nz : ∀ (l : List UInt8), (∀ p ∈ splitL l, ∀ x ∈ p, x ≠ 0) → ∀ x ∈ l, x ≠ 0
  | [], _, x, hx => by simp at hx
  | b :: r, h, x, hx => by
    rw [splitL_cons] at h
    by_cases hb : b = 47
    · rw [if_pos hb] at h
      rcases List.mem_cons.1 hx with rfl | hx
      · rw [hb]; decide
      · exact split_nz r (fun p hp => h p (List.mem_cons_of_mem _ hp)) x hx
    · rw [if_neg hb] at h
      have hne := splitL_ne r
      cases hs : splitL r with
      | nil => exact absurd hs hne
      | cons p ps =>
        rw [hs] at h
        rcases List.mem_cons.1 hx with rfl | hx
        · exact h (x :: p) (by simp) x (by simp)
        · refine split_nz r (fun p' hp' => ?_) x hx
          rw [hs] at hp'
          rcases List.mem_cons.1 hp' with rfl | hp'
          · exact fun y hy => h (b :: p') (by simp) y (List.mem_cons_of_mem _ hy)
          · exact h p' (List.mem_cons_of_mem _ hp')
theorem parts_names : ∀ (ps : List (List UInt8)) (k : Nat), partsE ps k = 0 → ∀ p ∈ ps, nameE p 0 = 0
  | [], _, _, p, hp => by simp at hp
  | q :: ps, k, h, p, hp => by
    unfold partsE at h
    by_cases hk : k = 8
    · rw [if_pos hk] at h; cases h
    · rw [if_neg hk] at h
      by_cases hn : nameE q 0 ≠ 0
      · rw [if_pos hn] at h; exact absurd h hn
      · rw [if_neg hn] at h
        rcases List.mem_cons.1 hp with rfl | hp
        · simpa using hn
        · exact parts_names ps (k + 1) h p hp
theorem Val.nz {l : List UInt8} (h : Val l) : ∀ x ∈ l, x ≠ 0 := by
  by_cases hn : l = [47]
  · subst hn; intro x hx; simp at hx; subst hx; decide
  · have hp := h.parts hn
    obtain ⟨r, rfl⟩ := h.head
    intro x hx
    rcases List.mem_cons.1 hx with rfl | hx
    · decide
    · exact split_nz r (fun p hp' => may_nz (parts_names _ _ hp p hp')) x hx
theorem unrep_rep {n : ByteArray} (h : Val n.data.toList) : unrep (rep n) = n := by
  unfold unrep rep
  rw [toList_ba, List.map_map]
  conv => rhs; rw [← ba_toList n, ← List.map_id n.data.toList]
  congr 1
  refine List.map_congr_left fun x hx => ?_
  have := h.nz x hx
  show swp 0 47 (swp 47 0 x) = x
  by_cases hx47 : x = 47
  · subst hx47; rfl
  · have e : swp 47 0 x = x := by unfold swp; rw [if_neg hx47]
    rw [e]
    unfold swp
    rw [if_neg this]
end Go.Proofs.YtlhjocgkmeoheaaDoor
