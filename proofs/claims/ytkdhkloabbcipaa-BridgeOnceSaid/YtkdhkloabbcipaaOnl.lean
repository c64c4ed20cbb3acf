/-
  Layer 14: behind Down of all ports: where a frame goes. Lists and numbers alone.
-/
import Derived.Test.YtkdhkloabbcipaaBal
namespace Go.Tn.P14

/-- Nothing waits at the first k ports, and no address is known there. -/
structure Bare (S : St) (k : Nat) : Prop where
  q : ∀ i, i < k → (S.L i).q = []
  K : ∀ a, ¬ (0 ≤ S.K a ∧ S.K a < k)

theorem bare_zero (S : St) : Bare S 0 := ⟨fun i hi => by omega, fun a => by omega⟩
theorem bare_down {S : St} {k : Nat} (h : Bare S k) (hk : k < S.n) : Bare (downS S k) (k + 1) := by
  have e : downS S k = { onP S (k : Int) dropAll with K := forget S.K k } := by unfold downS; rw [if_pos (isP_nat.2 hk)]
  rw [e]
  refine ⟨fun i hi => ?_, fun a => ?_⟩
  · simp only [onP, upd, Int.toNat_natCast]
    by_cases hik : i = k
    · rw [if_pos hik]; rfl
    · rw [if_neg hik]; exact h.q i (by omega)
  · simp only [forget]
    have := h.K a
    split
    · omega
    · omega
theorem down_n (S : St) (p : Int) : (downS S p).n = S.n := by unfold downS; split <;> rfl
theorem down_c4 (S : St) (p : Int) (i : Nat) : ((downS S p).L i).c 4 = (S.L i).c 4 := by
  unfold downS
  split
  · simp only [onP, upd]
    split
    · rename_i e; subst e; simp [dropAll, set_c, setq_c]
    · rfl
  · rfl

theorem cnt_bare {K : Int → Int} (h : ∀ a, K a < 0) : cnt K = 0 := by
  have : ∀ k, cntTo K k = 0 := fun k => by
    induction k with
    | zero => rfl
    | succ k ih => simp only [cntTo, ih]; have := h k; rw [if_neg (by omega)]
  exact this 256

/-- Where it is directed. -/
def toN (p : Int) (fr : List Int) (i : Nat) : Nat := if (i : Int) = p ∨ fAt fr 0 = fAt fr 1 then 0 else 1

theorem once {S : St} {M : Int} (G : Ok S M) (hB : Bare S S.n) {p : Int} {fr : List Int} (h : sendE S p fr = 0) :
    ∃ k : Nat, p = (k : Int) ∧ k < S.n ∧ 2 ≤ fr.length ∧ fr.length ≤ 128 ∧ fAt fr 1 ≠ 255 ∧ (sendS S p fr).n = S.n ∧ (sendS S p fr).K (fAt fr 1) = p ∧
      ∀ i, i < S.n → ((sendS S p fr).L i).c 4 = (S.L i).c 4 + toN p fr i ∧ ((sendS S p fr).L i).q = if toN p fr i = 1 then [fr] else [] := by
  have hp : isP S p = true := by
    unfold sendE at h
    split at h
    · cases h
    · rename_i hp; simpa using hp
  obtain ⟨h0, h1⟩ := isP_iff.1 hp
  obtain ⟨k, rfl⟩ := Int.eq_ofNat_of_zero_le h0
  obtain ⟨hk, hb, hs⟩ := sendS_on h
  have hb' := badF_not (by simp [hb] : ¬ badF fr = true)
  obtain ⟨l2, l128, n255⟩ := hb'
  have hneg : ∀ a, S.K a < 0 := fun a => by have := hB.K a; have := (G.kr a).2; omega
  have hK : learn S.K (fAt fr 1) k = fun x => if x = fAt fr 1 then (k : Int) else S.K x := learn_yes (.inr (by rw [cnt_bare hneg]; decide))
  have hto : ∀ i : Nat, isTo (learn S.K (fAt fr 1) k) k fr i = decide (toN k fr i = 1) := fun i => by
    rw [hK]
    unfold isTo toN
    by_cases hf : fAt fr 0 = fAt fr 1
    · simp [hf, n255]
      omega
    · have := hneg (fAt fr 0)
      by_cases hi : (i : Int) = k
      · simp [hi]
      · simp [hf, hi, this]
  refine ⟨k, rfl, hk, l2, l128, n255, send_n S _ fr, ?_, fun i hi => ⟨?_, ?_⟩⟩
  · rw [send_K h, hK]; simp
  · rw [send_c4 h hi, hto]
    unfold toN
    split <;> simp
  · rw [hs]
    have hK2 : (takeS S k fr).K = learn S.K (fAt fr 1) k := rfl
    have hq : ((takeS S k fr).L i).q = [] := by
      have := hB.q i hi
      simp only [takeS, onP, upd, Int.toNat_natCast]
      split
      · rename_i e; subst e; simpa [inc_q, set_q] using this
      · exact this
    simp only [dirTo, hK2, hto]
    by_cases ht : toN k fr i = 1
    · rw [if_pos ⟨hi, by simp [ht]⟩, if_pos ht]
      unfold dirP
      rw [if_neg (by rw [hq]; simp)]
      simp [setq_q, hq]
    · rw [if_neg (fun h => ht (by simpa using h.2)), if_neg ht, hq]

end Go.Tn.P14
