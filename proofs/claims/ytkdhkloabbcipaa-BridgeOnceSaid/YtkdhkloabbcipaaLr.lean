/-
  Layer 14: what a forwarded frame leaves, told number by number. Lists and numbers alone.
-/
import Derived.Test.YtkdhkloabbcipaaOk
namespace Go.Tn.P14

theorem send_n (S : St) (p : Int) (fr : List Int) : (sendS S p fr).n = S.n := by
  unfold sendS; split
  · rfl
  · split
    · rfl
    · split <;> rfl
theorem sendS_on {S : St} {k : Nat} {fr : List Int} (h : sendE S k fr = 0) : k < S.n ∧ badF fr = false ∧ sendS S k fr = dirTo (takeS S k fr) k fr S.n := by
  unfold sendE at h
  unfold sendS
  split at h
  · cases h
  · rename_i hp
    rw [if_neg hp]
    split at h
    · cases h
    · rename_i hb
      rw [if_neg hb]
      split at h
      · cases h
      · rename_i hc
        rw [if_neg hc]
        exact ⟨isP_nat.1 (by simpa using hp), by simpa using hb, rfl⟩
theorem send_K {S : St} {k : Nat} {fr : List Int} (h : sendE S k fr = 0) : (sendS S k fr).K = learn S.K (fAt fr 1) k := by
  rw [(sendS_on h).2.2]
  rfl
theorem dirP_4 (P : Po) (fr : List Int) : (dirP P fr).c 4 = P.c 4 + 1 := by
  unfold dirP
  split
  · simp [inc_c]
  · simp [inc_c, setq_c]
theorem send_c4 {S : St} {k : Nat} {fr : List Int} (h : sendE S k fr = 0) {i : Nat} (hi : i < S.n) : ((sendS S k fr).L i).c 4 = (S.L i).c 4 + if isTo (learn S.K (fAt fr 1) k) k fr i = true then 1 else 0 := by
  rw [(sendS_on h).2.2]
  have hK : (takeS S k fr).K = learn S.K (fAt fr 1) k := rfl
  have h4 : ((takeS S k fr).L i).c 4 = (S.L i).c 4 := by
    simp only [takeS, onP, upd, Int.toNat_natCast]
    split
    · rename_i e; subst e; simp [inc_c, set_c]
    · rfl
  simp only [dirTo, hK]
  by_cases ht : isTo (learn S.K (fAt fr 1) k) k fr i = true
  · rw [if_pos ⟨hi, ht⟩, if_pos ht, dirP_4, h4]
  · rw [if_neg (fun h => ht h.2), if_neg ht, h4]; omega
theorem send2_ok {S : St} {k : Nat} {a b : Int} (hk : k < S.n) (hb : b ≠ 255) (hc : 2 ≤ (S.L k).c 9) : sendE S k [a, b] = 0 := by
  unfold sendE
  rw [if_neg (by simp [isP_nat.2 hk]), if_neg (by simp [badF, fAt, hb]), if_neg (by simp; omega)]
theorem send_bad2 {S : St} {k : Nat} (hk : k < S.n) : sendE S k [0, 255] = 4 := by
  unfold sendE
  rw [if_neg (by simp [isP_nat.2 hk]), if_pos (by simp [badF, fAt])]

/-- Five ports with credit; few addresses known. -/
structure C5 (S : St) (c : Int) (m : Nat) : Prop where
  n : S.n = 5
  cr : ∀ i, i < 5 → c ≤ (S.L i).c 9
  cnt : cnt S.K ≤ m

theorem cnt_learn (K : Int → Int) {y v : Int} (hv : 0 ≤ v) (h0 : 0 ≤ y) (h1 : y < 256) : cnt (learn K y v) ≤ cnt K + 1 := by
  unfold learn
  split
  · rw [cnt_upd K hv h0 h1]; split <;> omega
  · omega
theorem C5.send {S : St} {c : Int} {m : Nat} (h : C5 S c m) {k : Nat} {a b : Int} (hk : k < 5) (hb0 : 0 ≤ b) (hb : b < 255) (hc : 2 ≤ c) (hm : m < 64) :
    sendE S k [a, b] = 0 ∧ C5 (sendS S k [a, b]) (c - 2) (m + 1) ∧ (sendS S k [a, b]).K = fun x => if x = b then (k : Int) else S.K x := by
  have hkn : k < S.n := by rw [h.n]; exact hk
  have he := send2_ok (a := a) hkn (b := b) (by omega) (by have := h.cr k hk; omega)
  have hK := send_K he
  have hb1 : fAt [a, b] 1 = b := rfl
  rw [hb1] at hK
  refine ⟨he, ⟨by rw [send_n, h.n], fun i hi => ?_, ?_⟩, ?_⟩
  · have := h.cr i hi
    rw [send_hi S hkn [a, b] i (by decide : 9 ≤ 9)]
    split
    · simp; omega
    · omega
  · rw [hK]
    have := cnt_learn S.K (y := b) (v := k) (by omega) hb0 (by omega)
    have := h.cnt
    omega
  · rw [hK, learn_yes (.inr (by have := h.cnt; omega))]

theorem cnt_none : cnt (fun _ => -1) = 0 := by
  have : ∀ k, cntTo (fun _ => -1) k = 0 := fun k => by
    induction k with
    | zero => rfl
    | succ k ih => simp only [cntTo, ih]; simp
  exact this 256

/-- The directed ones: of a frame to an address that is known at 'last'. -/
theorem directed {S : St} {c : Int} {m : Nat} (h : C5 S c m) {k last i : Nat} {a b : Int} (hk : k < 5) (hi : i < 5) (ha0 : 0 ≤ a) (ha : a < 255) (hb0 : 0 ≤ b) (hb : b < 255) (hab : a ≠ b) (hc : 2 ≤ c) (hm : m < 64) (hl : S.K a = (last : Int)) :
    ((sendS S k [a, b]).L i).c 4 = (S.L i).c 4 + if i = last ∧ i ≠ k then 1 else 0 := by
  obtain ⟨he, _, hK⟩ := h.send (a := a) hk hb0 hb hc hm
  rw [send_K he] at hK
  rw [send_c4 he (by rw [h.n]; exact hi), hK]
  have hto : isTo (fun x => if x = fAt [a, b] 1 then (k : Int) else S.K x) k [a, b] i = decide (i = last ∧ i ≠ k) := by
    unfold isTo
    have e0 : fAt [a, b] 0 = a := rfl
    have e1 : fAt [a, b] 1 = b := rfl
    rw [e0, e1]
    simp only [hab, if_false, hl]
    have h1 : ¬ ((last : Int) < 0 ∨ a = 255) := by omega
    simp only [h1, decide_false, Bool.false_or]
    by_cases h2 : i = last
    · subst h2
      by_cases h3 : i = k
      · subst h3; simp
      · have : ¬ ((i : Int) = k) := by omega
        simp [h3, this]
    · have : ¬ ((last : Int) = i) := by omega
      simp [h2, this]
  have hb1 : fAt [a, b] 1 = b := rfl
  rw [hb1] at hto
  rw [hto]
  simp

end Go.Tn.P14
