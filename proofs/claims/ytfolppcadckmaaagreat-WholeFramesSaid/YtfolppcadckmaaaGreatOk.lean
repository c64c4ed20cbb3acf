/-
  Layer 14: what every call keeps of a switch's state. Lists and numbers alone.
-/
import Derived.Test.YtfolppcadckmaaaGreatSt
namespace Go.Tn.P14

theorem dirP_hi (P : Po) (fr : List Int) {j : Nat} (h : 9 ≤ j) : (dirP P fr).c j = P.c j := by
  unfold dirP
  split
  · rw [inc_c, if_neg (by omega), inc_c, if_neg (by omega)]
  · rw [setq_c, inc_c, if_neg (by omega)]

theorem inc_le {P : Po} {M : Int} (h : ∀ j, P.c j ≤ M) (k j : Nat) : (P.inc k).c j ≤ M + 1 := by
  rw [inc_c]
  have h1 := h j
  have h2 := h k
  split <;> omega
theorem inc_ge {P : Po} (h : ∀ j, 0 ≤ P.c j) (k j : Nat) : 0 ≤ (P.inc k).c j := by
  rw [inc_c]
  have h1 := h j
  have h2 := h k
  split <;> omega
theorem inc_hi {P : Po} (h : ∀ j, 9 ≤ j → P.c j ≤ 65536) {k : Nat} (hk : k < 9) : ∀ j, 9 ≤ j → (P.inc k).c j ≤ 65536 := fun j hj => by
  rw [inc_c, if_neg (by omega)]
  exact h j hj
theorem inc2_le {P : Po} {M : Int} (h : ∀ j, P.c j ≤ M) {k l : Nat} (hkl : k ≠ l) (j : Nat) : ((P.inc k).inc l).c j ≤ M + 1 := by
  rw [inc_c, inc_c, inc_c]
  have h1 := h j
  have h2 := h k
  have h3 := h l
  by_cases e : j = l
  · rw [if_pos e, if_neg (fun e => hkl e.symm)]; omega
  · rw [if_neg e]; split <;> omega

theorem ok_tick {S : St} {M : Int} (G : Ok S M) (hM : 65536 ≤ M) : Ok (tickS S) M := by
  have hL : ∀ i, i < S.n → (tickS S).L i = tickP (S.L i) := fun i hi => by simp [tickS, tickTo, hi]
  refine ⟨G.n1, G.n8, fun i j hi => ?_, fun i j hi => ?_, fun i j hi hj => ?_, fun i hi => ?_, fun i hi => ?_, G.kr, G.k255⟩
  · have hi : i < S.n := hi
    rw [hL i hi, tickP, set_c]
    have := G.lo i 9 hi; have := G.lo i 10 hi; have := G.lo i 11 hi; have := G.lo i j hi
    split <;> omega
  · have hi : i < S.n := hi
    rw [hL i hi, tickP, set_c]
    have := G.cr i 10 hi (by decide); have := G.hi i j hi
    split <;> omega
  · have hi : i < S.n := hi
    rw [hL i hi, tickP, set_c]
    have := G.cr i 10 hi (by decide); have := G.cr i j hi hj
    split <;> omega
  · have hi : i < S.n := hi
    rw [hL i hi]; exact G.q4 i hi
  · have hi : i < S.n := hi
    rw [hL i hi]; exact G.fr i hi

theorem ok_rate {S : St} {M : Int} (G : Ok S M) (hM : 65536 ≤ M) (x bu ra : Int) : Ok (rateS S x bu ra) M := by
  unfold rateS
  split
  · rename_i h
    simp only [okC, Bool.and_eq_true, decide_eq_true_eq] at h
    obtain ⟨_, ⟨b0, b1⟩, r0, r1⟩ := h
    refine G.onPort x _ M (Int.le_refl _) fun P h0 h1 h2 h3 h4 => ⟨fun j => ?_, fun j => ?_, fun j hj => ?_, h3, h4⟩
    · simp only [set_c]; have := h0 j; split <;> try split <;> try split
      all_goals omega
    · simp only [set_c]; have := h1 j; split <;> try split <;> try split
      all_goals omega
    · simp only [set_c]; have := h2 j hj; split <;> try split <;> try split
      all_goals omega
  · exact G

theorem ok_bad {S : St} {M : Int} (G : Ok S M) (x : Int) : Ok (badS S x) (M + 1) := by
  unfold badS
  split
  · exact G.onPort x _ (M + 1) (by omega) fun P h0 h1 h2 h3 h4 => ⟨fun j => inc_ge (fun j => inc_ge h0 0 j) 2 j, fun j => inc2_le h1 (by decide) j, inc_hi (inc_hi h2 (by decide)) (by decide), h3, h4⟩
  · exact G.mono (by omega)

theorem badF_not {fr : List Int} (h : ¬ badF fr = true) : 2 ≤ fr.length ∧ fr.length ≤ 128 ∧ fAt fr 1 ≠ 255 := by
  unfold badF at h
  simp at h
  omega

theorem ok_send {S : St} {M : Int} (G : Ok S M) (x : Int) {fr : List Int} (hb : ∀ y, y ∈ fr → 0 ≤ y ∧ y ≤ 255) : Ok (sendS S x fr) (M + 1) := by
  unfold sendS
  split
  · exact G.mono (by omega)
  rename_i hp
  have hp' := isP_iff.1 (by simpa using hp)
  obtain ⟨h0, h1⟩ := hp'
  obtain ⟨k, rfl⟩ := Int.eq_ofNat_of_zero_le h0
  have hk : k < S.n := by omega
  split
  · exact G.onPort k _ (M + 1) (by omega) fun P h0 h1 h2 h3 h4 => ⟨fun j => inc_ge (fun j => inc_ge h0 0 j) 2 j, fun j => inc2_le h1 (by decide) j, inc_hi (inc_hi h2 (by decide)) (by decide), h3, h4⟩
  rename_i hbad
  obtain ⟨f2, f128, f255⟩ := badF_not hbad
  split
  · exact G.onPort k _ (M + 1) (by omega) fun P h0 h1 h2 h3 h4 => ⟨fun j => inc_ge (fun j => inc_ge h0 0 j) 3 j, fun j => inc2_le h1 (by decide) j, inc_hi (inc_hi h2 (by decide)) (by decide), h3, h4⟩
  rename_i hcr
  simp only [Int.toNat_natCast, Int.not_lt] at hcr
  have hr1 : 0 ≤ fAt fr 1 ∧ fAt fr 1 ≤ 255 := hb _ (by
    have : fr[1]? = some (fAt fr 1) := by simp [fAt, show 1 < fr.length by omega]
    exact List.mem_of_getElem? this)
  have hM0 : 0 ≤ M := Int.le_trans (G.lo k 0 hk) (G.hi k 0 hk)
  -- of each port
  have hL : ∀ i, i < S.n → ∃ P : Po, (dirTo (takeS S k fr) k fr S.n).L i = P ∧ (∀ j, 0 ≤ P.c j) ∧ (∀ j, P.c j ≤ M + 1) ∧ (∀ j, 9 ≤ j → P.c j ≤ 65536) ∧ P.q.length ≤ 4 ∧ (∀ g, g ∈ P.q → FrOk g) := by
    intro i hi
    refine ⟨_, rfl, ?_⟩
    by_cases hik : i = k
    · subst hik
      have e : (dirTo (takeS S i fr) i fr S.n).L i = ((((S.L i).inc 0).set 9 ((S.L i).c 9 - fr.length)).inc 1) := by
        simp [dirTo, isTo, takeS, onP, upd]
      rw [e]
      refine ⟨fun j => ?_, fun j => ?_, fun j hj => ?_, G.q4 i hi, G.fr i hi⟩
      · simp only [inc_c, set_c]
        have a := G.lo i j hi; have b := G.lo i 0 hi; have c := G.lo i 1 hi; have d := G.lo i 9 hi
        simp
        split
        · omega
        · split
          · omega
          · split <;> omega
      · simp only [inc_c, set_c]
        have a := G.hi i j hi; have b := G.hi i 0 hi; have c := G.hi i 1 hi; have d := G.hi i 9 hi
        simp
        split
        · omega
        · split
          · omega
          · split <;> omega
      · simp only [inc_c, set_c]
        have a := G.cr i j hi hj; have d := G.cr i 9 hi (by decide)
        simp
        rw [if_neg (by omega)]
        split
        · omega
        · rw [if_neg (by omega)]; exact a
    · have e : (takeS S k fr).L i = S.L i := by simp [takeS, onP, upd, hik]
      simp only [dirTo, e]
      by_cases ht : isTo (takeS S k fr).K k fr i = true
      · rw [if_pos ⟨hi, ht⟩]
        unfold dirP
        split
        · exact ⟨fun j => inc_ge (fun j => inc_ge (fun j => G.lo i j hi) 4 j) 8 j, fun j => inc2_le (fun j => G.hi i j hi) (by decide) j, inc_hi (inc_hi (fun j => G.cr i j hi) (by decide)) (by decide), G.q4 i hi, G.fr i hi⟩
        · rename_i hq
          refine ⟨fun j => inc_ge (fun j => G.lo i j hi) 4 j, fun j => inc_le (fun j => G.hi i j hi) 4 j, inc_hi (fun j => G.cr i j hi) (by decide), ?_, fun g hg => ?_⟩
          · rw [setq_q, List.length_append]; simp; omega
          · rw [setq_q] at hg
            rcases List.mem_append.1 hg with hg | hg
            · exact G.fr i hi g hg
            · simp at hg; subst hg; exact ⟨f2, f128, hb⟩
      · rw [if_neg (fun h => ht h.2)]
        exact ⟨fun j => G.lo i j hi, fun j => by have := G.hi i j hi; omega, fun j => G.cr i j hi, G.q4 i hi, G.fr i hi⟩
  refine ⟨G.n1, G.n8, fun i j hi => ?_, fun i j hi => ?_, fun i j hi => ?_, fun i hi => ?_, fun i hi => ?_, fun a => ?_, fun a ha => ?_⟩
  · obtain ⟨P, e, h⟩ := hL i hi; rw [e]; exact h.1 j
  · obtain ⟨P, e, h⟩ := hL i hi; rw [e]; exact h.2.1 j
  · obtain ⟨P, e, h⟩ := hL i hi; rw [e]; exact h.2.2.1 j
  · obtain ⟨P, e, h⟩ := hL i hi; rw [e]; exact h.2.2.2.1
  · obtain ⟨P, e, h⟩ := hL i hi; rw [e]; exact h.2.2.2.2
  · have := G.kr a
    simp only [dirTo, takeS, onP, learn]
    split
    · dsimp only
      split <;> omega
    · exact this
  · simp only [dirTo, takeS, onP, learn] at ha
    split at ha
    · simp only at ha
      split at ha
      · omega
      · exact G.k255 a ha
    · exact G.k255 a ha

theorem ok_done {S : St} {M : Int} (G : Ok S M) (x : Int) (on : Bool) : Ok (doneS S x on) (M + 1) := by
  unfold doneS
  split
  · refine G.onPort x _ (M + 1) (by omega) fun P h0 h1 h2 h3 h4 => ?_
    have hk : (if on = true then 5 else 7) < 9 := by cases on <;> decide
    refine ⟨fun j => inc_ge (P := P.setq P.q.tail) h0 _ j, fun j => inc_le (P := P.setq P.q.tail) h1 _ j, inc_hi (P := P.setq P.q.tail) h2 hk, ?_, fun g hg => h4 g (List.mem_of_mem_tail hg)⟩
    show P.q.tail.length ≤ 4
    rw [List.length_tail]
    omega
  · exact G.mono (by omega)

/-- j frames of a port are dropped. -/
def dropN (j : Nat) (P : Po) : Po := (P.setq (P.q.drop j)).set 7 (P.c 7 + j)
theorem dropN_zero (P : Po) : dropN 0 P = P := by
  unfold dropN
  have : (P.setq (P.q.drop 0)) = P := by simp [Po.setq]
  rw [this]
  unfold Po.set
  cases P
  simp
  funext k
  split
  · rename_i h; rw [h]
  · rfl
theorem dropN_succ (P : Po) (j : Nat) : doneP (dropN j P) false = dropN (j + 1) P := by
  unfold doneP dropN Po.inc Po.set Po.setq
  cases P
  simp
  funext k
  split <;> omega
theorem dropN_all (P : Po) : dropN P.q.length P = dropAll P := by
  unfold dropN dropAll
  simp
theorem dropN_q (P : Po) (j : Nat) : (dropN j P).q = P.q.drop j := rfl

theorem ok_down {S : St} {M : Int} (G : Ok S M) (x : Int) : Ok (downS S x) (M + 4) := by
  unfold downS
  split
  · have h := G.onPort x dropAll (M + 4) (by omega) fun P h0 h1 h2 h3 h4 => by
      refine ⟨fun j => ?_, fun j => ?_, fun j hj => ?_, by simp [dropAll, Po.set, Po.setq], fun g hg => by simp [dropAll, Po.set, Po.setq] at hg⟩
      · simp only [dropAll, set_c, setq_c]
        have := h0 j; have := h0 7
        split <;> omega
      · simp only [dropAll, set_c, setq_c]
        have := h1 j; have := h1 7
        split <;> omega
      · simp only [dropAll, set_c, setq_c]
        rw [if_neg (by omega)]
        exact h2 j hj
    refine ⟨h.n1, h.n8, h.lo, h.hi, h.cr, h.q4, h.fr, fun a => ?_, fun a ha => ?_⟩
    · have := G.kr a
      have hn := G.n1
      simp only [forget]
      split
      · exact ⟨Int.le_refl _, by show (-1 : Int) < S.n; omega⟩
      · exact this
    · simp only [forget] at ha
      split at ha
      · omega
      · exact G.k255 a ha
  · exact G.mono (by omega)

/-- The addresses of a port go, but those that are still to come. -/
def keepK (K : Int → Int) (x : Int) (left : Int → Bool) : Int → Int := fun m => if K m = x ∧ left m = false then -1 else K m
theorem keepK_all {K : Int → Int} {x : Int} {left : Int → Bool} (h : ∀ m, left m = false) : keepK K x left = forget K x := by
  funext m
  simp [keepK, forget, h]
theorem keepK_start {K : Int → Int} {x : Int} {left : Int → Bool} (hx : 0 ≤ x) (h : ∀ m, 0 ≤ K m → left m = true) : keepK K x left = K := by
  funext m
  unfold keepK
  rw [if_neg]
  rintro ⟨h1, h2⟩
  rw [h m (by omega)] at h2
  cases h2
theorem keepK_hit {K : Int → Int} {x : Int} {left : Int → Bool} {n : Int} (hn : K n = x) : keepK K x (fun m => left m && !(m == n)) = fun m => if m = n then -1 else keepK K x left m := by
  funext m
  unfold keepK
  by_cases h : m = n
  · subst h; simp [hn]
  · simp [h]
theorem keepK_miss {K : Int → Int} {x : Int} {left : Int → Bool} {n : Int} (hn : K n ≠ x) : keepK K x (fun m => left m && !(m == n)) = keepK K x left := by
  funext m
  unfold keepK
  by_cases h : m = n
  · subst h; simp [hn]
  · simp [h]
theorem cntTo_del (K : Int → Int) {y : Int} (h0 : 0 ≤ y) : ∀ k : Nat, cntTo (fun x => if x = y then -1 else K x) k = if y < k ∧ 0 ≤ K y then cntTo K k - 1 else cntTo K k
  | 0 => by simp [cntTo]
  | k + 1 => by
    have hpos : ∀ j : Nat, y < j → 0 ≤ K y → 1 ≤ cntTo K j := by
      intro j
      induction j with
      | zero => intro h; omega
      | succ j ih =>
        intro h hK
        by_cases hj : (j : Int) = y
        · simp only [cntTo]; rw [hj, if_pos hK]; omega
        · have := ih (by omega) hK
          simp only [cntTo]; omega
    simp only [cntTo, cntTo_del K h0 k]
    by_cases hk : (k : Int) = y
    · subst hk
      simp
      by_cases hK : 0 ≤ K (k : Int)
      · simp [hK]
        omega
      · simp [hK]
    · simp only [if_neg hk]
      by_cases hlt : y < k
      · have h2 : y < ((k + 1 : Nat) : Int) := by omega
        by_cases hK : 0 ≤ K y
        · have := hpos k hlt hK
          simp only [hlt, hK, h2, and_self, if_true]; omega
        · simp only [hK, and_false, if_false]
      · have h2 : ¬ y < ((k + 1 : Nat) : Int) := by omega
        simp only [hlt, h2, false_and, if_false]
theorem cnt_del (K : Int → Int) {y : Int} (h0 : 0 ≤ y) (h1 : y < 256) (hK : 0 ≤ K y) : cnt (fun x => if x = y then -1 else K x) = cnt K - 1 := by
  unfold cnt
  rw [cntTo_del K h0, if_pos ⟨by omega, hK⟩]

/-- What Send leaves of credits, bursts, rates. -/
theorem send_hi (S : St) {k : Nat} (hk : k < S.n) (fr : List Int) (i : Nat) {j : Nat} (hj : 9 ≤ j) :
    ((sendS S k fr).L i).c j = if i = k ∧ j = 9 ∧ sendE S k fr = 0 then (S.L i).c j - fr.length else (S.L i).c j := by
  have hp := isP_nat.2 hk
  unfold sendS sendE
  simp only [hp, Int.toNat_natCast]
  by_cases hb : badF fr = true
  · simp only [hb, if_true]
    simp only [onP, upd, Int.toNat_natCast]
    by_cases hik : i = k
    · subst hik; simp [upd, inc_c, show ¬ j = 2 by omega, show ¬ j = 0 by omega]
    · simp [upd, hik]
  · simp only [hb]
    by_cases hc : (S.L k).c 9 < fr.length
    · simp only [hc, if_true]
      simp only [onP, upd, Int.toNat_natCast]
      by_cases hik : i = k
      · subst hik; simp [upd, inc_c, show ¬ j = 3 by omega, show ¬ j = 0 by omega]
      · simp [upd, hik]
    · simp only [hc, if_false]
      by_cases hik : i = k
      · subst hik
        have e : (dirTo (takeS S i fr) i fr S.n).L i = ((((S.L i).inc 0).set 9 ((S.L i).c 9 - fr.length)).inc 1) := by
          simp [dirTo, isTo, takeS, onP, upd]
        by_cases h9 : j = 9
        · subst h9; simp [e, inc_c, set_c]
        · simp [e, inc_c, set_c, h9, show ¬ j = 1 by omega, show ¬ j = 0 by omega]
      · have e : (takeS S k fr).L i = S.L i := by simp [takeS, onP, upd, hik]
        simp only [Bool.false_eq_true, if_false, Bool.true_eq_false, dirTo, e, hik, false_and]
        by_cases ht : i < S.n ∧ isTo (takeS S k fr).K k fr i = true
        · rw [if_pos ht]; exact dirP_hi _ _ hj
        · rw [if_neg ht]

end Go.Tn.P14
