/-
  Layer 3, p2m: New, Hole, List, Copy.
-/
import Derived.Test.YtgpmaljekfbchaaPb
namespace Go.Proofs.Ytgpmaljekfbchaa
open Go.RowKit Go.Tn Go.Tn.P3
attribute [local go_sem] look48 del48 nilM entry48 entrySt48

/-- A list of pairs as a row of cells. -/
def cellsOf (l : List (Int × Int)) : List Value := l.flatMap fun p => [.int .i64 p.1, .int .i64 p.2]

theorem new_ok (n : Nat) (w : World) (hn : n ≤ 48) :
    Calls Try.prog 8 #[.int .i64 n] w fun e w' => e = .returned (.tuple #[.pointer (some ⟨w.heap.size + 2, 0, none⟩), .int .i64 0]) ∧
      PM w' (w.heap.size + 2) w.heap.size (w.heap.size + 1) (List.replicate n (-1)) ∧ Mod [] w w' := by
  have hmm := @run_makeMap Try.prog
  go_enter Try.func8, Try.ntmps8
  go_wp2
  go_ret2
  refine ⟨rfl, ⟨?_, ?_, ?_, by omega, good_new n hn, ?_, ?_⟩, (((Mod.refl _ w).alloc _).alloc _).alloc _⟩
  · have := Blk.new ((w.alloc (.map #[] 0)).alloc (.map #[] 0)) 50 #[.map (some w.heap.size), .map (some (w.heap.size + 1)), .int .i64 n]
    simpa using this
  · exact (((IMap.made w).is.alloc _ _ _).alloc _ _ _)
  · have := ((IMap.made (w.alloc (.map #[] 0))).is.alloc _ _ (.cells #[.map (some w.heap.size), .map (some (w.heap.size + 1)), .int .i64 n] 50))
    simpa using this
  · intro g
    rw [mget_alloc _ _ _ ((IMap.made w).is.alloc _ _ _), mget_alloc _ _ _ (IMap.made w).is, (IMap.made w).get, fAt_new]
    rfl
  · intro g
    have h1 := (IMap.made (w.alloc (.map #[] 0)))
    have h2 := mget_alloc _ _ g h1.is (.cells #[.map (some w.heap.size), .map (some (w.heap.size + 1)), .int .i64 n] 50)
    rw [h1.get] at h2
    rw [pAt_new]
    simpa using h2

theorem new_bad (n : Int) (w : World) (hn : n < 0 ∨ 48 < n) :
    Calls Try.prog 8 #[.int .i64 n] w fun e w' => e = .returned (.tuple #[.pointer none, .int .i64 1]) ∧ w = w' := by
  by_cases h : n < 0
  · clear hn
    go_enter Try.func8, Try.ntmps8
    go_wp2
    go_ret2
    exact ⟨rfl, rfl⟩
  · have h1 : 0 ≤ n := by omega
    have h2 : 48 < n := by omega
    clear hn h
    go_enter Try.func8, Try.ntmps8
    go_wp2
    go_ret2
    exact ⟨rfl, rfl⟩

theorem mget_at {w : World} {p bf bp : Nat} {L : List Int} (h : PM w p bf bp L) (k : Nat) : mget w bf (k : Int) = if 0 ≤ at_ L k then some (.int .i64 (at_ L k)) else none := by
  rw [h.ff]
  unfold fAt
  by_cases h0 : 0 ≤ at_ L k <;> simp [h0]

theorem hole_found {L : List Int} {k : Nat} (hk : k < L.length) (hb : ∀ j, j < k → 0 ≤ at_ L j) (h0 : at_ L k < 0) : holeV L = k ∧ holeE L = 0 := by
  have : L.findIdx? (fun x => decide (x < 0)) = some k := by
    rw [List.findIdx?_eq_some_iff_getElem]
    refine ⟨hk, ?_, fun j hj => ?_⟩
    · simpa [at_, List.getD_eq_getElem?_getD, List.getElem?_eq_getElem hk] using h0
    · have hjl : j < L.length := by omega
      have := hb j hj
      simpa [at_, List.getD_eq_getElem?_getD, List.getElem?_eq_getElem hjl] using this
  simp [holeV, holeE, this]

theorem hole_not {L : List Int} (hb : ∀ j, j < L.length → 0 ≤ at_ L j) : holeV L = 0 ∧ holeE L = 6 := by
  have : L.findIdx? (fun x => decide (x < 0)) = none := by
    rw [List.findIdx?_eq_none_iff]
    intro x hx
    obtain ⟨i, hi, rfl⟩ := List.getElem_of_mem hx
    have := hb i hi
    simpa [at_, List.getD_eq_getElem?_getD, List.getElem?_eq_getElem hi] using this
  simp [holeV, holeE, this]

/-- 'Hole'. -/
theorem hole_f {p bf bp : Nat} {L : List Int} {w : World} (h : PM w p bf bp L) :
    Calls Try.prog 9 #[.pointer (some ⟨p, 0, none⟩)] w fun e w' => e = .returned (.tuple #[.int .i64 (holeV L), .int .i64 (holeE L)]) ∧ w = w' := by
  have c0 := h.c0
  have c2 := h.c2
  have mf := h.mf
  have hl := h.good.len
  have HF := hid (fun k => mget_at h k)
  clear h
  go_enter Try.func9, Try.ntmps9
  go_wp2
  go_loop [13] (fun i => ∃ k : Nat, k ≤ L.length ∧ i = .int .i64 k ∧ Hid (∀ j, j < k → 0 ≤ at_ L j)) (fun i => L.length - (intOf i).toNat)
  case atStart => exact ⟨0, Nat.zero_le _, rfl, fun j hj => absurd hj (by omega)⟩
  case round =>
    obtain ⟨k, hk, rfl, hb⟩ := hrel
    by_cases hlt : k < L.length
    · by_cases h0 : 0 ≤ at_ L k
      · have hg : mget w bf (k : Int) = some (.int .i64 (at_ L k)) := by rw [HF.out, if_pos h0]
        go_wp2
        go_round
        case rel => exact ⟨k + 1, by omega, by go_num, fun j hj => by
          rcases Nat.lt_succ_iff_lt_or_eq.1 hj with h | h
          · exact hb.out j h
          · rw [h]; exact h0⟩
        case measure => simp [intOf]; omega
      · have hg : mget w bf (k : Int) = none := by rw [HF.out, if_neg h0]
        have hf := hole_found hlt hb.out (by omega)
        have hf1 := hid hf.1
        have hf2 := hid hf.2
        clear hf
        go_wp2
        go_ret2
        exact ⟨by rw [hf1.out, hf2.out]; rfl, rfl⟩
    · have he : k = L.length := by omega
      have hf := hole_not (L := L) (fun j hj => hb.out j (by omega))
      have hf1 := hid hf.1
      have hf2 := hid hf.2
      clear hf he
      go_wp2
      go_ret2
      exact ⟨by rw [hf1.out, hf2.out]; rfl, rfl⟩

theorem info32 : (Try.prog.info? 32).map (fun i => (i.zero, i.size, i.bytes)) = some (some (.agg #[.int .i64 0, .int .i64 0]), 2, 16) := by kernel_rfl

theorem cellsOf_length (l : List (Int × Int)) : (cellsOf l).length = l.length * 2 := by
  induction l with
  | nil => rfl
  | cons x r ih =>
    have e : cellsOf (x :: r) = [.int .i64 x.1, .int .i64 x.2] ++ cellsOf r := rfl
    rw [e, List.length_append, ih]
    simp only [List.length_cons, List.length_nil]
    omega

theorem cellsOf_append (l : List (Int × Int)) (x : Int × Int) : cellsOf (l ++ [x]) = cellsOf l ++ [.int .i64 x.1, .int .i64 x.2] := by simp [cellsOf]

theorem pairsTo_len (L : List Int) (k : Nat) : (pairsTo L k).length ≤ k := by
  induction k with
  | zero => simp [pairsTo]
  | succ k ih =>
    unfold pairsTo
    split
    · simp only [List.length_append, List.length_cons, List.length_nil]; omega
    · omega

/-- 'List': new memory alone. -/
theorem list_f {p bf bp : Nat} {L : List Int} {w : World} (h : PM w p bf bp L) :
    Calls Try.prog 11 #[.pointer (some ⟨p, 0, none⟩)] w fun e w' => ∃ v, e = .returned v ∧ w'.ownsRow w.heap.size 32 2 v (pairs L).length (cellsOf (pairs L)) ∧ Mod [] w w' := by
  have hpl := h.blk.lt
  have hfl := h.mf.lt
  have hl := h.good.len
  have H := hid h
  clear h
  obtain ⟨i0, hi, hz0, hz1, hz2⟩ := info_parts info32
  go_enter Try.func11, Try.ntmps11
  go_wp2_with (go_at_call 15; refine (size_f H.out).mono ?_; rintro e w' ⟨rfl, rfl⟩)
  go_loopw [3, 9] (fun v i wr => ∃ k : Nat, k ≤ L.length ∧ i = .int .i64 k ∧ wr.ownsRow w.heap.size 32 2 v (pairsTo L k).length (cellsOf (pairsTo L k)) ∧ Mod [] w wr) (fun _ i _ => L.length - (intOf i).toNat)
  case atStart => exact ⟨0, Nat.zero_le _, rfl, World.ownsRow_nil _ _ _ _, Mod.refl _ _⟩
  case round =>
    obtain ⟨k, hk, rfl, hown, hm⟩ := hrel
    have h' := H.out.mod hm (by simp) (by simp) (by simp)
    have c0 := h'.c0
    have mf := h'.mf
    have hmg := mget_at h' k
    have HM := hid hm
    clear h' hm
    by_cases hlt : k < L.length
    · by_cases h0 : 0 ≤ at_ L k
      · have hg : mget wr bf (k : Int) = some (.int .i64 (at_ L k)) := by rw [hmg, if_pos h0]
        clear hmg
        have hs : pairsTo L (k + 1) = pairsTo L k ++ [((k : Int), at_ L k)] := by simp [pairsTo, h0]
        have HS := hid hs
        clear hs
        have hpk := pairsTo_len L k
        have hws := HM.out.size
        go_wp2_with (at_builtin; refine wpList_append_own _ rfl _ _ 29 rfl w.heap.size 32 i0 _ 2 16 Try.underlying29 hi hz0 hz1 hz2 rfl (by decide) _ _ _ rfl (hown.alloc _) ⟨wr.heap.size, 0, none⟩ 1 1 [.int .i64 k, .int .i64 (at_ L k)] rfl rfl ?c1 ?c2 ?c3 ?c4 ?c5 ?_)
        case c1 =>
          intro j u hj
          match j, hj with
          | 0, hj => simp at hj; subst hj; simp [Addr.add]
          | 1, hj => simp at hj; subst hj; simp [Addr.add]
        case c2 => intro u hu; simp at hu; rcases hu with rfl | rfl <;> rfl
        case c3 => unfold maxLen; omega
        case c4 => omega
        case c5 => simp; omega
        intro v' w1 hown' hgrow _
        go_wp2
        go_roundw
        case rel =>
          refine ⟨k + 1, by omega, by go_num, ?_, ?_⟩
          · rw [HS.out, cellsOf_append, List.length_append]
            exact hown'
          · exact (HM.out.alloc _).grown hgrow fun b hb => .inr (hown.lt b hb).1
        case measure => simp [intOf]; omega
      · have hg : mget wr bf (k : Int) = none := by rw [hmg, if_neg h0]
        clear hmg
        have hs : pairsTo L (k + 1) = pairsTo L k := by simp [pairsTo, h0]
        have HS := hid hs
        clear hs
        go_wp2
        go_roundw
        case rel => exact ⟨k + 1, by omega, by go_num, by rw [HS.out]; exact hown, HM.out⟩
        case measure => simp [intOf]; omega
    · have he : k = L.length := by omega
      subst he
      go_wp2
      go_ret
      exact ⟨_, rfl, hown, HM.out⟩

/-! ### Copy: the list's pairs, set one by one into a new map -/

/-- L below k, nothing from there on. -/
def lowTo (L : List Int) (k : Nat) : List Int := (List.range L.length).map fun i => if i < k then at_ L i else -1

theorem at_lowTo (L : List Int) (k i : Nat) : at_ (lowTo L k) i = if i < k ∧ i < L.length then at_ L i else -1 := by
  unfold lowTo
  by_cases hi : i < L.length
  · simp [at_, hi]
  · simp [at_, hi]

theorem lowTo_len (L : List Int) (k : Nat) : (lowTo L k).length = L.length := by simp [lowTo]

theorem ext_at {A B : List Int} (hl : A.length = B.length) (h : ∀ i, i < A.length → at_ A i = at_ B i) : A = B := by
  apply List.ext_getElem hl
  intro i h1 h2
  have := h i h1
  simpa [at_, List.getElem?_eq_getElem h1, List.getElem?_eq_getElem h2] using this

theorem lowTo_zero (L : List Int) : lowTo L 0 = List.replicate L.length (-1) := by
  apply ext_at (by simp [lowTo_len])
  intro i hi
  rw [at_lowTo]
  rw [lowTo_len] at hi
  simp [at_, hi]

theorem lowTo_all (L : List Int) : lowTo L L.length = L := by
  apply ext_at (lowTo_len _ _)
  intro i hi
  rw [lowTo_len] at hi
  rw [at_lowTo, if_pos ⟨hi, hi⟩]

theorem lowTo_skip {L : List Int} (G : Ok3 L) {k : Nat} (hk : k < L.length) (h0 : ¬ 0 ≤ at_ L k) : lowTo L (k + 1) = lowTo L k := by
  apply ext_at (by simp [lowTo_len])
  intro i hi
  rw [at_lowTo, at_lowTo]
  have := G.rng k hk
  by_cases hik : i = k
  · subst hik
    rw [if_pos ⟨by omega, hk⟩, if_neg (by omega)]; omega
  · by_cases h : i < k ∧ i < L.length
    · rw [if_pos h, if_pos ⟨by omega, h.2⟩]
    · rw [if_neg h, if_neg (by omega)]

theorem lowTo_setE {L : List Int} (G : Ok3 L) {k : Nat} (hk : k < L.length) (h0 : 0 ≤ at_ L k) : setE (lowTo L k) k (at_ L k) = 0 := by
  have hr := G.rng k hk
  have hin : inB (lowTo L k) (k : Int) = true := by simp [inB, lowTo_len, hk]
  have hf : fAt (lowTo L k) (k : Int) = none := by
    unfold fAt
    rw [at_lowTo, if_neg]
    simp
  have hp : pAt (lowTo L k) (at_ L k) = none := by
    rw [pAt_none]
    intro i _
    rw [at_lowTo]
    split
    · rename_i h
      rcases Int.lt_or_le (at_ L i) 0 with hn | hn
      · omega
      · exact G.inj i k h.1 hk hn
    · omega
  simp [setE, hin, hf, hp, h0, hr.2]

theorem lowTo_set {L : List Int} (G : Ok3 L) {k : Nat} (hk : k < L.length) (h0 : 0 ≤ at_ L k) : setL (lowTo L k) k (at_ L k) = lowTo L (k + 1) := by
  simp only [setL, lowTo_setE G hk h0, if_true]
  apply ext_at (by simp [lowTo_len])
  intro i hi
  rw [show ((k : Int)).toNat = k from by omega, at_set (by rw [lowTo_len]; exact hk), at_lowTo, at_lowTo]
  by_cases hik : i = k
  · subst hik
    rw [if_pos rfl, if_pos ⟨by omega, hk⟩]
  · rw [if_neg hik]
    by_cases h : i < k ∧ i < L.length
    · rw [if_pos h, if_pos ⟨by omega, h.2⟩]
    · rw [if_neg h, if_neg (by omega)]

/-- The list of pairs, place by place: its k-th pair, and what lies below it. -/
theorem pairs_get {L : List Int} : ∀ (n : Nat), n ≤ L.length → ∀ j, j < (pairsTo L n).length → ∃ k, k < n ∧ 0 ≤ at_ L k ∧ (pairsTo L n)[j]? = some ((k : Int), at_ L k) ∧ (pairsTo L k).length = j
  | 0, _, j, hj => by simp [pairsTo] at hj
  | n + 1, hn, j, hj => by
    by_cases h0 : 0 ≤ at_ L n
    · have e : pairsTo L (n + 1) = pairsTo L n ++ [((n : Int), at_ L n)] := by simp [pairsTo, h0]
      rw [e] at hj ⊢
      simp only [List.length_append, List.length_cons, List.length_nil] at hj
      by_cases hjl : j < (pairsTo L n).length
      · obtain ⟨k, h1, h2, h3, h4⟩ := pairs_get n (by omega) j hjl
        exact ⟨k, by omega, h2, by rw [List.getElem?_append_left hjl]; exact h3, h4⟩
      · have : j = (pairsTo L n).length := by omega
        subst this
        exact ⟨n, by omega, h0, by simp, rfl⟩
    · have e : pairsTo L (n + 1) = pairsTo L n := by simp [pairsTo, h0]
      rw [e] at hj ⊢
      obtain ⟨k, h1, h2, h3, h4⟩ := pairs_get n (by omega) j hj
      exact ⟨k, by omega, h2, h3, h4⟩

theorem pairsTo_le_succ (L : List Int) (c : Nat) : (pairsTo L c).length ≤ (pairsTo L (c + 1)).length := by
  rw [show pairsTo L (c + 1) = if 0 ≤ at_ L c then pairsTo L c ++ [((c : Int), at_ L c)] else pairsTo L c from rfl]
  split
  · simp
  · exact Nat.le_refl _

theorem pairsTo_mono (L : List Int) {a c : Nat} (h : a ≤ c) : (pairsTo L a).length ≤ (pairsTo L c).length := by
  induction c with
  | zero =>
    have : a = 0 := by omega
    rw [this]; exact Nat.le_refl _
  | succ c ih =>
    by_cases hac : a = c + 1
    · rw [hac]; exact Nat.le_refl _
    · exact Nat.le_trans (ih (by omega)) (pairsTo_le_succ L c)

/-- L's places that are among the first j pairs. -/
theorem lowTo_pairs {L : List Int} (G : Ok3 L) : ∀ (a b : Nat), a ≤ b → b ≤ L.length → (pairsTo L a).length = (pairsTo L b).length → lowTo L a = lowTo L b := by
  intro a b hab hb he
  induction b with
  | zero => have : a = 0 := by omega
            rw [this]
  | succ b ih =>
    by_cases h : a = b + 1
    · rw [h]
    · have hle : (pairsTo L a).length ≤ (pairsTo L b).length := pairsTo_mono L (by omega)
      by_cases h0 : 0 ≤ at_ L b
      · have e : pairsTo L (b + 1) = pairsTo L b ++ [((b : Int), at_ L b)] := by simp [pairsTo, h0]
        rw [e] at he
        simp only [List.length_append, List.length_cons, List.length_nil] at he
        omega
      · have e : pairsTo L (b + 1) = pairsTo L b := by simp [pairsTo, h0]
        rw [e] at he
        rw [ih (by omega) (by omega) he, lowTo_skip G (by omega) h0]

/-- What the copy holds behind its first j sets. -/
def copied (L : List Int) (j : Nat) : List Int := (List.range j).foldl (fun A i => match (pairs L)[i]? with | some x => setL A x.1 x.2 | none => A) (List.replicate L.length (-1))

theorem copied_low {L : List Int} (G : Ok3 L) : ∀ j k, k ≤ L.length → (pairsTo L k).length = j → copied L j = lowTo L k
  | 0, k, hk, hj => by
    rw [← lowTo_pairs G 0 k (by omega) hk (by simp [pairsTo, hj])]
    simp [copied, lowTo_zero]
  | j + 1, k, hk, hj => by
    have hjk : j < (pairsTo L k).length := by omega
    obtain ⟨i, h1, h2, h3, h4⟩ := pairs_get k hk j hjk
    have hjl : j < (pairsTo L L.length).length := Nat.lt_of_lt_of_le hjk (pairsTo_mono L hk)
    obtain ⟨i', g1, g2, g3, g4⟩ := pairs_get L.length (Nat.le_refl _) j hjl
    have hc : copied L (j + 1) = setL (copied L j) i' (at_ L i') := by
      unfold copied
      rw [List.range_succ, List.foldl_append]
      simp only [List.foldl_cons, List.foldl_nil]
      rw [show (pairs L)[j]? = some ((i' : Int), at_ L i') from g3]
    rw [hc, copied_low G j i' (by omega) g4, lowTo_set G g1 g2]
    have e : (pairsTo L (i' + 1)).length = j + 1 := by simp [pairsTo, g2, g4]
    rcases Nat.le_total (i' + 1) k with h | h
    · exact lowTo_pairs G _ _ h hk (by rw [e, hj])
    · exact (lowTo_pairs G _ _ h (by omega) (by rw [e, hj])).symm

theorem copied_all {L : List Int} (G : Ok3 L) : copied L (pairs L).length = L := by
  have h := copied_low G (pairs L).length L.length (Nat.le_refl _) rfl
  rw [h, lowTo_all]

theorem copied_succ (L : List Int) (j : Nat) (x : Int × Int) (h : (pairs L)[j]? = some x) : copied L (j + 1) = setL (copied L j) x.1 x.2 := by
  unfold copied
  rw [List.range_succ, List.foldl_append]
  simp only [List.foldl_cons, List.foldl_nil]
  rw [h]

/-- The two cells of a pair in its row. -/
theorem cellsOf_get : ∀ (l : List (Int × Int)) (j : Nat) (x : Int × Int), l[j]? = some x → (cellsOf l)[j * 2]? = some (.int .i64 x.1) ∧ (cellsOf l)[j * 2 + 1]? = some (.int .i64 x.2)
  | [], j, x, h => by simp at h
  | y :: r, 0, x, h => by
    simp at h
    subst h
    exact ⟨rfl, rfl⟩
  | y :: r, j + 1, x, h => by
    have := cellsOf_get r j x (by simpa using h)
    have e : cellsOf (y :: r) = .int .i64 y.1 :: .int .i64 y.2 :: cellsOf r := rfl
    rw [e, show (j + 1) * 2 = j * 2 + 1 + 1 from by omega]
    exact this

end Go.Proofs.Ytgpmaljekfbchaa
