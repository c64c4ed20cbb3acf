/-
  Layer 3, the reference's map: each function by the list of its places.
-/
import Derived.Test.YtgpmaljekfbchaaPd
namespace Go.Proofs.Ytgpmaljekfbchaa
open Go.RowKit Go.Tn Go.Tn.P3

def rowB (A : Option Addr) : List Nat := match A with | some a => [a.block] | none => []
def ints (L : List Int) : List Value := L.map (.int .i64)

/-- Block q is the reference's map; its list lies at A. -/
structure RM (w : World) (q : Nat) (A : Option Addr) (cap : Nat) (L : List Int) : Prop where
  blk : Blk w q 58 #[.slice A L.length cap]
  row : w.ownsRow 0 3 1 (.slice A L.length cap) L.length (ints L)
  good : Ok3 L

section
variable {w w' : World} {q cap : Nat} {A : Option Addr} {L : List Int}
theorem RM.c0 (h : RM w q A cap L) : w.cell? ⟨q, 0, none⟩ = some (.slice A L.length cap) := h.blk.cell 0
theorem ints_get (L : List Int) {i : Nat} (hi : i < L.length) : (ints L)[i]? = some (.int .i64 (at_ L i)) := by
  simp [ints, at_, List.getElem?_eq_getElem hi]
theorem ints_set (L : List Int) (i : Nat) (x : Int) : (ints L).set i (.int .i64 x) = ints (L.set i x) := by simp [ints, List.map_set]
theorem RM.addr (h : RM w q A cap L) (hn : 0 < L.length) : ∃ g, A = some ⟨g, 0, none⟩ := by
  rcases h.row.2 with ⟨_, h0⟩ | ⟨g, cap', cur, hv, _⟩
  · omega
  · injection hv with hA
    exact ⟨g, hA⟩
theorem RM.at_ {g : Nat} (h : RM w q (some ⟨g, 0, none⟩) cap L) {i : Nat} (hi : i < L.length) : w.cell? ⟨g, i, none⟩ = some (.int .i64 (P3.at_ L i)) := by
  rw [h.row.cellAt i (by omega), ints_get L hi]
theorem RM.free {g : Nat} (h : RM w q (some ⟨g, 0, none⟩) cap L) (i : Nat) : w.frozen? ⟨g, i, none⟩ = false := h.row.frozenAt i
theorem RM.ne {g : Nat} (h : RM w q (some ⟨g, 0, none⟩) cap L) : q ≠ g := by
  rcases h.row.2 with ⟨hv, _⟩ | ⟨g', cap', cur, hv, _, hh, _⟩
  · cases hv
  · injection hv with hA
    injection hA with hA
    injection hA with hA
    subst hA
    intro e
    subst e
    exact Blk.ne_ h.blk hh (by decide) rfl
theorem RM.lt {b : Nat} (h : RM w q A cap L) (hb : b ∈ rowB A) : b < w.heap.size := by
  cases A with
  | none => simp [rowB] at hb
  | some a =>
    simp [rowB] at hb
    exact (h.row.lt b (by simp [Value.ownBlock, hb])).2
theorem ownsRow_of_heap {base e size n : Nat} {v : Value} {xs : List Value} (h : w.ownsRow base e size v n xs) (hh : ∀ b, v.ownBlock = some b → w'.heap[b]? = w.heap[b]?) : w'.ownsRow base e size v n xs := by
  refine ⟨h.1, ?_⟩
  rcases h.2 with h0 | ⟨g, cap, cur, rfl, hb, hg, r⟩
  · exact .inl h0
  · exact .inr ⟨g, cap, cur, rfl, hb, (hh g rfl).trans hg, r⟩
theorem RM.mod {S : List Nat} (h : RM w q A cap L) (hm : Mod S w w') (h0 : q ∉ S) (h1 : ∀ b, b ∈ rowB A → b ∉ S) : RM w' q A cap L :=
  ⟨h.blk.mod hm h0, ownsRow_of_heap h.row (fun b hb => hm.block b (h.row.lt b hb).2 (h1 b (by
    cases A with
    | none => simp [Value.ownBlock] at hb
    | some a => simp [Value.ownBlock] at hb; simp [rowB, hb]))), h.good⟩
theorem RM.drew (h : RM w q A cap L) : RM w.drew q A cap L := h.mod ((Mod.refl [] w).drew) (by simp) (by simp)
theorem RM.drewN (h : RM w q A cap L) (n : Nat) : RM (w.drewN n) q A cap L := h.mod ((Mod.refl [] w).drewN n) (by simp) (by simp)
theorem RM.alloc (h : RM w q A cap L) (o : Obj) : RM (w.alloc o) q A cap L := h.mod ((Mod.refl [] w).alloc o) (by simp) (by simp)
theorem RM.put {g : Nat} (h : RM w q (some ⟨g, 0, none⟩) cap L) {i : Nat} {x : Int} (G : Ok3 (L.set i x)) : RM (w.setCell ⟨g, i, none⟩ (.int .i64 x)) q (some ⟨g, 0, none⟩) cap (L.set i x) := by
  refine ⟨?_, ?_, G⟩
  · have := h.blk.of_heap (Below.heap_setCell w ⟨g, i, none⟩ (.int .i64 x) q h.ne)
    simpa using this
  · have := (h.row.stored i (.int .i64 x)).1
    rw [ints_set] at this
    simpa using this
end

theorem find_hit {L : List Int} (G : Ok3 L) {k : Nat} {m : Int} (h0 : 0 ≤ at_ L k) (hm : at_ L k = m) : findV L m = k ∧ findE L m = 0 := by
  have hp : pAt L m = some (k : Int) := (pAt_some G (by omega)).2 hm
  simp [findV, findE, hp]
theorem find_miss {L : List Int} {m : Int} (h : ∀ j, j < L.length → ¬ (0 ≤ at_ L j ∧ at_ L j = m)) : findV L m = 0 ∧ findE L m = 6 := by
  have hp : pAt L m = none := by
    rw [pAt_none]
    intro i hm hi
    have hl : i < L.length := at_lt (by omega)
    exact h i hl ⟨by omega, hi⟩
  simp [findV, findE, hp]

/-- The reference's 'Find'. -/
theorem rfind_f {q cap : Nat} {A : Option Addr} {L : List Int} {w : World} (h : RM w q A cap L) (m : Int) :
    Calls Try.prog 27 #[.pointer (some ⟨q, 0, none⟩), .int .i64 m] w fun e w' => e = .returned (.tuple #[.int .i64 (findV L m), .int .i64 (findE L m)]) ∧ w = w' := by
  have c0 := h.c0
  have hl := h.good.len
  have H := hid h
  clear h
  go_enter Try.func27, Try.ntmps27
  go_wp2
  go_loop [6] (fun i => ∃ k : Nat, k ≤ L.length ∧ i = .int .i64 k ∧ Hid (∀ j, j < k → ¬ (0 ≤ at_ L j ∧ at_ L j = m))) (fun i => L.length - (intOf i).toNat)
  case atStart => exact ⟨0, Nat.zero_le _, rfl, fun j hj => absurd hj (by omega)⟩
  case round =>
    obtain ⟨k, hk, rfl, hb⟩ := hrel
    by_cases hlt : k < L.length
    · obtain ⟨g, rfl⟩ := H.out.addr (by omega)
      have hc := H.out.at_ hlt
      by_cases h0 : 0 ≤ at_ L k
      · by_cases hm : at_ L k = m
        · have hf := find_hit H.out.good h0 hm
          have hf1 := hid hf.1
          have hf2 := hid hf.2
          have hm' : (at_ L k == m) = true := by simpa using hm
          clear hf hm
          go_wp2
          go_ret2
          exact ⟨by rw [hf1.out, hf2.out]; rfl, rfl⟩
        · have hm' : (at_ L k == m) = false := by simpa using hm
          have HB : Hid (∀ j, j < k + 1 → ¬ (0 ≤ at_ L j ∧ at_ L j = m)) := fun j hj => by
            rcases Nat.lt_succ_iff_lt_or_eq.1 hj with h | h
            · exact hb.out j h
            · rw [h]; exact fun e => hm e.2
          clear hm
          go_wp2
          go_round
          case rel => exact ⟨k + 1, by omega, by go_num, HB⟩
          case measure => simp [intOf]; omega
      · have HB : Hid (∀ j, j < k + 1 → ¬ (0 ≤ at_ L j ∧ at_ L j = m)) := fun j hj => by
          rcases Nat.lt_succ_iff_lt_or_eq.1 hj with h | h
          · exact hb.out j h
          · rw [h]; exact fun e => h0 e.1
        go_wp2
        go_round
        case rel => exact ⟨k + 1, by omega, by go_num, HB⟩
        case measure => simp [intOf]; omega
    · have hke : k = L.length := by omega
      have hf := find_miss (L := L) (m := m) (fun j hj => hb.out j (by omega))
      have hf1 := hid hf.1
      have hf2 := hid hf.2
      clear hf hke
      go_wp2
      go_ret2
      exact ⟨by rw [hf1.out, hf2.out]; rfl, rfl⟩

/-- The reference's 'Hole'. -/
theorem rhole_f {q cap : Nat} {A : Option Addr} {L : List Int} {w : World} (h : RM w q A cap L) :
    Calls Try.prog 28 #[.pointer (some ⟨q, 0, none⟩)] w fun e w' => e = .returned (.tuple #[.int .i64 (holeV L), .int .i64 (holeE L)]) ∧ w = w' := by
  have c0 := h.c0
  have hl := h.good.len
  have H := hid h
  clear h
  go_enter Try.func28, Try.ntmps28
  go_wp2
  go_loop [4] (fun i => ∃ k : Nat, k ≤ L.length ∧ i = .int .i64 k ∧ Hid (∀ j, j < k → 0 ≤ at_ L j)) (fun i => L.length - (intOf i).toNat)
  case atStart => exact ⟨0, Nat.zero_le _, rfl, fun j hj => absurd hj (by omega)⟩
  case round =>
    obtain ⟨k, hk, rfl, hb⟩ := hrel
    by_cases hlt : k < L.length
    · obtain ⟨g, rfl⟩ := H.out.addr (by omega)
      have hc := H.out.at_ hlt
      by_cases h0 : 0 ≤ at_ L k
      · have HB : Hid (∀ j, j < k + 1 → 0 ≤ at_ L j) := fun j hj => by
          rcases Nat.lt_succ_iff_lt_or_eq.1 hj with h | h
          · exact hb.out j h
          · rw [h]; exact h0
        go_wp2
        go_round
        case rel => exact ⟨k + 1, by omega, by go_num, HB⟩
        case measure => simp [intOf]; omega
      · have hf := hole_found hlt hb.out (by omega)
        have hf1 := hid hf.1
        have hf2 := hid hf.2
        have h0' : at_ L k < 0 := by omega
        clear hf h0
        go_wp2
        go_ret2
        exact ⟨by rw [hf1.out, hf2.out]; rfl, rfl⟩
    · have hf := hole_not (L := L) (fun j hj => hb.out j (by omega))
      have hf1 := hid hf.1
      have hf2 := hid hf.2
      clear hf
      go_wp2
      go_ret2
      exact ⟨by rw [hf1.out, hf2.out]; rfl, rfl⟩

/-- The reference's 'Get'. -/
theorem rget_f {q cap : Nat} {A : Option Addr} {L : List Int} {w : World} (h : RM w q A cap L) (g : Int) :
    Calls Try.prog 26 #[.pointer (some ⟨q, 0, none⟩), .int .i64 g] w fun e w' => e = .returned (.tuple #[.int .i64 (getV L g), .int .i64 (getE L g)]) ∧ w = w' := by
  have c0 := h.c0
  by_cases hB : inB L g = true
  · have hb' : 0 ≤ g ∧ g < L.length := by simpa [inB] using hB
    obtain ⟨h0, h1⟩ := hb'
    obtain ⟨k, rfl⟩ := Int.eq_ofNat_of_zero_le h0
    have hk : k < L.length := by omega
    obtain ⟨a, rfl⟩ := h.addr (by omega)
    have hc := h.at_ hk
    by_cases hx : 0 ≤ at_ L k
    · have hf : fAt L (k : Int) = some (at_ L k) := fAt_some.2 ⟨by omega, hx, by simp⟩
      have hV : getV L (k : Int) = at_ L k := by simp [getV, hB, hf]
      have hE : getE L (k : Int) = 0 := by simp [getE, hB, hf]
      rw [hV, hE]
      clear h hV hE hf hB
      go_enter Try.func26, Try.ntmps26
      go_wp2
      go_ret2
      exact ⟨rfl, rfl⟩
    · have hf : fAt L (k : Int) = none := by unfold fAt; rw [if_neg]; simpa using hx
      have hV : getV L (k : Int) = 0 := by simp [getV, hB, hf]
      have hE : getE L (k : Int) = 6 := by simp [getE, hB, hf]
      have hx' : at_ L k < 0 := by omega
      rw [hV, hE]
      clear h hV hE hf hB hx
      go_enter Try.func26, Try.ntmps26
      go_wp2
      go_ret2
      exact ⟨rfl, rfl⟩
  · have hB' : inB L g = false := by simpa using hB
    have hV : getV L g = 0 := by simp [getV, hB']
    have hE : getE L g = 1 := by simp [getE, hB']
    have hb' : ¬ (0 ≤ g ∧ g < L.length) := by simpa [inB] using hB'
    rw [hV, hE]
    clear h hV hE hB hB'
    by_cases h0 : g < 0
    · clear hb'
      go_enter Try.func26, Try.ntmps26
      go_wp2
      go_ret2
      exact ⟨rfl, rfl⟩
    · have h1 : 0 ≤ g := by omega
      have h2 : (L.length : Int) ≤ g := by omega
      clear hb' h0
      go_enter Try.func26, Try.ntmps26
      go_wp2
      go_ret2
      exact ⟨rfl, rfl⟩

/-- The reference's 'Clear'. -/
theorem rclear_f {q cap : Nat} {A : Option Addr} {L : List Int} {w : World} (h : RM w q A cap L) (g : Int) :
    Calls Try.prog 25 #[.pointer (some ⟨q, 0, none⟩), .int .i64 g] w fun e w' => e = .returned (.tuple #[.int .i64 (getV L g), .int .i64 (getE L g)]) ∧ RM w' q A cap (clearL L g) ∧ Mod (rowB A) w w' := by
  have HG := hid (rget_f h g)
  by_cases hE : getE L g = 0
  · obtain ⟨G', h0, h1, _⟩ := good_clear h.good hE
    have hL : clearL L g = L.set g.toNat (-1) := by simp [clearL, hE]
    rw [hL]
    obtain ⟨k, rfl⟩ := Int.eq_ofNat_of_zero_le h0
    have hk : k < L.length := by omega
    obtain ⟨a, rfl⟩ := h.addr (by omega)
    have hc := h.at_ hk
    have hf := h.free k
    have c0 := h.c0
    have HP := hid (h.put (i := k) (x := -1) (by simpa using G'))
    have hE' : (getE L (k : Int) == 0) = true := by simpa using hE
    clear h hL G' h0 h1 hE
    go_enter Try.func25, Try.ntmps25
    go_wp2_with (go_at_call 26; refine HG.out.mono ?_; rintro e w' ⟨rfl, rfl⟩)
    go_ret2
    exact ⟨rfl, by simpa using HP.out, (Mod.refl _ _).setCell (by simp [rowB]) _⟩
  · have hL : clearL L g = L := by simp [clearL, hE]
    rw [hL]
    have hE' : (getE L g == 0) = false := by simpa using hE
    have H := hid h
    clear h hL hE
    go_enter Try.func25, Try.ntmps25
    go_wp2_with (go_at_call 26; refine HG.out.mono ?_; rintro e w' ⟨rfl, rfl⟩)
    go_ret2
    exact ⟨rfl, H.out, Mod.refl _ _⟩

/-- The reference's 'Set'. -/
theorem rset_f {q cap : Nat} {A : Option Addr} {L : List Int} {w : World} (h : RM w q A cap L) (g m : Int) :
    Calls Try.prog 24 #[.pointer (some ⟨q, 0, none⟩), .int .i64 g, .int .i64 m] w fun e w' => e = .returned (.int .i64 (setE L g m)) ∧ RM w' q A cap (setL L g m) ∧ Mod (rowB A) w w' := by
  have c0 := h.c0
  by_cases hB : inB L g = true
  · have hb' : 0 ≤ g ∧ g < L.length := by simpa [inB] using hB
    obtain ⟨h0, h1⟩ := hb'
    obtain ⟨k, rfl⟩ := Int.eq_ofNat_of_zero_le h0
    have hk : k < L.length := by omega
    obtain ⟨a, rfl⟩ := h.addr (by omega)
    have hc := h.at_ hk
    by_cases hm : 0 ≤ m ∧ m < 256
    · obtain ⟨h2, h3⟩ := hm
      by_cases hx : 0 ≤ at_ L k
      · have hf : fAt L (k : Int) = some (at_ L k) := fAt_some.2 ⟨by omega, hx, by simp⟩
        have hE : setE L (k : Int) m = 30 := by simp [setE, hB, h2, h3, hf]
        have hL : setL L (k : Int) m = L := by simp [setL, hE]
        rw [hE, hL]
        have H := hid h
        clear h hE hL hB hf
        go_enter Try.func24, Try.ntmps24
        go_wp2
        go_ret
        exact ⟨rfl, H.out, Mod.refl _ _⟩
      · have hf : fAt L (k : Int) = none := by unfold fAt; rw [if_neg]; simpa using hx
        have hx' : at_ L k < 0 := by omega
        have HF := hid (rfind_f h m)
        cases hp : pAt L m with
        | some x =>
          have hE : setE L (k : Int) m = 8 := by simp [setE, hB, h2, h3, hf, hp]
          have hL : setL L (k : Int) m = L := by simp [setL, hE]
          have hfe : (findE L m == 0) = true := by simp [findE, hp]
          rw [hE, hL]
          have H := hid h
          clear h hE hL hB hf hp hx
          go_enter Try.func24, Try.ntmps24
          go_wp2_with (go_at_call 27; refine HF.out.mono ?_; rintro e w' ⟨rfl, rfl⟩)
          go_ret
          exact ⟨rfl, H.out, Mod.refl _ _⟩
        | none =>
          have hE : setE L (k : Int) m = 0 := by simp [setE, hB, h2, h3, hf, hp]
          have hL : setL L (k : Int) m = L.set k m := by simp [setL, hE]
          have hfe : (findE L m == 0) = false := by simp [findE, hp]
          have G' := (good_set h.good hE).1
          have HP := hid (h.put (i := k) (x := m) (by simpa using G'))
          have hfr := h.free k
          rw [hE, hL]
          clear h hE hL hB hf hp hx G'
          go_enter Try.func24, Try.ntmps24
          go_wp2_with (go_at_call 27; refine HF.out.mono ?_; rintro e w' ⟨rfl, rfl⟩)
          go_ret
          exact ⟨rfl, HP.out, (Mod.refl _ _).setCell (by simp [rowB]) _⟩
    · have hE : setE L (k : Int) m = 1 := by simp only [setE, hB, hm]; simp
      have hL : setL L (k : Int) m = L := by simp [setL, hE]
      rw [hE, hL]
      have H := hid h
      clear h hE hL hB
      by_cases h2 : m < 0
      · clear hm
        go_enter Try.func24, Try.ntmps24
        go_wp2
        go_ret
        exact ⟨rfl, H.out, Mod.refl _ _⟩
      · have h3 : 256 ≤ m := by omega
        have h4 : 0 ≤ m := by omega
        clear hm h2
        go_enter Try.func24, Try.ntmps24
        go_wp2
        go_ret
        exact ⟨rfl, H.out, Mod.refl _ _⟩
  · have hB' : inB L g = false := by simpa using hB
    have hE : setE L g m = 1 := by simp [setE, hB']
    have hL : setL L g m = L := by simp [setL, hE]
    have hb' : ¬ (0 ≤ g ∧ g < L.length) := by simpa [inB] using hB'
    rw [hE, hL]
    have H := hid h
    clear h hE hL hB hB'
    by_cases h0 : g < 0
    · clear hb'
      go_enter Try.func24, Try.ntmps24
      go_wp2
      go_ret
      exact ⟨rfl, H.out, Mod.refl _ _⟩
    · have h1 : 0 ≤ g := by omega
      have h2 : (L.length : Int) ≤ g := by omega
      clear hb' h0
      go_enter Try.func24, Try.ntmps24
      go_wp2
      go_ret
      exact ⟨rfl, H.out, Mod.refl _ _⟩

end Go.Proofs.Ytgpmaljekfbchaa
