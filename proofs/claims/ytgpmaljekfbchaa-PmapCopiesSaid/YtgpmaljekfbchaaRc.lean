/-
  Layer 3: the reference's List and Copy; the law's helpers pairs, awake, told, play.
-/
import Derived.Test.YtgpmaljekfbchaaRb
namespace Go.Proofs.Ytgpmaljekfbchaa
open Go.RowKit Go.Tn Go.Tn.P3

set_option maxHeartbeats 1000000 in
/-- The reference's 'List': new memory alone. -/
theorem rlist_f {q cap : Nat} {A : Option Addr} {L : List Int} {w : World} (h : RM w q A cap L) :
    Calls Try.prog 30 #[.pointer (some ⟨q, 0, none⟩)] w fun e w' => ∃ v, e = .returned v ∧ w'.ownsRow w.heap.size 32 2 v (pairs L).length (cellsOf (pairs L)) ∧ Mod [] w w' := by
  have hl := h.good.len
  have H := hid h
  clear h
  obtain ⟨i0, hi, hz0, hz1, hz2⟩ := info_parts info32
  have c00 := H.out.c0
  go_enter Try.func30, Try.ntmps30
  go_wp2
  clear c00
  go_loopw [3, 4] (fun v i wr => ∃ k : Nat, k ≤ L.length ∧ i = .int .i64 k ∧ wr.ownsRow w.heap.size 32 2 v (pairsTo L k).length (cellsOf (pairsTo L k)) ∧ Mod [] w wr) (fun _ i _ => L.length - (intOf i).toNat)
  case atStart => exact ⟨0, Nat.zero_le _, rfl, World.ownsRow_nil _ _ _ _, Mod.refl _ _⟩
  case round =>
    obtain ⟨k, hk, rfl, hown, hm⟩ := hrel
    have h' := H.out.mod hm (by simp) (by simp)
    have c0 := h'.c0
    have HR := hid h'
    have HM := hid hm
    clear h' hm
    by_cases hlt : k < L.length
    · obtain ⟨g, rfl⟩ := HR.out.addr (by omega)
      have hc := HR.out.at_ hlt
      by_cases h0 : 0 ≤ at_ L k
      · have hs : pairsTo L (k + 1) = pairsTo L k ++ [((k : Int), at_ L k)] := by simp [pairsTo, h0]
        have HS := hid hs
        clear hs
        have hpk := pairsTo_len L k
        have hws := HM.out.size
        go_wp2_with (at_builtin; refine wpList_append_own _ rfl _ _ 29 rfl w.heap.size 32 i0 _ 2 16 Try.underlying29 hi hz0 hz1 hz2 rfl (by decide) _ _ _ rfl (hown.alloc _) ⟨wr.heap.size, 0, none⟩ 1 1 [.int .i64 k, .int .i64 (at_ L k)] rfl rfl ?c1 ?c2 ?c3 ?c4 ?c5 ?_)
        case c1 =>
          intro j u hj
          match j, hj with
          | 0, hj => simp at hj; subst hj; simp [Addr.add]
          | 1, hj => simp at hj; subst hj; simp [Addr.add]
        case c2 => intro u hu; simp at hu; rcases hu with rfl | rfl <;> rfl
        case c3 => unfold maxLen; omega
        case c4 => omega
        case c5 => simp; omega
        intro v' w1 hown' hgrow _
        go_wp2
        go_roundw
        case rel =>
          refine ⟨k + 1, by omega, by go_num, ?_, ?_⟩
          · rw [HS.out, cellsOf_append, List.length_append]
            exact hown'
          · exact (HM.out.alloc _).grown hgrow fun b hb => .inr (hown.lt b hb).1
        case measure => simp [intOf]; omega
      · have hs : pairsTo L (k + 1) = pairsTo L k := by simp [pairsTo, h0]
        have HS := hid hs
        clear hs
        go_wp2
        go_roundw
        case rel => exact ⟨k + 1, by omega, by go_num, by rw [HS.out]; exact hown, HM.out⟩
        case measure => simp [intOf]; omega
    · have he : k = L.length := by omega
      subst he
      go_wp2
      go_ret
      exact ⟨_, rfl, hown, HM.out⟩

/-- A slice of pairs as it comes out of 'List'. -/
def Prs (w : World) (A : Option Addr) (l : List (Int × Int)) : Prop :=
  ∀ k x, l[k]? = some x → ∃ g, A = some ⟨g, 0, none⟩ ∧ g < w.heap.size ∧ w.cell? ⟨g, k * 2, none⟩ = some (.int .i64 x.1) ∧ w.cell? ⟨g, k * 2 + 1, none⟩ = some (.int .i64 x.2)

theorem prs_own {w : World} {base : Nat} {v : Value} {l : List (Int × Int)} (h : w.ownsRow base 32 2 v l.length (cellsOf l)) : ∃ A cap, v = .slice A l.length cap ∧ Prs w A l := by
  rcases h.2 with ⟨rfl, h0⟩ | ⟨g, cap, cur, rfl, hb, hg, _⟩
  · exact ⟨none, 0, by rw [h0], fun k x hx => by have := (List.getElem?_eq_some_iff.1 hx).1; omega⟩
  · refine ⟨_, cap, rfl, fun k x hx => ⟨g, rfl, (Array.getElem?_eq_some_iff.1 hg).1, ?_⟩⟩
    have hk := (List.getElem?_eq_some_iff.1 hx).1
    rw [h.cellAt _ (by omega), h.cellAt _ (by omega)]
    exact cellsOf_get _ k x hx

theorem Prs.mod {S : List Nat} {w w' : World} {A : Option Addr} {l : List (Int × Int)} (h : Prs w A l) (hm : Mod S w w') (hS : ∀ b, b ∈ rowB A → b ∉ S) : Prs w' A l := by
  intro k x hx
  obtain ⟨g, rfl, hg, h1, h2⟩ := h k x hx
  have := hm.size
  exact ⟨g, rfl, by omega, (hm.cell (p := ⟨g, _, none⟩) hg (hS g (by simp [rowB]))).trans h1, (hm.cell (p := ⟨g, _, none⟩) hg (hS g (by simp [rowB]))).trans h2⟩

theorem list_p {p bf bp : Nat} {L : List Int} {w : World} (h : PM w p bf bp L) :
    Calls Try.prog 11 #[.pointer (some ⟨p, 0, none⟩)] w fun e w' => ∃ A cap, e = .returned (.slice A (pairs L).length cap) ∧ Prs w' A (pairs L) ∧ Mod [] w w' := by
  refine (list_f h).mono ?_
  rintro e w' ⟨v, rfl, hown, hm⟩
  obtain ⟨A, cap, rfl, hp⟩ := prs_own hown
  exact ⟨A, cap, rfl, hp, hm⟩
theorem rlist_p {q cap : Nat} {A : Option Addr} {L : List Int} {w : World} (h : RM w q A cap L) :
    Calls Try.prog 30 #[.pointer (some ⟨q, 0, none⟩)] w fun e w' => ∃ A cap, e = .returned (.slice A (pairs L).length cap) ∧ Prs w' A (pairs L) ∧ Mod [] w w' := by
  refine (rlist_f h).mono ?_
  rintro e w' ⟨v, rfl, hown, hm⟩
  obtain ⟨A, cap, rfl, hp⟩ := prs_own hown
  exact ⟨A, cap, rfl, hp, hm⟩

set_option maxHeartbeats 1000000 in
/-- 'pairs' of two slices that hold the same. -/
theorem pairs_f {A A' : Option Addr} {c c' : Nat} {l : List (Int × Int)} {w : World} (h : Prs w A l) (h' : Prs w A' l) (hl : l.length ≤ 48) :
    Calls Try.prog 29 #[.slice A l.length c, .slice A' l.length c'] w fun e w' => e = .returned (.bool true) ∧ ∃ n, w' = w.drewN n := by
  have H := hid h
  have H' := hid h'
  clear h h'
  go_enter Try.func29, Try.ntmps29
  go_wp2
  go_loopw [5] (fun i wr => ∃ k n : Nat, k ≤ l.length ∧ i = .int .i64 k ∧ wr = w.drewN n) (fun i _ => l.length - (intOf i).toNat)
  case atStart => exact ⟨0, 0, Nat.zero_le _, rfl, rfl⟩
  case round =>
    obtain ⟨k, n, hk, rfl, rfl⟩ := hrel
    by_cases hlt : k < l.length
    · obtain ⟨x, hx⟩ : ∃ x, l[k]? = some x := ⟨_, List.getElem?_eq_getElem hlt⟩
      obtain ⟨g, rfl, _, e1, e2⟩ := H.out k x hx
      obtain ⟨g', rfl, _, e3, e4⟩ := H'.out k x hx
      clear hx
      go_wp2
      go_quiet (fail)
      go_wp2
      go_roundw
      case rel => exact ⟨k + 1, _, by omega, by go_num, rfl⟩
      case measure => simp [intOf]; omega
    · have he : k = l.length := by omega
      subst he
      go_wp2
      go_ret
      exact ⟨rfl, n, rfl⟩

/-- 'awake'. -/
theorem awake_f (w : World) : Calls Try.prog 20 #[] w fun e w' => e = .returned (.bool true) ∧ Mod [] w w' := by
  go_enter Try.func20, Try.ntmps20
  go_wp2_with (first
    | (go_at_call 8; refine (new_ok 2 _ (by omega)).mono ?_; rintro e w1 ⟨rfl, hq, hm1⟩; have HQ := hid hq; have HM1 := hid hm1; clear hq hm1)
    | (go_at_call 15; refine (size_f HQ.out).mono ?_; rintro e w' ⟨rfl, rfl⟩))
  go_ret
  exact ⟨rfl, HM1.out⟩

end Go.Proofs.Ytgpmaljekfbchaa
