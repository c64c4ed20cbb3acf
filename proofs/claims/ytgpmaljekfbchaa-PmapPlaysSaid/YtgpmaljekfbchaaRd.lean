/-
  Layer 3: the reference's Copy; the law's helpers told and play.
-/
import Derived.Test.YtgpmaljekfbchaaRc
import Derived.Laws.AppendOwnNone
namespace Go.Proofs.Ytgpmaljekfbchaa
open Go.RowKit Go.Tn Go.Tn.P3

theorem ints_one (L : List Int) : ∀ u ∈ ints L, u.oneCell' = true := by
  intro u hu
  simp only [ints, List.mem_map] at hu
  obtain ⟨x, _, rfl⟩ := hu
  rfl

set_option maxHeartbeats 1000000 in
/-- The reference's 'Copy'. -/
theorem rcopy_f {q cap : Nat} {A : Option Addr} {L : List Int} {w : World} (h : RM w q A cap L) :
    Calls Try.prog 21 #[.pointer (some ⟨q, 0, none⟩)] w fun e w' => ∃ q' A' cap', e = .returned (.pointer (some ⟨q', 0, none⟩)) ∧ RM w' q' A' cap' L ∧ Mod [] w w' ∧ w.heap.size ≤ q' ∧ ∀ b, b ∈ rowB A' → w.heap.size ≤ b := by
  obtain ⟨i0, hi, hz0, hz1, hz2⟩ := info_parts info3
  have c0 := h.c0
  have hl := h.good.len
  have hql := h.blk.lt
  have HOn : (w.alloc (.cells #[] 3)).ownsRow w.heap.size 3 1 (.slice (some ⟨w.heap.size, 0, none⟩) 0 0) 0 [] :=
    World.ownsRow_lit w #[] 0 (Nat.le_refl _) (by decide) (by simp)
  have HON := hid HOn
  clear HOn
  have H := hid h
  have hfin : ∀ (v' : Value) (w1 : World), w1.ownsRow w.heap.size 3 1 v' L.length (ints L) → (w.alloc (.cells #[] 3)).grownBy w1 (some w.heap.size) → ∃ A' cap', v' = .slice A' L.length cap' ∧ Hid (RM (w1.alloc (.cells #[v'] 58)) w1.heap.size A' cap' L ∧ Mod [] w (w1.alloc (.cells #[v'] 58)) ∧ w.heap.size ≤ w1.heap.size ∧ ∀ b, b ∈ rowB A' → w.heap.size ≤ b) := by
    intro v' w1 ho hg
    obtain ⟨A', cap', rfl, hb⟩ := own_slice ho
    have hs := hg.size
    simp at hs
    exact ⟨A', cap', rfl, ⟨Blk.new w1 58 _, ownsRow_weak (ho.alloc _), H.out.good⟩, (((Mod.refl [] w).alloc _).grown hg (fun k hk => by injection hk with hk; exact .inr (by omega))).alloc _, by omega, fun b hb' => (hb b hb').1⟩
  have HF := hid hfin
  clear hfin h
  by_cases hn : 0 < L.length
  · obtain ⟨g, rfl⟩ := H.out.addr hn
    have hgl := H.out.lt (b := g) (by simp [rowB])
    go_enter Try.func21, Try.ntmps21
    go_wp2_with (at_builtin; refine wpList_append_own _ rfl _ _ 56 rfl w.heap.size 3 i0 _ 1 8 Try.underlying56 hi hz0 hz1 hz2 rfl (by decide) _ _ _ rfl HON.out ⟨g, 0, none⟩ L.length cap (ints L) rfl ?c0 ?c1 ?c2 ?c3 ?c4 ?c5 ?_)
    case c0 => simp [ints]
    case c1 =>
      intro j u hj
      have hjl : j < L.length := by have := (List.getElem?_eq_some_iff.1 hj).1; simpa [ints] using this
      rw [ints_get L hjl] at hj
      injection hj with hj
      subst hj
      rw [World.cell?_alloc_lt _ _ _ (by unfold Addr.add; split <;> exact hgl)]
      have : (⟨g, 0, none⟩ : Addr).add j = ⟨g, j, none⟩ := by unfold Addr.add; split <;> simp_all
      rw [this]
      exact H.out.at_ hjl
    case c2 => exact ints_one L
    case c3 => unfold maxLen; omega
    case c4 => omega
    case c5 => simp
    intro v' w1 hown' hgrow _
    obtain ⟨A', cap', hv, hr⟩ := HF.out v' w1 hown' hgrow
    subst hv
    clear hown' hgrow
    go_wp2
    go_ret
    exact ⟨_, A', cap', rfl, hr.out.1, hr.out.2.1, hr.out.2.2.1, hr.out.2.2.2⟩
  · have h0 : L = [] := List.eq_nil_of_length_eq_zero (by omega)
    subst h0
    have HR := hid (HF.out (.slice (some ⟨w.heap.size, 0, none⟩) 0 0) (w.alloc (.cells #[] 3)) HON.out (World.grownBy.refl _ _))
    obtain ⟨A', cap', hv', hr⟩ := HR.out
    injection hv' with hA' hlx hc'
    clear hlx
    subst hA' hc'
    clear HR
    rcases H.out.row.2 with ⟨hv, hz⟩ | ⟨g, cap1, cur, hv, _, hg, _⟩
    · injection hv with hA _ hc
      subst hA hc
      clear hz
      go_enter Try.func21, Try.ntmps21
      go_wp2_with (at_builtin; refine wpList_append_own_none rfl _ _ 56 rfl w.heap.size 3 i0 1 Try.underlying56 hi _ _ _ rfl HON.out rfl ?_)
      go_ret
      exact ⟨_, _, _, rfl, by simpa using hr.out.1, by simpa using hr.out.2.1, by simp, by simp [rowB]⟩
    · injection hv with hA _ hc
      subst hA hc
      go_enter Try.func21, Try.ntmps21
      go_wp2_with (at_builtin; refine wpList_append_own _ rfl _ _ 56 rfl w.heap.size 3 i0 _ 1 8 Try.underlying56 hi hz0 hz1 hz2 rfl (by decide) _ _ _ rfl HON.out ⟨g, 0, none⟩ 0 cap [] rfl rfl (by simp) (by simp) (by unfold maxLen; omega) (by omega) (by simp) ?_)
      intro v' w1 hown' hgrow _
      obtain ⟨A2, cap2, hv2, hr2⟩ := HF.out v' w1 hown' hgrow
      subst hv2
      clear hown' hgrow
      go_wp2
      go_ret
      exact ⟨_, A2, cap2, rfl, hr2.out.1, hr2.out.2.1, hr2.out.2.2.1, hr2.out.2.2.2⟩

/-- What a call of 'play' makes of the places. -/
def playL (L : List Int) (x y z : Int) : List Int := if x = 0 then setL L y z else if x = 1 then clearL L y else L

theorem good_playL {L : List Int} (G : Ok3 L) (x y z : Int) : Ok3 (playL L x y z) := by
  unfold playL
  split
  · exact good_setL G y z
  · split
    · exact good_clearL G y
    · exact G
theorem len_playL (L : List Int) (x y z : Int) : (playL L x y z).length = L.length := by
  unfold playL
  split
  · exact len_setL L y z
  · split
    · exact len_clearL L y
    · rfl

end Go.Proofs.Ytgpmaljekfbchaa
