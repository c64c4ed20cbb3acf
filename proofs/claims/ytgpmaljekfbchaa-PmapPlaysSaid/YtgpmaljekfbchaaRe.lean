/-
  Layer 3: the law's helpers told and play, over a map and the reference's that read alike.
-/
import Derived.Test.YtgpmaljekfbchaaRd
namespace Go.Proofs.Ytgpmaljekfbchaa
open Go.RowKit Go.Tn Go.Tn.P3

/-- The two maps' blocks are apart: by their kinds. -/
theorem sep {w : World} {p bf bp q cap : Nat} {A : Option Addr} {L L' : List Int} (h : PM w p bf bp L) (h' : RM w q A cap L') :
    q ≠ p ∧ q ≠ bf ∧ q ≠ bp ∧ ∀ b, b ∈ rowB A → b ≠ p ∧ b ≠ bf ∧ b ≠ bp := by
  refine ⟨h'.blk.ne_ h.blk (by decide), h'.blk.ne_map h.mf.imap, h'.blk.ne_map h.mp.imap, fun b hb => ?_⟩
  rcases h'.row.2 with ⟨hv, _⟩ | ⟨g, cap1, cur, hv, _, hg, _⟩
  · injection hv with hA
    subst hA
    simp [rowB] at hb
  · injection hv with hA
    subst hA
    simp [rowB] at hb
    subst hb
    have hb' : Blk w b 3 cur := hg
    exact ⟨hb'.ne_ h.blk (by decide), hb'.ne_map h.mf.imap, hb'.ne_map h.mp.imap⟩

section
variable {w w' : World} {p bf bp q cap : Nat} {A : Option Addr} {L L' : List Int}
/-- What the program's call turns leaves the reference's map alone. -/
theorem RM.over (h' : RM w q A cap L') (h : PM w p bf bp L) (hm : Mod [bf, bp] w w') : RM w' q A cap L' := by
  obtain ⟨_, s2, s3, s4⟩ := sep h h'
  exact h'.mod hm (by simp [s2, s3]) (fun b hb => by simp [(s4 b hb).2.1, (s4 b hb).2.2])
theorem PM.over (h : PM w p bf bp L) (h' : RM w q A cap L') (hm : Mod (rowB A) w w') : PM w' p bf bp L := by
  obtain ⟨_, _, _, s4⟩ := sep h h'
  exact h.mod hm (fun hb => (s4 _ hb).1 rfl) (fun hb => (s4 _ hb).2.1 rfl) (fun hb => (s4 _ hb).2.2 rfl)
end

set_option maxHeartbeats 2000000 in
/-- 'play'. -/
theorem play_f {p bf bp q cap : Nat} {A : Option Addr} {L : List Int} {w : World} (h : PM w p bf bp L) (h' : RM w q A cap L) (x y z : Int) :
    Calls Try.prog 18 #[.pointer (some ⟨p, 0, none⟩), .pointer (some ⟨q, 0, none⟩), .agg #[.int .i64 x, .int .i64 y, .int .i64 z]] w fun e w' => e = .returned (.bool true) ∧
      PM w' p bf bp (playL L x y z) ∧ RM w' q A cap (playL L x y z) ∧ Mod ([bf, bp] ++ rowB A) w w' := by
  have hpl := h.blk.lt
  have hql := h'.blk.lt
  have HP := hid (h.alloc (.cells #[.int .i64 x, .int .i64 y, .int .i64 z] 36))
  have HR := hid (h'.alloc (.cells #[.int .i64 x, .int .i64 y, .int .i64 z] 36))
  have hbf := h.mf.lt
  have hbp := h.mp.lt
  have HB := hid (Blk.new w 36 #[.int .i64 x, .int .i64 y, .int .i64 z])
  have hfin : ∀ (L2 : List Int) (w2 w3 : World), Mod [bf, bp] (w.alloc (.cells #[.int .i64 x, .int .i64 y, .int .i64 z] 36)) w2 → Mod (rowB A) w2 w3 → PM w2 p bf bp L2 → RM w3 q A cap L2 → RM w2 q A cap L →
      PM w3 p bf bp L2 ∧ RM w3 q A cap L2 ∧ Mod ([bf, bp] ++ rowB A) w w3 := by
    intro L2 w2 w3 m2 m3 p2 r3 r2
    refine ⟨p2.over r2 m3, r3, (((Mod.refl _ w).alloc _).trans m2 ?_).trans m3 ?_⟩
    · intro t ht
      simp only [List.mem_cons, List.not_mem_nil, or_false] at ht
      exact .inl (by simp only [List.mem_append, List.mem_cons, List.not_mem_nil, or_false]; exact .inl ht)
    · intro t ht
      exact .inl (List.mem_append_right _ ht)
  have HF := hid hfin
  clear hfin h h'
  by_cases hx0 : x = 0
  · have hL : playL L x y z = setL L y z := by simp [playL, hx0]
    rw [hL]
    have hx : (x == 0) = true := by simpa using hx0
    clear hL hx0
    go_enter Try.func18, Try.ntmps18
    go_wp2_with (first
      | (go_at_call 10; refine (set_f HP.out y z).mono ?_; rintro e w2 ⟨rfl, hp2, hm2⟩; have HP2 := hid hp2; have HM2 := hid hm2; have HR2 := hid (HR.out.over HP.out hm2); have hb2 := HB.out.mod hm2 (by simp; omega); have b1 : w2.cell? ⟨w.heap.size, 1, none⟩ = some (.int .i64 y) := hb2.cell 1; have b2 : w2.cell? ⟨w.heap.size, 2, none⟩ = some (.int .i64 z) := hb2.cell 2; clear hp2 hm2 hb2)
      | (go_at_call 24; refine (rset_f HR2.out y z).mono ?_; rintro e w3 ⟨rfl, hr3, hm3⟩; have HR3 := hid hr3; have HM3 := hid hm3; clear hr3 hm3))
    go_ret
    exact ⟨rfl, HF.out _ _ _ HM2.out HM3.out HP2.out HR3.out HR2.out⟩
  · have hx : (x == 0) = false := by simpa using hx0
    by_cases hx1 : x = 1
    · have hL : playL L x y z = clearL L y := by simp [playL, hx1]
      rw [hL]
      have hx' : (x == 1) = true := by simpa using hx1
      clear hL hx0 hx1
      go_enter Try.func18, Try.ntmps18
      go_wp2_with (first
        | (go_at_call 12; refine (clear_f HP.out y).mono ?_; rintro e w2 ⟨rfl, hp2, hm2⟩; have HP2 := hid hp2; have HM2 := hid hm2; have HR2 := hid (HR.out.over HP.out hm2); have hb2 := HB.out.mod hm2 (by simp; omega); have b1 : w2.cell? ⟨w.heap.size, 1, none⟩ = some (.int .i64 y) := hb2.cell 1; clear hp2 hm2 hb2)
        | (go_at_call 25; refine (rclear_f HR2.out y).mono ?_; rintro e w3 ⟨rfl, hr3, hm3⟩; have HR3 := hid hr3; have HM3 := hid hm3; clear hr3 hm3))
      go_ret
      exact ⟨rfl, HF.out _ _ _ HM2.out HM3.out HP2.out HR3.out HR2.out⟩
    · have hx' : (x == 1) = false := by simpa using hx1
      have hL : playL L x y z = L := by simp [playL, hx0, hx1]
      rw [hL]
      clear hL hx0 hx1
      by_cases hx2 : x = 2
      · have hx'' : (x == 2) = true := by simpa using hx2
        clear hx2
        go_enter Try.func18, Try.ntmps18
        go_wp2_with (first
          | (go_at_call 13; refine (get_f HP.out y).mono ?_; rintro e w' ⟨rfl, rfl⟩)
          | (go_at_call 26; refine (rget_f HR.out y).mono ?_; rintro e w' ⟨rfl, rfl⟩))
        go_ret
        exact ⟨rfl, HF.out _ _ _ (Mod.refl _ _) (Mod.refl _ _) HP.out HR.out HR.out⟩
      · have hx'' : (x == 2) = false := by simpa using hx2
        clear hx2
        go_enter Try.func18, Try.ntmps18
        go_wp2_with (first
          | (go_at_call 14; refine (find_f HP.out y).mono ?_; rintro e w' ⟨rfl, rfl⟩)
          | (go_at_call 27; refine (rfind_f HR.out y).mono ?_; rintro e w' ⟨rfl, rfl⟩))
        go_ret
        exact ⟨rfl, HF.out _ _ _ (Mod.refl _ _) (Mod.refl _ _) HP.out HR.out HR.out⟩

end Go.Proofs.Ytgpmaljekfbchaa
