/-
  Layer 7: event channels: the calls of the law.
-/
import Derived.Test.YtcgeeepjpodopaaEw
import Derived.BigRegion
import Derived.RegionTactic
namespace Go.Proofs.Ytcgeeepjpodopaa
open Go.RowKit Go.Tn

section
variable {w w' : World} {x : Nat} {P Q : Pt} {u : Bool}

/-- 'Alloc(0, 1)'. -/
theorem alloc_f (h : Ev w x P Q u) (hk : P.k = 0) :
    Calls Try.prog 5 #[.pointer (some ⟨x, 0, none⟩), .int .i64 0, .int .i64 1] w fun e w' => e = .returned (.tuple #[.int .i64 0, .int .i64 0]) ∧ Ev w' x ⟨1, 1, 0, 0, false, false⟩ Q u ∧ Mod [x] w w' := by
  have H := hid h
  have HM := hid h.made
  have HK := hid hk
  clear h hk
  go_enter Try.func5, Try.ntmps5
  go_wp2_with fail
  refine (side0 HM.out).mono ?_
  rintro e w' ⟨rfl, rfl⟩
  go_wp2_with fail
  refine (side1 HM.out).mono ?_
  rintro e w' ⟨rfl, rfl⟩
  go_wp2_with (first
    | (go_at_call 15; refine (take0 H.out HK.out ⟨1, 1, 0, 0, false, false⟩).mono ?_; rintro e w2 ⟨rfl, h2, hm2⟩; have H2 := hid h2; have HM2 := hid hm2; clear h2 hm2))
  go_ret2
  exact ⟨rfl, H2.out, HM2.out⟩

/-- 'pend' of port 0 of domain 0. -/
theorem pend_f (h : Ev w x P Q u) :
    Calls Try.prog 17 #[.pointer (some ⟨x, 1, none⟩), .int .i64 0] w fun e w' => e = .returned (.tuple #[]) ∧ Ev w' x { P with pe := true } Q (u || !P.ma) ∧ Mod [x] w w' := by
  obtain ⟨cs, hb, hc⟩ := h
  have c5 := (hb.cell 5).trans hc.p.pe
  have c6 := (hb.cell 6).trans hc.p.ma
  have c193 := (hb.cell 193).trans hc.u
  have f5 := hb.frozen 5
  have f193 := hb.frozen 193
  have HB := hid hb
  have HC := hid hc
  obtain ⟨pk, pr, pp, pv, pe, ma⟩ := P
  dsimp only at c5 c6 ⊢
  clear hb hc
  cases u <;> cases ma
  all_goals
    go_enter Try.func17, Try.ntmps17
    go_wp2
    go_end0
    have e1 := HC.out.inP (by decide) (by decide) (HC.out.p.setpe true)
    exact ⟨rfl, ⟨_, (HB.out.set_ 5 _).set_ 193 _, e1.inU _⟩, ((Mod.refl [x] w).setCell (.inl (by simp)) _).setCell (.inl (by simp)) _⟩

/-- 'Send(1, 0)'. -/
theorem send_f (h : Ev w x P Q u) (hk : Q.k = 2) (hr : Q.r = 0) (hp : Q.p = 0) :
    Calls Try.prog 7 #[.pointer (some ⟨x, 0, none⟩), .int .i64 1, .int .i64 0] w fun e w' => e = .returned (.int .i64 0) ∧ Ev w' x { P with pe := true } Q (u || !P.ma) ∧ Mod [x] w w' := by
  have H := hid h
  have HM := hid h.made
  obtain ⟨cs, hb, hc⟩ := h
  have c0 := (hb.cell 194).trans hc.q.k
  have c1 := (hb.cell 195).trans hc.q.r
  have c2 := (hb.cell 196).trans hc.q.p
  have c3 := (hb.cell 197).trans hc.q.v
  have c4 := (hb.cell 198).trans hc.q.pe
  have c5 := (hb.cell 199).trans hc.q.ma
  rw [hk] at c0
  rw [hr] at c1
  rw [hp] at c2
  have hxl := hb.lt
  clear hb hc hk hr hp
  go_enter Try.func7, Try.ntmps7
  go_wp2_with (go_at_call 16; refine (there1 HM.out).mono ?_; rintro e w' ⟨rfl, rfl⟩)
  have hm := (Mod.refl [] w).alloc (.cells #[.int .i64 2, .int .i64 0, .int .i64 0, .int .i64 Q.v, .bool Q.pe, .bool Q.ma] 38)
  have H2 := hid (H.out.mod hm (by simp))
  have hb2 := Blk.new w 38 #[.int .i64 2, .int .i64 0, .int .i64 0, .int .i64 Q.v, .bool Q.pe, .bool Q.ma]
  have HM2 := hid hm
  generalize w.alloc (.cells #[.int .i64 2, .int .i64 0, .int .i64 0, .int .i64 Q.v, .bool Q.pe, .bool Q.ma] 38) = w2 at *
  have d1 : w2.cell? ⟨w.heap.size, 1, none⟩ = some (.int .i64 0) := hb2.cell 1
  have d2 : w2.cell? ⟨w.heap.size, 2, none⟩ = some (.int .i64 0) := hb2.cell 2
  clear hb2 hm c0 c1 c2 c3 c4 c5
  go_still_tail 8, (by kernel_rfl)
  change wpList _ _ _ _ _ w2.drew
  go_wp2_with (go_at_call 17; refine (pend_f (H2.out.mod (Mod.refl [] w2).drew (by simp))).mono ?_; rintro e w3 ⟨rfl, h3, hm3⟩; have H3 := hid h3; have HM3 := hid hm3; clear h3 hm3)
  go_ret
  exact ⟨rfl, H3.out, ((HM2.out.mono (T := [x]) (by simp)).drew).andThen HM3.out⟩

/-- 'Take(0)'. -/
theorem taketop_f (h : Ev w x P Q u) :
    Calls Try.prog 8 #[.pointer (some ⟨x, 0, none⟩), .int .i64 0] w fun e w' => e = .returned (.tuple #[.bool u, .int .i64 0]) ∧ Ev w' x P Q false ∧ Mod [x] w w' := by
  have HM := hid h.made
  obtain ⟨cs, hb, hc⟩ := h
  have c193 := (hb.cell 193).trans hc.u
  have f193 := hb.frozen 193
  have HB := hid hb
  have HC := hid hc
  clear hb hc
  go_enter Try.func8, Try.ntmps8
  go_wp2_with (go_at_call 14; refine (side0 HM.out).mono ?_; rintro e w' ⟨rfl, rfl⟩)
  go_ret2
  exact ⟨rfl, ⟨_, HB.out.set_ 193 _, HC.out.inU false⟩, (Mod.refl [x] w).setCell (.inl (by simp)) _⟩

/-- 'Clear(0, 0)'. -/
theorem clear_f (h : Ev w x P Q u) (hk : P.k ≠ 0) :
    Calls Try.prog 10 #[.pointer (some ⟨x, 0, none⟩), .int .i64 0, .int .i64 0] w fun e w' => e = .returned (.int .i64 0) ∧ Ev w' x { P with pe := false } Q u ∧ Mod [x] w w' := by
  have HM := hid h.made
  obtain ⟨cs, hb, hc⟩ := h
  have HT := hid (taken0 HM.out ((hb.cell 1).trans hc.p.k) hk)
  have c5 := (hb.cell 5).trans hc.p.pe
  have f5 := hb.frozen 5
  have HB := hid hb
  have HC := hid hc
  clear hb hc hk
  go_enter Try.func10, Try.ntmps10
  go_wp2_with (go_at_call 18; refine HT.out.mono ?_; rintro e w' ⟨rfl, rfl⟩)
  go_ret
  exact ⟨rfl, ⟨_, HB.out.set_ 5 _, HC.out.inP (by decide) (by decide) (HC.out.p.setpe false)⟩, (Mod.refl [x] w).setCell (.inl (by simp)) _⟩

/-- 'Upcall(0)'. -/
theorem upcall_f (h : Ev w x P Q u) :
    Calls Try.prog 11 #[.pointer (some ⟨x, 0, none⟩), .int .i64 0] w fun e w' => e = .returned (.bool u) ∧ w = w' := by
  have HM := hid h.made
  obtain ⟨cs, hb, hc⟩ := h
  have c193 := (hb.cell 193).trans hc.u
  clear hb hc
  go_enter Try.func11, Try.ntmps11
  go_wp2_with (go_at_call 14; refine (side0 HM.out).mono ?_; rintro e w' ⟨rfl, rfl⟩)
  go_ret
  exact ⟨rfl, rfl⟩

/-- 'Mask(0, 0, on)'. -/
theorem mask_f (h : Ev w x P Q u) (hk : P.k ≠ 0) (on : Bool) :
    Calls Try.prog 9 #[.pointer (some ⟨x, 0, none⟩), .int .i64 0, .int .i64 0, .bool on] w fun e w' => e = .returned (.int .i64 0) ∧ Ev w' x { P with ma := on } Q (u || (P.ma && !on && P.pe)) ∧ Mod [x] w w' := by
  have HM := hid h.made
  obtain ⟨cs, hb, hc⟩ := h
  have HT := hid (taken0 HM.out ((hb.cell 1).trans hc.p.k) hk)
  have c5 := (hb.cell 5).trans hc.p.pe
  have c6 := (hb.cell 6).trans hc.p.ma
  have c193 := (hb.cell 193).trans hc.u
  have f6 := hb.frozen 6
  have f193 := hb.frozen 193
  have HB := hid hb
  have HC := hid hc
  obtain ⟨pk, pr, pp, pv, pe, ma⟩ := P
  dsimp only at c5 c6 ⊢
  clear hb hc hk
  cases u <;> cases ma <;> cases on <;> cases pe
  all_goals
    go_enter Try.func9, Try.ntmps9
    go_wp2_with (go_at_call 18; refine HT.out.mono ?_; rintro e w' ⟨rfl, rfl⟩)
    go_ret
    exact ⟨rfl, ⟨_, (HB.out.set_ 193 _).set_ 6 _, (HC.out.inU _).inP (by decide) (by decide) ((HC.out.inU _).p.setma _)⟩, ((Mod.refl [x] w).setCell (.inl (by simp)) _).setCell (.inl (by simp)) _⟩
end

end Go.Proofs.Ytcgeeepjpodopaa
