/-
  Layer 7: event channels: Bind, Pending, Port, awake.
-/
import Derived.Test.YtcgeeepjpodopaaEx
namespace Go.Proofs.Ytcgeeepjpodopaa
open Go.RowKit Go.Tn

theorem info3 : (Try.prog.info? 3).map (fun i => (i.zero, i.size, i.bytes)) = some (some (.int .i64 0), 1, 8) := by kernel_rfl

section
variable {w w' : World} {x : Nat} {P Q : Pt} {u : Bool}

/-- 'Bind(1, 0, 0)'. -/
theorem bind_f (h : Ev w x P Q u) (hk : P.k = 1) (hr : P.r = 1) (hq : Q.k = 0) :
    Calls Try.prog 6 #[.pointer (some ⟨x, 0, none⟩), .int .i64 1, .int .i64 0, .int .i64 0] w fun e w' => e = .returned (.tuple #[.int .i64 0, .int .i64 0]) ∧ Ev w' x { P with k := 2, p := 0 } ⟨2, 0, 0, 0, false, false⟩ u ∧ Mod [x] w w' := by
  have H := hid h
  have HM := hid h.made
  obtain ⟨cs, hb, hc⟩ := h
  obtain ⟨pk, pr, pp, pv, pe, ma⟩ := P
  dsimp only at hk hr
  subst hk hr
  have c1 := (hb.cell 1).trans hc.p.k
  have c2 := (hb.cell 2).trans hc.p.r
  have c3 := (hb.cell 3).trans hc.p.p
  have c4 := (hb.cell 4).trans hc.p.v
  have c5 := (hb.cell 5).trans hc.p.pe
  have c6 := (hb.cell 6).trans hc.p.ma
  dsimp only at c1 c2 c3 c4 c5 c6
  have HQ := hid hq
  clear hb hc hq
  go_enter Try.func6, Try.ntmps6
  go_wp2_with fail
  refine (side1 HM.out).mono ?_
  rintro e w' ⟨rfl, rfl⟩
  go_wp2_with (go_at_call 16; refine (there0 HM.out).mono ?_; rintro e w' ⟨rfl, rfl⟩)
  have hm := (Mod.refl [] w).alloc (.cells #[.int .i64 1, .int .i64 1, .int .i64 pp, .int .i64 pv, .bool pe, .bool ma] 38)
  refine (take1 (H.out.mod hm (by simp)) HQ.out ⟨2, 0, 0, 0, false, false⟩).mono ?_
  rintro e w2 ⟨rfl, h2, hm2⟩
  have H2 := hid h2
  have HM2 := hid ((hm.mono (T := [x]) (by simp)).andThen hm2)
  obtain ⟨cs2, hb2, hc2⟩ := h2
  have d1 := (hb2.cell 1).trans hc2.p.k
  have d3 := (hb2.cell 3).trans hc2.p.p
  have f1 := hb2.frozen 1
  have f3 := hb2.frozen 3
  have HB2 := hid hb2
  have HC2 := hid hc2
  dsimp only at d1 d3
  clear hb2 hc2 hm hm2 c1 c2 c3 c4 c5 c6
  go_wp2_with fail
  go_region
  all_goals go_wp2
  all_goals go_ret2
  exact ⟨rfl, ⟨_, ((HB2.out.set_ 1 _).set_ 3 _).mod ((Mod.refl [] _).drew) (by simp), (HC2.out.inP (by decide) (by decide) (HC2.out.p.setk 2)).inP (by decide) (by decide) ((HC2.out.p.setk 2).setp 0)⟩, ((HM2.out.setCell (.inl (by simp)) _).setCell (.inl (by simp)) _).drew⟩

/-- 'Port(0, 0)'. -/
theorem port_f (h : Ev w x P Q u) :
    Calls Try.prog 19 #[.pointer (some ⟨x, 0, none⟩), .int .i64 0, .int .i64 0] w fun e w' => e = .returned (.tuple #[P.val, .int .i64 0]) ∧ Mod [] w w' := by
  have HM := hid (h.mod ((Mod.refl [] w).alloc (.cells #[.int .i64 0, .int .i64 0, .int .i64 0, .int .i64 0, .bool false, .bool false] 38)) (by simp)).made
  have hxl := h.lt
  obtain ⟨cs, hb, hc⟩ := h
  have c1 := (hb.cell 1).trans hc.p.k
  have c2 := (hb.cell 2).trans hc.p.r
  have c3 := (hb.cell 3).trans hc.p.p
  have c4 := (hb.cell 4).trans hc.p.v
  have c5 := (hb.cell 5).trans hc.p.pe
  have c6 := (hb.cell 6).trans hc.p.ma
  clear hb hc
  unfold Pt.val
  go_enter Try.func19, Try.ntmps19
  go_wp2_with (go_at_call 16; refine (there0 HM.out).mono ?_; rintro e w' ⟨rfl, rfl⟩)
  refine bodyPost_ret (by rw [results_cell_tmp rfl]; go_simp; rfl) rfl ?_
  exact ⟨rfl, ((Mod.refl [] w).alloc _)⟩

set_option maxHeartbeats 1000000 in
/-- 'awake'. -/
theorem awake_f (w : World) : Calls Try.prog 13 #[] w fun e w' => e = .returned (.bool true) ∧ Mod [] w w' := by
  go_enter Try.func13, Try.ntmps13
  go_wp2_with (first
    | (go_at_call 4; refine (new_f w).mono ?_; rintro e w1 ⟨rfl, h1, hm1⟩; have H1 := hid h1; have HM1 := hid hm1; clear h1 hm1)
    | (go_at_call 5; refine (alloc_f H1.out rfl).mono ?_; rintro e w2 ⟨rfl, h2, hm2⟩; have H2 := hid h2; have HM2 := hid hm2; clear h2 hm2)
    | (go_at_call 19; refine (port_f H2.out).mono ?_; rintro e w3 ⟨rfl, hm3⟩; unfold Pt.val; have HM3 := hid hm3; clear hm3))
  go_ret
  exact ⟨rfl, ((HM1.out.trans HM2.out (fun t ht => .inr (by simp at ht; omega))).andThen HM3.out).alloc _⟩

set_option maxHeartbeats 2000000 in
/-- 'Pending(0)'. -/
theorem pending_f (h : Ev w x P Q u) :
    Calls Try.prog 12 #[.pointer (some ⟨x, 0, none⟩), .int .i64 0] w fun e w' => (∃ A cap, e = .returned (.slice A (if P.pe = true then 1 else 0) cap)) ∧ Mod [] w w' := by
  have HM := hid h.made
  obtain ⟨cs, hb, hc⟩ := h
  have hr : w.rangeAt x 1 (cs.extract 1 (1 + 192)).toList := World.rangeAt_of_block hb 1 192
  have hsz : (Try.prog.info? 39).map (·.size) = some (cs.extract 1 (1 + 192)).toList.length := by rw [size39]; simp; have := hc.s; omega
  obtain ⟨A, hA⟩ : ∃ A, cs.extract 1 (1 + 192) = A := ⟨_, rfl⟩
  have hx0 : A.extract (0 * 6) (0 * 6 + 6) = #[.int .i64 P.k, .int .i64 P.r, .int .i64 P.p, .int .i64 P.v, .bool P.pe, .bool P.ma] := by
    rw [← hA, ← extract_pc hc.p]
    simp
  have hxi : ∀ i, 1 ≤ i → i < 32 → A.extract (i * 6) (i * 6 + 6) = #[.int .i64 0, .int .i64 0, .int .i64 0, .int .i64 0, .bool false, .bool false] := fun i h1 h2 => by
    have := extract_pc (hc.z i h1 h2)
    rw [← hA, Array.extract_extract]
    have e1 : 1 + i * 6 = 1 + 6 * i := by omega
    have e2 : min (1 + (i * 6 + 6)) (1 + 192) = 1 + 6 * i + 6 := by omega
    rw [e1, e2]
    exact this
  rw [hA] at hr hsz
  have HR := hid hr
  have HSZ := hid hsz
  have HX0 := hid hx0
  have HXI := hid hxi
  clear hA hx0 hxi hr hsz hb hc
  obtain ⟨i3, hi3, hz0, hz1, hz2⟩ := info_parts info3
  obtain ⟨pk, pr, pp, pv, pe, ma⟩ := P
  dsimp only at HX0 ⊢
  go_enter Try.func12, Try.ntmps12
  go_wp2_with (first
    | (go_at_call 14; refine (side0 HM.out).mono ?_; rintro e w' ⟨rfl, rfl⟩)
    | (refine wpList_load_mid rfl 39 _ rfl x 1 rfl A.toList _ HR.out Try.underlying39 rfl HSZ.out ?_))
  go_loopw [7, 23] (fun l i wr => ∃ k : Nat, k ≤ 32 ∧ i = .int .i64 k ∧ ((k = 0 ∧ l = .slice none 0 0) ∨ (1 ≤ k ∧ ∃ B cap, l = .slice B (if pe = true then 1 else 0) cap)) ∧ Hid (Mod [] w wr)) (fun _ i _ => 32 - (intOf i).toNat)
  case atStart => exact ⟨0, by decide, rfl, .inl ⟨rfl, rfl⟩, Mod.refl _ _⟩
  case round =>
    obtain ⟨k, hk, rfl, hl, hm⟩ := hrel
    rcases hl with ⟨rfl, rfl⟩ | ⟨h1, B, cap, rfl⟩
    case inl =>
      cases pe
      case false =>
        go_wp2_with (refine wpList_index39 rfl _ _ rfl (i := 0) rfl rfl rfl (by decide) HX0.out ?_)
        go_roundw
        case rel => exact ⟨1, by decide, rfl, .inr ⟨by decide, _, _, rfl⟩, hm.out.alloc _⟩
        case measure => simp [intOf]
      case true =>
        go_wp2_with (first
          | (refine wpList_index39 rfl _ _ rfl (i := 0) rfl rfl rfl (by decide) HX0.out ?_)
          | (at_builtin; refine wpList_append_lies _ rfl _ _ 33 rfl 0 3 i3 _ 1 8 Try.underlying33 hi3 hz0 hz1 hz2 rfl (by decide) (.slice none 0 0) 0 [] rfl (World.ownsRow_nil _ 0 3 1) ⟨wr.heap.size + 1, 0, none⟩ 1 1 [.int .i64 0] rfl rfl ?c1 (fun u hu => by simp at hu; subst hu; rfl) (by decide) (by unfold maxLen; decide) (by decide) (Nat.zero_le _) (wr.heap.size + 2) (by simp) ?_))
        case c1 =>
          intro j u hu
          cases j with
          | zero => simp at hu; subst hu; simp [World.cell?_alloc_new, Addr.add]
          | succ j => simp at hu
        intro g2 cap2 w2 hown hgr hat hlt
        have HM2 := hid (((hm.out.alloc (.cells #[.int .i64 pk, .int .i64 pr, .int .i64 pp, .int .i64 pv, .bool true, .bool ma] 38)).alloc (.cells #[.int .i64 0] 3)).grown hgr (by simp [Value.ownBlock]))
        clear hown hgr hat hlt
        go_wp2
        go_roundw
        case rel => exact ⟨1, by decide, rfl, .inr ⟨by decide, _, _, rfl⟩, HM2.out⟩
        case measure => simp [intOf]
    case inr =>
      by_cases hlt : k < 32
      case neg =>
        have hk2 : k = 32 := by omega
        subst hk2
        clear hlt
        cases pe
        all_goals
          go_wp2
          go_ret
          exact ⟨⟨_, _, rfl⟩, hm.out⟩
      case pos =>
        have HXK := hid (HXI.out k h1 hlt)
        go_wp2_with (refine wpList_index39 rfl _ _ rfl (i := k) rfl rfl rfl hlt HXK.out ?_)
        go_roundw
        case rel => exact ⟨k + 1, by omega, by go_num, .inr ⟨by omega, _, _, rfl⟩, hm.out.alloc _⟩
        case measure => simp [intOf]; omega
end

end Go.Proofs.Ytcgeeepjpodopaa
