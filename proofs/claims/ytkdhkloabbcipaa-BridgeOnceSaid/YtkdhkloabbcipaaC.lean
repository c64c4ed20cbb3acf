/-
  Layer 14, bridge.Bridge: New, Rate, Tick, Credit.
-/
import Derived.Test.YtkdhkloabbcipaaB
import Derived.Laws.MakeOwn
import Derived.StillTailTactics
namespace Go.Proofs.Ytkdhkloabbcipaa
open Go.RowKit Go.Tn Go.Tn.P14

def z74 : Array Value := #[.int .i64 0, .int .i64 0, .int .i64 0, .int .i64 0, .int .i64 0, .int .i64 0, .int .i64 0, .int .i64 0, .int .i64 0, .int .i64 0, .int .i64 0, .int .i64 0, .slice none 0 0]

theorem info74 : (Try.prog.info? 74).map (fun i => (i.zero.map Value.cells, i.size, i.bytes)) = some (some z74, 13, 120) := by kernel_rfl

theorem made_flat (n : Nat) : madeCells z74 (n * 13) = flat 12 (fun k => k) n (newS n).L (fun _ => (none, 0)) := by
  refine flat_ext (size_madeCells _ _) fun i j hi hj => ?_
  have h : i * 13 + j < n * 13 := by omega
  have h1 : (i * 13 + j) % 13 = j := by omega
  have h2 : z74.size = 13 := rfl
  simp only [madeCells, Array.getElem?_map, Array.getElem?_range, h, if_true, Option.map_some, h2, h1]
  match j, hj with
  | 0, _ | 1, _ | 2, _ | 3, _ | 4, _ | 5, _ | 6, _ | 7, _ | 8, _ | 9, _ | 10, _ | 11, _ | 12, _ => rfl

theorem cnt_new (n : Nat) : cnt (newS n).K = 0 := by
  have : ∀ k, cntTo (newS n).K k = 0 := fun k => by
    induction k with
    | zero => rfl
    | succ k ih => simp only [cntTo, ih]; simp [newS]
  exact this 256

/-- 'New'. -/
theorem new_ok (n : Nat) (w : World) (h1 : 1 ≤ n) (h8 : n ≤ 8) :
    Calls Try.prog 9 #[.int .i64 n] w fun e w' => e = .returned (.tuple #[.pointer (some ⟨w.heap.size + 2, 0, none⟩), .int .i64 0]) ∧
      BM w' (w.heap.size + 2) w.heap.size (w.heap.size + 1) [w.heap.size + 2, w.heap.size, w.heap.size + 1] (fun _ => (none, 0)) (newS n) ∧ Mod [] w w' := by
  have hmm := @run_makeMap Try.prog
  have hmk : ∀ w : World, (Instr.makeSlice 56 (.int .i64 n) (.int .i64 n)).run Try.prog w = .ok (.slice (some ⟨w.heap.size, 0, none⟩) n n) (w.alloc (.cells (flat 12 (fun k => k) n (newS n).L (fun _ => (none, 0))) 74)) := fun w => by
    have hI := info74
    cases hi : Try.prog.info? 74 with
    | none => rw [hi] at hI; cases hI
    | some i =>
      rw [hi] at hI
      simp only [Option.map_some, Option.some.injEq, Prod.mk.injEq] at hI
      obtain ⟨hz, hs, hb⟩ := hI
      cases hzz : i.zero with
      | none => rw [hzz] at hz; cases hz
      | some z =>
        rw [hzz] at hz
        simp only [Option.map_some, Option.some.injEq] at hz
        have hr := run_make (P := Try.prog) w 56 74 i z Try.underlying56 hi hzz .i64 .i64 n n (by omega) (Int.le_refl _) (by rw [hb]; omega) (by omega)
        rw [hz, hs] at hr
        simp only [Int.toNat_natCast] at hr
        rw [made_flat] at hr
        exact hr
  go_enter Try.func9, Try.ntmps9
  go_wp2
  go_ret2
  refine ⟨rfl, ⟨?_, ⟨?_, ?_, ?_, ?_, by simp, ?_, by decide, by decide⟩, ?_, ?_, ?_, by simp, by simp⟩, (((Mod.refl _ w).alloc _).alloc _).alloc _⟩
  · have := Blk.new ((w.alloc (.cells (flat 12 (fun k => k) n (newS n).L (fun _ => (none, 0))) 74)).alloc (.map #[] 0)) 59 #[.slice (some ⟨w.heap.size, 0, none⟩) n n, .map (some (w.heap.size + 1))]
    simpa [newS] using this
  · have := ((Blk.new w 74 (flat 12 (fun k => k) n (newS n).L (fun _ => (none, 0)))).mod ((Mod.refl [] _).alloc (.map #[] 0)) (by simp))
    exact this.mod ((Mod.refl [] _).alloc _) (by simp)
  · exact fun i _ => ⟨[], QRow.nil _ _, Frs.nil _ _⟩
  · exact fun i j _ _ _ b hb => by simp [blkOf] at hb
  · exact fun i _ b hb => by simp [blkOf] at hb
  · intro b hb
    simp at hb ⊢
    omega
  · have h1 := (IMap.made (w.alloc (.cells (flat 12 (fun k => k) n (newS n).L (fun _ => (none, 0))) 74))).is
    have h2 := h1.alloc _ _ (.cells #[.slice (some ⟨w.heap.size, 0, none⟩) n n, .map (some (w.heap.size + 1))] 59)
    simpa using h2
  · intro m
    have h1 := IMap.made (w.alloc (.cells (flat 12 (fun k => k) n (newS n).L (fun _ => (none, 0))) 74))
    have h2 := mget_alloc _ _ m h1.is (.cells #[.slice (some ⟨w.heap.size, 0, none⟩) n n, .map (some (w.heap.size + 1))] 59)
    rw [h1.get] at h2
    have h3 : ¬ (0 : Int) ≤ (newS n).K m := by simp [newS]
    rw [if_neg h3]
    simpa using h2
  · have h1 := IMap.made (w.alloc (.cells (flat 12 (fun k => k) n (newS n).L (fun _ => (none, 0))) 74))
    have h2 := mlen_alloc _ _ h1.is (.cells #[.slice (some ⟨w.heap.size, 0, none⟩) n n, .map (some (w.heap.size + 1))] 59)
    rw [mlen_made] at h2
    rw [cnt_new]
    simpa using h2

theorem new_bad (n : Int) (w : World) (hn : n < 1 ∨ 8 < n) :
    Calls Try.prog 9 #[.int .i64 n] w fun e w' => e = .returned (.tuple #[.pointer none, .int .i64 1]) ∧ w = w' := by
  by_cases h : n < 1
  · clear hn
    go_enter Try.func9, Try.ntmps9
    go_wp2
    go_ret2
    exact ⟨rfl, rfl⟩
  · have h1 : 1 ≤ n := by omega
    have h2 : 8 < n := by omega
    clear hn h
    go_enter Try.func9, Try.ntmps9
    go_wp2
    go_ret2
    exact ⟨rfl, rfl⟩

section
variable {w : World} {p bp bk : Nat} {FP : List Nat} {C : Nat → Option Addr × Nat} {S : St}

/-- 'Credit'. -/
theorem credit_f (h : BM w p bp bk FP C S) (x : Int) : Calls Try.prog 13 #[.pointer (some ⟨p, 0, none⟩), .int .i64 x] w fun e w' => e = .returned (.int .i64 (creditV S x)) ∧ w = w' := by
  unfold creditV
  by_cases hp : isP S x = true
  · have hp' := isP_iff.1 hp
    obtain ⟨h0, h1⟩ := hp'
    obtain ⟨k, rfl⟩ := Int.eq_ofNat_of_zero_le h0
    have hk : k < S.n := by omega
    have c9 := h.num hk (show 9 < 12 by decide)
    have H := hid h
    rw [if_pos hp]
    clear hp h0 h1 h
    go_enter Try.func13, Try.ntmps13
    go_wp2_with (go_at_call 27; refine (at_in H.out hk).mono ?_; rintro e w' ⟨rfl, rfl⟩)
    go_ret
    exact ⟨rfl, rfl⟩
  · have hp' : isP S x = false := by simpa using hp
    rw [if_neg hp]
    have H := hid h
    have HP := hid hp'
    clear hp hp' h
    go_enter Try.func13, Try.ntmps13
    go_wp2_with (go_at_call 27; refine (at_out H.out HP.out).mono ?_; rintro e w' ⟨rfl, rfl⟩)
    go_ret
    exact ⟨rfl, rfl⟩

/-- 'Rate'. -/
theorem rate_f (h : BM w p bp bk FP C S) (x bu ra : Int) : Calls Try.prog 10 #[.pointer (some ⟨p, 0, none⟩), .int .i64 x, .int .i64 bu, .int .i64 ra] w fun e w' =>
    e = .returned (.int .i64 (rateE S x bu ra)) ∧ BM w' p bp bk FP C (rateS S x bu ra) ∧ Mod [bp] w w' := by
  unfold rateE rateS
  by_cases hp : isP S x = true
  · have hp' := isP_iff.1 hp
    obtain ⟨h0, h1⟩ := hp'
    obtain ⟨k, rfl⟩ := Int.eq_ofNat_of_zero_le h0
    have hk : k < S.n := by omega
    have c9 := h.num hk (show 9 < 12 by decide)
    have c10 := h.num hk (show 10 < 12 by decide)
    have c11 := h.num hk (show 11 < 12 by decide)
    have f9 := h.rows.free (k * 13 + 9)
    have f10 := h.rows.free (k * 13 + 10)
    have f11 := h.rows.free (k * 13 + 11)
    have H := hid h
    rw [hp]
    by_cases hb : okC bu = true
    · by_cases hr : okC ra = true
      · simp only [hb, hr, Bool.and_self, if_true]
        have HB := hid hb
        have HR := hid hr
        clear hp h0 h1 h hb hr
        go_enter Try.func10, Try.ntmps10
        go_wp2_with (first
          | (go_at_call 27; refine (at_in H.out hk).mono ?_; rintro e w' ⟨rfl, rfl⟩)
          | (go_at_call 28; refine (credits_f _ _).mono ?_; rintro e w' ⟨rfl, rfl⟩; first | rw [HB.out] | rw [HR.out]))
        go_ret
        have h1 := H.out.onp hk (show 9 < 12 by decide) bu (fun P => P.set 9 bu) rfl
        have h2 := h1.onp (i := k) hk (show 10 < 12 by decide) bu (fun P => P.set 10 bu) rfl
        have h3 := h2.onp (i := k) hk (show 11 < 12 by decide) ra (fun P => P.set 11 ra) rfl
        rw [onP_onP, onP_onP] at h3
        exact ⟨rfl, h3, (((Mod.refl _ _).setCell (.inl (by simp)) _).setCell (.inl (by simp)) _).setCell (.inl (by simp)) _⟩
      · have hr' : okC ra = false := by simpa using hr
        simp only [hb, hr', Bool.and_false, if_false]
        have HB := hid hb
        have HR := hid hr'
        clear hp h0 h1 h hb hr hr'
        go_enter Try.func10, Try.ntmps10
        go_wp2_with (first
          | (go_at_call 27; refine (at_in H.out hk).mono ?_; rintro e w' ⟨rfl, rfl⟩)
          | (go_at_call 28; refine (credits_f _ _).mono ?_; rintro e w' ⟨rfl, rfl⟩; first | rw [HB.out] | rw [HR.out]))
        go_ret
        exact ⟨rfl, H.out, Mod.refl _ _⟩
    · have hb' : okC bu = false := by simpa using hb
      simp only [hb', Bool.false_and, Bool.and_false, if_false]
      have HB := hid hb'
      clear hp h0 h1 h hb hb'
      go_enter Try.func10, Try.ntmps10
      go_wp2_with (first
        | (go_at_call 27; refine (at_in H.out hk).mono ?_; rintro e w' ⟨rfl, rfl⟩)
        | (go_at_call 28; refine (credits_f _ _).mono ?_; rintro e w' ⟨rfl, rfl⟩; rw [HB.out]))
      go_ret
      exact ⟨rfl, H.out, Mod.refl _ _⟩
  · have hp' : isP S x = false := by simpa using hp
    simp only [hp', Bool.false_and, if_false]
    have H := hid h
    have HP := hid hp'
    clear hp hp' h
    go_enter Try.func10, Try.ntmps10
    go_wp2_with (go_at_call 27; refine (at_out H.out HP.out).mono ?_; rintro e w' ⟨rfl, rfl⟩)
    go_ret
    exact ⟨rfl, H.out, Mod.refl _ _⟩

set_option maxHeartbeats 1000000 in
/-- 'Tick'. -/
theorem tick_f (h : BM w p bp bk FP C S) (hcr : ∀ i j, i < S.n → 9 ≤ j → (S.L i).c j ≤ 65536) (hlo : ∀ i j, i < S.n → 0 ≤ (S.L i).c j) (h8 : S.n ≤ 8) : Calls Try.prog 12 #[.pointer (some ⟨p, 0, none⟩)] w fun e w' =>
    e = .returned (.int .i64 0) ∧ BM w' p bp bk FP C (tickS S) ∧ Mod [bp] w w' := by
  have d0 := h.c0
  have H1 := hid h.c1
  have HC := hid hcr
  have HL := hid hlo
  have H := hid h
  clear h hcr hlo
  go_enter Try.func12, Try.ntmps12
  go_wp2_with (go_at_call 30; refine (none_f _ _ _ H1.out).mono ?_; rintro e w' ⟨rfl, rfl⟩)
  go_loopw [12] (fun i wr => ∃ k : Nat, k ≤ S.n ∧ i = .int .i64 k ∧ Hid (BM wr p bp bk FP C (tickTo S k)) ∧ Hid (Mod [bp] w wr)) (fun i _ => S.n - (intOf i).toNat)
  case atStart => exact ⟨0, Nat.zero_le _, rfl, by rw [tickTo_zero]; exact H.out, Mod.refl _ _⟩
  case round =>
    obtain ⟨k, hk, rfl, hb, hm⟩ := hrel
    have c0 := hb.out.c0
    simp only [tickTo] at c0
    by_cases hlt : k < S.n
    · have c9 := hb.out.num (i := k) hlt (show 9 < 12 by decide)
      have c10 := hb.out.num (i := k) hlt (show 10 < 12 by decide)
      have c11 := hb.out.num (i := k) hlt (show 11 < 12 by decide)
      rw [tickTo_at] at c9 c10 c11
      obtain ⟨x9, e9⟩ : ∃ x, (S.L k).c 9 = x := ⟨_, rfl⟩
      obtain ⟨x10, e10⟩ : ∃ x, (S.L k).c 10 = x := ⟨_, rfl⟩
      obtain ⟨x11, e11⟩ : ∃ x, (S.L k).c 11 = x := ⟨_, rfl⟩
      have f9 := hb.out.rows.free (k * 13 + 9)
      have b9 := HC.out k 9 hlt (by decide)
      have b11 := HC.out k 11 hlt (by decide)
      have a9 := HL.out k 9 hlt
      have a11 := HL.out k 11 hlt
      rw [e9] at c9 b9 a9
      rw [e10] at c10
      rw [e11] at c11 b11 a11
      have hst := hid (tickTo_succ S k)
      have hx := hid (show tickP (S.L k) = (S.L k).set 9 (if x9 + x11 < x10 then x9 + x11 else x10) by unfold tickP; rw [e9, e10, e11]; congr 1; split <;> omega)
      clear e9 e10 e11
      go_wp2_with fail
      go_still_tail 17, (by kernel_rfl)
      change wpList _ _ _ _ _ wr.drew
      go_wp2
      go_roundw
      case rel =>
        refine ⟨k + 1, by omega, by go_num, ?_, ((hm.out.setCell (.inl (by simp)) _).drew)⟩
        have := hb.out.onp (i := k) hlt (show 9 < 12 by decide) _ tickP ((tickTo_at S k).symm ▸ hx.out)
        rw [← hst.out] at this
        exact this.newer (Mod.refl [] _).drew
      case measure => simp [intOf]; omega
    · have hke : k = S.n := by omega
      have HB := hid (show BM wr p bp bk FP C (tickS S) by unfold tickS; rw [← hke]; exact hb.out)
      clear hke
      go_wp2
      go_ret
      exact ⟨rfl, HB.out, hm.out⟩
end

end Go.Proofs.Ytkdhkloabbcipaa
