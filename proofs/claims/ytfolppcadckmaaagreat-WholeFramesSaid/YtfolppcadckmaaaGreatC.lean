/-
  Layer 14, bridge.Bridge: New, Rate, Tick, Credit.
-/
import Derived.Test.YtfolppcadckmaaaGreatB
import Derived.Laws.MakeOwn
import Derived.StillTailTactics
namespace Go.Proofs.YtfolppcadckmaaaGreat.Br
open Go.RowKit Go.Tn Go.Tn.P14

def z74 : Array Value := #[.int .i64 0, .int .i64 0, .int .i64 0, .int .i64 0, .int .i64 0, .int .i64 0, .int .i64 0, .int .i64 0, .int .i64 0, .int .i64 0, .int .i64 0, .int .i64 0, .slice none 0 0]

theorem info74 : (Tryz.prog.info? 117).map (fun i => (i.zero.map Value.cells, i.size, i.bytes)) = some (some z74, 13, 120) := by kernel_rfl

theorem made_flat (n : Nat) : madeCells z74 (n * 13) = flat 12 (fun k => k) n (newS n).L (fun _ => (none, 0)) := by
  refine flat_ext (size_madeCells _ _) fun i j hi hj => ?_
  have h : i * 13 + j < n * 13 := by omega
  have h1 : (i * 13 + j) % 13 = j := by omega
  have h2 : z74.size = 13 := rfl
  simp only [madeCells, Array.getElem?_map, Array.getElem?_range, h, if_true, Option.map_some, h2, h1]
  match j, hj with
  | 0, _ | 1, _ | 2, _ | 3, _ | 4, _ | 5, _ | 6, _ | 7, _ | 8, _ | 9, _ | 10, _ | 11, _ | 12, _ => rfl

theorem cnt_new (n : Nat) : cnt (newS n).K = 0 := by
  have : ∀ k, cntTo (newS n).K k = 0 := fun k => by
    induction k with
    | zero => rfl
    | succ k ih => simp only [cntTo, ih]; simp [newS]
  exact this 256

/-- 'New'. -/
theorem new_ok (n : Nat) (w : World) (h1 : 1 ≤ n) (h8 : n ≤ 8) :
    Calls Tryz.prog 6 #[.int .i64 n] w fun e w' => e = .returned (.tuple #[.pointer (some ⟨w.heap.size + 2, 0, none⟩), .int .i64 0]) ∧
      BM w' (w.heap.size + 2) w.heap.size (w.heap.size + 1) [w.heap.size + 2, w.heap.size, w.heap.size + 1] (fun _ => (none, 0)) (newS n) ∧ Mod [] w w' := by
  have hmm := @run_makeMap Tryz.prog
  have hmk : ∀ w : World, (Instr.makeSlice 79 (.int .i64 n) (.int .i64 n)).run Tryz.prog w = .ok (.slice (some ⟨w.heap.size, 0, none⟩) n n) (w.alloc (.cells (flat 12 (fun k => k) n (newS n).L (fun _ => (none, 0))) 117)) := fun w => by
    have hI := info74
    cases hi : Tryz.prog.info? 117 with
    | none => rw [hi] at hI; cases hI
    | some i =>
      rw [hi] at hI
      simp only [Option.map_some, Option.some.injEq, Prod.mk.injEq] at hI
      obtain ⟨hz, hs, hb⟩ := hI
      cases hzz : i.zero with
      | none => rw [hzz] at hz; cases hz
      | some z =>
        rw [hzz] at hz
        simp only [Option.map_some, Option.some.injEq] at hz
        have hr := run_make (P := Tryz.prog) w 79 117 i z Tryz.underlying79 hi hzz .i64 .i64 n n (by omega) (Int.le_refl _) (by rw [hb]; omega) (by omega)
        rw [hz, hs] at hr
        simp only [Int.toNat_natCast] at hr
        rw [made_flat] at hr
        exact hr
  go_enter Tryz.func6, Tryz.ntmps6
  go_wp2
  go_ret2
  refine ⟨rfl, ⟨?_, ⟨?_, ?_, ?_, ?_, by simp, ?_, by decide, by decide⟩, ?_, ?_, ?_, by simp, by simp⟩, (((Mod.refl _ w).alloc _).alloc _).alloc _⟩
  · have := Blk.new ((w.alloc (.cells (flat 12 (fun k => k) n (newS n).L (fun _ => (none, 0))) 117)).alloc (.map #[] 0)) 82 #[.slice (some ⟨w.heap.size, 0, none⟩) n n, .map (some (w.heap.size + 1))]
    simpa [newS] using this
  · have := ((Blk.new w 117 (flat 12 (fun k => k) n (newS n).L (fun _ => (none, 0)))).mod ((Mod.refl [] _).alloc (.map #[] 0)) (by simp))
    exact this.mod ((Mod.refl [] _).alloc _) (by simp)
  · exact fun i _ => ⟨[], QRow.nil _ _, Frs.nil _ _⟩
  · exact fun i j _ _ _ b hb => by simp [blkOf] at hb
  · exact fun i _ b hb => by simp [blkOf] at hb
  · intro b hb
    simp at hb ⊢
    omega
  · have h1 := (IMap.made (w.alloc (.cells (flat 12 (fun k => k) n (newS n).L (fun _ => (none, 0))) 117))).is
    have h2 := h1.alloc _ _ (.cells #[.slice (some ⟨w.heap.size, 0, none⟩) n n, .map (some (w.heap.size + 1))] 82)
    simpa using h2
  · intro m
    have h1 := IMap.made (w.alloc (.cells (flat 12 (fun k => k) n (newS n).L (fun _ => (none, 0))) 117))
    have h2 := mget_alloc _ _ m h1.is (.cells #[.slice (some ⟨w.heap.size, 0, none⟩) n n, .map (some (w.heap.size + 1))] 82)
    rw [h1.get] at h2
    have h3 : ¬ (0 : Int) ≤ (newS n).K m := by simp [newS]
    rw [if_neg h3]
    simpa using h2
  · have h1 := IMap.made (w.alloc (.cells (flat 12 (fun k => k) n (newS n).L (fun _ => (none, 0))) 117))
    have h2 := mlen_alloc _ _ h1.is (.cells #[.slice (some ⟨w.heap.size, 0, none⟩) n n, .map (some (w.heap.size + 1))] 82)
    rw [mlen_made] at h2
    rw [cnt_new]
    simpa using h2

theorem new_bad (n : Int) (w : World) (hn : n < 1 ∨ 8 < n) :
    Calls Tryz.prog 6 #[.int .i64 n] w fun e w' => e = .returned (.tuple #[.pointer none, .int .i64 1]) ∧ w = w' := by
  by_cases h : n < 1
  · clear hn
    go_enter Tryz.func6, Tryz.ntmps6
    go_wp2
    go_ret2
    exact ⟨rfl, rfl⟩
  · have h1 : 1 ≤ n := by omega
    have h2 : 8 < n := by omega
    clear hn h
    go_enter Tryz.func6, Tryz.ntmps6
    go_wp2
    go_ret2
    exact ⟨rfl, rfl⟩

section
variable {w : World} {p bp bk : Nat} {FP : List Nat} {C : Nat → Option Addr × Nat} {S : St}

/-- 'Rate'. -/
theorem rate_f (h : BM w p bp bk FP C S) (x bu ra : Int) : Calls Tryz.prog 15 #[.pointer (some ⟨p, 0, none⟩), .int .i64 x, .int .i64 bu, .int .i64 ra] w fun e w' =>
    e = .returned (.int .i64 (rateE S x bu ra)) ∧ BM w' p bp bk FP C (rateS S x bu ra) ∧ Mod [bp] w w' := by
  unfold rateE rateS
  by_cases hp : isP S x = true
  · have hp' := isP_iff.1 hp
    obtain ⟨h0, h1⟩ := hp'
    obtain ⟨k, rfl⟩ := Int.eq_ofNat_of_zero_le h0
    have hk : k < S.n := by omega
    have c9 := h.num hk (show 9 < 12 by decide)
    have c10 := h.num hk (show 10 < 12 by decide)
    have c11 := h.num hk (show 11 < 12 by decide)
    have f9 := h.rows.free (k * 13 + 9)
    have f10 := h.rows.free (k * 13 + 10)
    have f11 := h.rows.free (k * 13 + 11)
    have H := hid h
    rw [hp]
    by_cases hb : okC bu = true
    · by_cases hr : okC ra = true
      · simp only [hb, hr, Bool.and_self, if_true]
        have HB := hid hb
        have HR := hid hr
        clear hp h0 h1 h hb hr
        go_enter Tryz.func15, Tryz.ntmps15
        go_wp2_with (first
          | (go_at_call 37; refine (at_in H.out hk).mono ?_; rintro e w' ⟨rfl, rfl⟩)
          | (go_at_call 38; refine (credits_f _ _).mono ?_; rintro e w' ⟨rfl, rfl⟩; first | rw [HB.out] | rw [HR.out]))
        go_ret
        have h1 := H.out.onp hk (show 9 < 12 by decide) bu (fun P => P.set 9 bu) rfl
        have h2 := h1.onp (i := k) hk (show 10 < 12 by decide) bu (fun P => P.set 10 bu) rfl
        have h3 := h2.onp (i := k) hk (show 11 < 12 by decide) ra (fun P => P.set 11 ra) rfl
        rw [onP_onP, onP_onP] at h3
        exact ⟨rfl, h3, (((Mod.refl _ _).setCell (.inl (by simp)) _).setCell (.inl (by simp)) _).setCell (.inl (by simp)) _⟩
      · have hr' : okC ra = false := by simpa using hr
        simp only [hb, hr', Bool.and_false, if_false]
        have HB := hid hb
        have HR := hid hr'
        clear hp h0 h1 h hb hr hr'
        go_enter Tryz.func15, Tryz.ntmps15
        go_wp2_with (first
          | (go_at_call 37; refine (at_in H.out hk).mono ?_; rintro e w' ⟨rfl, rfl⟩)
          | (go_at_call 38; refine (credits_f _ _).mono ?_; rintro e w' ⟨rfl, rfl⟩; first | rw [HB.out] | rw [HR.out]))
        go_ret
        exact ⟨rfl, H.out, Mod.refl _ _⟩
    · have hb' : okC bu = false := by simpa using hb
      simp only [hb', Bool.false_and, Bool.and_false, if_false]
      have HB := hid hb'
      clear hp h0 h1 h hb hb'
      go_enter Tryz.func15, Tryz.ntmps15
      go_wp2_with (first
        | (go_at_call 37; refine (at_in H.out hk).mono ?_; rintro e w' ⟨rfl, rfl⟩)
        | (go_at_call 38; refine (credits_f _ _).mono ?_; rintro e w' ⟨rfl, rfl⟩; rw [HB.out]))
      go_ret
      exact ⟨rfl, H.out, Mod.refl _ _⟩
  · have hp' : isP S x = false := by simpa using hp
    simp only [hp', Bool.false_and, if_false]
    have H := hid h
    have HP := hid hp'
    clear hp hp' h
    go_enter Tryz.func15, Tryz.ntmps15
    go_wp2_with (go_at_call 37; refine (at_out H.out HP.out).mono ?_; rintro e w' ⟨rfl, rfl⟩)
    go_ret
    exact ⟨rfl, H.out, Mod.refl _ _⟩

end

end Go.Proofs.YtfolppcadckmaaaGreat.Br
