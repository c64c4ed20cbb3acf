/-
  Frames: rings: New, Open, Room, Put, of a front end.
-/
import Derived.Test.YtfolppcadckmaaaGreatRi
namespace Go.Proofs.YtfolppcadckmaaaGreat
open Go.RowKit Go.Tn
open Go.Proofs
set_option maxRecDepth 100000

theorem rnew_f (mfn : Nat) (hm : mfn < 256) (w : World) : Calls Tryz.prog 34 #[.int .i64 (mfn : Nat)] w fun e w' => e = .returned (.tuple #[.pointer (some ⟨w.heap.size, 0, none⟩), .int .i64 0]) ∧ RB w' w.heap.size mfn 0 0 0 ∧ Tn.Mod [] w w' := by
  have h1 : (mfn : Int) < 256 := by omega
  go_enter Tryz.func34, Tryz.ntmps34
  go_wp2
  go_ret2
  exact ⟨rfl, Blk.new _ _ _, (Mod.refl [] w).alloc _⟩

section
variable {w w' : World} {b f m mfn i o s fb : Nat} {F : Nat → Nat → Int}

theorem ropen_f (p : PH w m fb F) (mfn : Nat) (hm : mfn < 14) : Calls Tryz.prog 14 #[.pointer (some ⟨m, 0, none⟩), .int .i64 (mfn : Nat)] w fun e w' =>
    ∃ g, w.heap.size ≤ g ∧ e = .returned (.tuple #[.pointer (some ⟨g, 0, none⟩), .int .i64 0]) ∧ RF w' g m mfn 0 0 ∧ Tn.Mod [] w w' := by
  have HF := hid (frame_f p mfn hm)
  clear p
  go_enter Tryz.func14, Tryz.ntmps14
  go_wp2_with (go_at_call 36; refine HF.out.mono ?_; rintro e w5 ⟨rfl, hm5⟩; have HM5 := hid hm5; clear hm5)
  go_ret2
  have hb := Blk.new (w5.alloc (.cells #[.int .i64 (F mfn 0), .int .i64 (F mfn 1), .int .i64 (F mfn 2), .int .i64 (F mfn 3)] 70)) 108 #[.bool true, .int .i64 (mfn : Nat), .int .u16 0, .int .u16 0, .pointer (some ⟨m, 0, none⟩)]
  rw [World.size_alloc] at hb
  refine ⟨_, ?_, rfl, hb, ?_⟩
  · have := HM5.out.size
    omega
  · exact (HM5.out.alloc _).alloc _

theorem room_f (h : RF w f m mfn i o) (hi : i < 65536) (ho : o < 65536) : Calls Tryz.prog 44 #[.pointer (some ⟨f, 0, none⟩)] w fun e w' => e = .returned (.int .i64 (8 - (df i o : Nat))) ∧ Tn.Mod [] w w' := by
  obtain ⟨c0, c1, c2, c3, c4⟩ := h.cells
  have H := hid h
  have HB := hid (between_f (mfn : Nat) i o hi ho w)
  have hl := df_lt i o
  clear h hi ho
  go_enter Tryz.func44, Tryz.ntmps44
  go_wp2_with (first
    | (go_at_call 42; refine (rfnone_f H.out).mono ?_; rintro e w' ⟨rfl, rfl⟩)
    | (go_at_call 51; refine HB.out.mono ?_; rintro e w5 ⟨rfl, hm5⟩; have HM5 := hid hm5; clear hm5))
  go_ret
  exact ⟨rfl, HM5.out⟩

theorem RF.set2 (h : RF w f m mfn i o) (x : Nat) : RF (w.setCell ⟨f, 2, none⟩ (.int .u16 (x : Nat))) f m mfn x o := by
  have := Blk.set_ h 2 (.int .u16 (x : Nat))
  simpa [RF] using this
theorem RF.set3 (h : RF w f m mfn i o) (x : Nat) : RF (w.setCell ⟨f, 3, none⟩ (.int .u16 (x : Nat))) f m mfn i x := by
  have := Blk.set_ h 3 (.int .u16 (x : Nat))
  simpa [RF] using this

theorem tbB {w : World} {q n : Nat} (h : Bys w (some ⟨q, 0, none⟩) 2 (tb n)) : Bys w (some ⟨q, 0, none⟩) 2 (tb n) := h

set_option maxHeartbeats 4000000 in
/-- 'Put', where there is room. -/
theorem rput_f (h : RF w f m mfn i o) (p : PH w m fb F) (hi : i < 65536) (ho : o < 65536) (hmf : mfn < 14) (hown : F mfn 0 ≠ -1) (hroom : df i o < 8) (sa : Option Addr) (cp : Nat) (G : Nat → Int) (hB : Bys w sa 16 G) (hsf : ∀ q off, sa = some ⟨q, off, none⟩ → q ≠ fb ∧ q ≠ f) :
    Calls Tryz.prog 18 #[.pointer (some ⟨f, 0, none⟩), .slice sa 16 cp] w fun e w' => e = .returned (.int .i64 0) ∧ PH w' m fb (wrB (wrB F mfn (qs i) 16 G) mfn 0 2 (tb (sc i))) ∧ RF w' f m mfn (sc i) o ∧ Tn.Mod [fb, f] w w' := by
  obtain ⟨c0, c1, c2, c3, c4⟩ := h.cells
  have hq : qs i + 16 ≤ 256 := by unfold qs; omega
  have hne : fb ≠ f := p.fr.ne_ h (by decide)
  have hmne : m ≠ f := p.blk.ne_ h (by decide)
  have hW1 : Hid (∀ W, Tn.Mod [] w W → Calls Tryz.prog 12 #[.pointer (some ⟨m, 0, none⟩), .int .i64 (mfn : Nat), .int .i64 (qs i : Nat), .slice sa 16 cp] W fun e w' => e = .returned (.int .i64 0) ∧ PH w' m fb (wrB F mfn (qs i) 16 G) ∧ Tn.Mod [fb] W w') :=
    hid fun W hm => write_f (p.mod0 hm) mfn (qs i) 16 cp sa G hmf hq (by omega) hown (hB.mod hm (by simp))
  have hW2 : Hid (∀ W q, PH W m fb (wrB F mfn (qs i) 16 G) → Bys W (some ⟨q, 0, none⟩) 2 (tb (sc i)) → Calls Tryz.prog 12 #[.pointer (some ⟨m, 0, none⟩), .int .i64 (mfn : Nat), .int .i64 0, .slice (some ⟨q, 0, none⟩) 2 2] W fun e w' => e = .returned (.int .i64 0) ∧ PH w' m fb (wrB (wrB F mfn (qs i) 16 G) mfn 0 2 (tb (sc i))) ∧ Tn.Mod [fb] W w') :=
    hid fun W q hp hb => write_f hp mfn 0 2 2 (some ⟨q, 0, none⟩) (tb (sc i)) hmf (by omega) (by omega) (by unfold wrB; rw [if_neg (by omega)]; exact hown) hb
  have hrm : ((8 : Int) - (df i o : Nat) == 0) = false := by simp; omega
  have hsc := sc_wrap i
  have hscl := sc_lt i
  have H := hid h
  have HI := hid hi
  have HO := hid ho
  have HR := hid (room_f h hi ho)
  have HSC := hid hsc
  clear hi ho hmf hown hB hroom hq h p hsf
  have HNE := hid (And.intro hne hmne)
  clear hne hmne
  go_enter Tryz.func18, Tryz.ntmps18
  go_wp2_with (first
    | (go_at_call 42; refine (rfnone_f H.out).mono ?_; rintro e w' ⟨rfl, rfl⟩)
    | (go_at_call 43; refine (slotq_f i _).mono ?_; rintro e w4 ⟨rfl, hm4⟩; have HM4 := hid hm4; have HR4 := hid (room_f (H.out.mod0 hm4) HI.out HO.out); clear hm4)
    | (go_at_call 44; refine HR4.out.mono ?_; rintro e w5 ⟨rfl, hm5⟩; have HM5 := hid (HM4.out.andThen hm5)
       have H5 := hid (H.out.mod0 HM5.out)
       obtain ⟨d0, d1, d2, d3, d4⟩ := H5.out.cells
       clear hm5))
  have HS5 := hid (fun (n : Nat) => (H5.out.mod0 ((Mod.refl [] w5).drewN n)).cells)
  have s1 := (H5.out.mod0 ((Mod.refl [] w5).drew)).cells
  have HS1 := hid (And.intro s1.2.2.2.2 s1.2.1)
  clear s1
  go_region_held3 (fun w' => w'.cell? ⟨f, 4, none⟩ = some (.pointer (some ⟨m, 0, none⟩)) ∧ w'.cell? ⟨f, 1, none⟩ = some (.int .i64 (mfn : Nat))) (first | exact HS1.out | go_keep)
    (first
      | (go_at_call 12; refine (hW1.out _ (HM5.out.drew)).mono ?_; rintro e w6 ⟨rfl, hp6, hm6⟩
         have hm16 := (HM5.out.drew.mono (T := [fb]) (by simp)).andThen hm6
         have h6 := H.out.mod hm16 (by simpa using fun e => HNE.out.1 e.symm)
         have H6 := hid h6
         have HM6 := hid hm16
         have HP6 := hid hp6
         obtain ⟨k0, k1, k2, k3, k4⟩ := h6.cells
         have f6 := Blk.frozen h6 2
         clear h6 hm6 hp6 hm16))
  go_wp2
  have H7 := hid (H6.out.set2 (sc i))
  have hm7 : Tn.Mod [f] w6 (w6.setCell ⟨f, 2, none⟩ (.int .u16 (sc i : Nat))) := (Mod.refl _ w6).setCell (.inl (by simp)) _
  have HP7 := hid (HP6.out.mod hm7 (by simpa using HNE.out.2) (by simpa using HNE.out.1))
  have HM7 := hid ((HM6.out.mono (T := [fb, f]) (by simp)).andThen (hm7.mono (by simp)))
  generalize w6.setCell ⟨f, 2, none⟩ (.int .u16 (sc i : Nat)) = w7 at *
  have s7 := (H7.out.mod0 ((Mod.refl [] w7).drew)).cells
  have HS7 := hid (And.intro s7.2.2.2.2 (And.intro s7.2.1 s7.2.2.1))
  clear s7 hm7 k0 k1 k2 k3 k4 f6
  go_region_held3 (fun w' => w'.cell? ⟨f, 4, none⟩ = some (.pointer (some ⟨m, 0, none⟩)) ∧ w'.cell? ⟨f, 1, none⟩ = some (.int .i64 (mfn : Nat)) ∧ w'.cell? ⟨f, 2, none⟩ = some (.int .u16 (sc i : Nat))) (first | exact HS7.out | go_keep)
    (first
      | (go_at_call 45; refine (two_f (sc i) (sc_lt i) _).mono ?_; rintro e w8 ⟨q8, hq8, rfl, hb8, hm8⟩
         have hm78 : Tn.Mod [] w7 w8 := ((Mod.refl [] w7).drew).andThen hm8
         have h8 := H7.out.mod0 hm78
         have H8 := hid h8
         have HB8 := hid hb8
         have HM8 := hid hm78
         obtain ⟨k0, k1, k2, k3, k4⟩ := h8.cells
         clear h8 hm8 hb8 hm78 hq8)
      | (go_at_call 12; refine (hW2.out _ _ (HP7.out.mod0 HM8.out) HB8.out).mono ?_; rintro e w9 ⟨rfl, hp9, hm9⟩
         have h9 := H8.out.mod hm9 (by simpa using fun e => HNE.out.1 e.symm)
         have H9 := hid h9
         have HP9 := hid hp9
         have HM9 := hid ((HM7.out.andThen (HM8.out.mono (T := [fb, f]) (by simp))).andThen (hm9.mono (by simp)))
         obtain ⟨l0, l1, l2, l3, l4⟩ := h9.cells
         clear h9 hm9 hp9))
  go_wp2
  go_ret
  exact ⟨rfl, HP9.out, H9.out, HM9.out⟩
end
end Go.Proofs.YtfolppcadckmaaaGreat
