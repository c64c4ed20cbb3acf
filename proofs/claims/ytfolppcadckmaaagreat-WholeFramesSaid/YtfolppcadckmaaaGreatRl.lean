/-
  Frames: rings: a back end's Waiting, Look, Take, Answer.
-/
import Derived.Test.YtfolppcadckmaaaGreatRi
namespace Go.Proofs.YtfolppcadckmaaaGreat
open Go.RowKit Go.Tn
open Go.Proofs
set_option maxRecDepth 100000

section
variable {w w' : World} {b f m mfn i o s fb v db r : Nat} {F : Nat → Nat → Int}

theorem RB.set2 (h : RB w b mfn i o s) (x : Nat) : RB (w.setCell ⟨b, 2, none⟩ (.int .u16 (x : Nat))) b mfn x o s := by
  have := Blk.set_ h 2 (.int .u16 (x : Nat))
  simpa [RB] using this
theorem RB.set3 (h : RB w b mfn i o s) (x : Nat) : RB (w.setCell ⟨b, 3, none⟩ (.int .u16 (x : Nat))) b mfn i x s := by
  have := Blk.set_ h 3 (.int .u16 (x : Nat))
  simpa [RB] using this
theorem RB.set4 (h : RB w b mfn i o s) (x : Nat) : RB (w.setCell ⟨b, 4, none⟩ (.int .u16 (x : Nat))) b mfn i o x := by
  have := Blk.set_ h 4 (.int .u16 (x : Nat))
  simpa [RB] using this

/-- 'Waiting'. -/
theorem waiting_f (h : RB w b mfn i o s) (hi : i < 65536) (hs : s < 65536) : Calls Tryz.prog 77 #[.pointer (some ⟨b, 0, none⟩)] w fun e w' => e = .returned (.int .i64 (df s i : Nat)) ∧ Tn.Mod [] w w' := by
  obtain ⟨c0, c1, c2, c3, c4⟩ := h.cells
  have hd := df_wrap hs hi
  have hl := df_lt s i
  have H := hid h
  clear h hi hs
  go_enter Tryz.func77, Tryz.ntmps77
  go_wp2_with (go_at_call 73; refine (rbnone_f H.out).mono ?_; rintro e w' ⟨rfl, rfl⟩)
  go_quiet (fail)
  go_wp2
  go_ret
  exact ⟨rfl, (Mod.refl [] w).drewN _⟩

set_option maxHeartbeats 4000000 in
/-- 'Look'. -/
theorem look_f (h : RB w b mfn i o s) (hv : VH w v m db r) (p : PH w m fb F) (hr : r ≤ 100000) (hi : i < 65536) (hmf : mfn < 14) (n : Nat) (hn : n < 65536) (hd : df n i ≤ 8) (h0 : F mfn 4 = ((n % 256 : Nat) : Int)) (h1 : F mfn 5 = ((n / 256 : Nat) : Int)) :
    Calls Tryz.prog 64 #[.pointer (some ⟨b, 0, none⟩), .pointer (some ⟨v, 0, none⟩)] w fun e w' => e = .returned (.tuple #[.int .i64 (df n i : Nat), .bool false, .int .i64 0]) ∧ RB w' b mfn i o n ∧ VH w' v m db (r + 1) ∧ PH w' m fb F ∧ Tn.Mod [v, b] w w' := by
  obtain ⟨c0, c1, c2, c3, c4⟩ := h.cells
  have hbv : b ≠ v := Blk.ne_ h hv.blk (by decide)
  have hbd : b ≠ db := Blk.ne_map h hv.mm.imap
  have hbf : b ≠ fb := Blk.ne_ h p.fr (by decide)
  have hbm : b ≠ m := Blk.ne_ h p.blk (by decide)
  have hW : Calls Tryz.prog 75 #[.pointer (some ⟨v, 0, none⟩), .int .i64 (mfn : Nat), .int .i64 0] w _ := vword_f hv p hr mfn 0 n hmf (by omega) hn h0 h1
  have HW := hid hW
  have HA := hid (ahead_f n i hn hi hd)
  have hse : IntKind.u16.wrap ((i : Int) + ((df n i : Nat) : Int)) = ((n : Nat) : Int) := by rw [IntKind.wrap_u16]; unfold df; omega
  have hcv : IntKind.u16.wrap ((df n i : Nat) : Int) = ((df n i : Nat) : Int) := by rw [IntKind.wrap_u16]; have := df_lt n i; omega
  have hd8 : ((df n i : Nat) : Int) ≤ 8 := by omega
  have H := hid h
  have HV := hid hv
  have HNE := hid (And.intro hbv (And.intro hbd (And.intro hbf hbm)))
  clear h hv p hr hi hmf hn hd h0 h1 hbv hbd hbf hbm hW
  go_enter Tryz.func64, Tryz.ntmps64
  go_wp2_with (first
    | (go_at_call 73; refine (rbnone_f H.out).mono ?_; rintro e w' ⟨rfl, rfl⟩)
    | (go_at_call 74; refine (runmade_f HV.out).mono ?_; rintro e w' ⟨rfl, rfl⟩)
    | (go_at_call 75; refine HW.out.mono ?_; rintro e w5 ⟨rfl, hp5, hv5, hm5⟩
       have h5 := H.out.mod hm5 (by simpa using HNE.out.1)
       have H5 := hid h5
       have HP5 := hid hp5
       have HV5 := hid hv5
       have HM5 := hid hm5
       obtain ⟨d0, d1, d2, d3, d4⟩ := h5.cells
       have f5 := Blk.frozen h5 4
       clear h5 hp5 hv5 hm5)
    | (go_at_call 76; refine (HA.out _).mono ?_; rintro e w6 ⟨rfl, rfl⟩))
  go_ret3
  have hm6 : Tn.Mod [b] w5 (w5.setCell ⟨b, 4, none⟩ (.int .u16 (n : Nat))) := (Mod.refl _ w5).setCell (.inl (by simp)) _
  exact ⟨rfl, H5.out.set4 n, HV5.out.mod hm6 (by simpa using fun e => HNE.out.1 e.symm) (by simpa using fun e => HNE.out.2.1 e.symm), HP5.out.mod hm6 (by simpa using fun e => HNE.out.2.2.2 e.symm) (by simpa using fun e => HNE.out.2.2.1 e.symm), (HM5.out.mono (T := [v, b]) (by simp)).andThen (hm6.mono (by simp))⟩

set_option maxHeartbeats 4000000 in
/-- 'Take', of what waits. -/
theorem take_f (h : RB w b mfn i o s) (hv : VH w v m db r) (p : PH w m fb F) (hr : r ≤ 100000) (hi : i < 65536) (ho : o < 65536) (hs : s < 65536) (hmf : mfn < 14) (hd : df s i ≠ 0) (hd8 : df i o < 8) :
    Calls Tryz.prog 65 #[.pointer (some ⟨b, 0, none⟩), .pointer (some ⟨v, 0, none⟩)] w fun e w' => ∃ q, w.heap.size ≤ q ∧ e = .returned (.tuple #[.slice (some ⟨q, 0, none⟩) 16 16, .int .i64 0]) ∧ Bys w' (some ⟨q, 0, none⟩) 16 (fun j => F mfn (4 + qs i + j)) ∧ RB w' b mfn (sc i) o s ∧ VH w' v m db (r + 1) ∧ PH w' m fb F ∧ Tn.Mod [v, b] w w' := by
  obtain ⟨c0, c1, c2, c3, c4⟩ := h.cells
  have hbv : b ≠ v := Blk.ne_ h hv.blk (by decide)
  have hbd : b ≠ db := Blk.ne_map h hv.mm.imap
  have hbf : b ≠ fb := Blk.ne_ h p.fr (by decide)
  have hbm : b ≠ m := Blk.ne_ h p.blk (by decide)
  have hq : qs i + 16 ≤ 256 := by unfold qs; omega
  have HWt := hid (waiting_f h hi hs)
  have HBt := hid fun W => between_f (mfn : Nat) i o hi ho W
  have HR : Hid (∀ W, VH W v m db r → PH W m fb F → Calls Tryz.prog 78 #[.pointer (some ⟨v, 0, none⟩), .int .i64 (mfn : Nat), .int .i64 (qs i : Nat), .int .i64 16] W _) := hid fun W hv hp => vread_f hv hp hr mfn (qs i) 16 hmf hq
  have hdb : (((df s i : Nat) : Int) == 0) = false := by simp; exact hd
  have hd8' : ((df i o : Nat) : Int) < 8 := by omega
  have hsc := sc_wrap i
  have H := hid h
  have HV := hid hv
  have HP := hid p
  have HNE := hid (And.intro hbv (And.intro hbd (And.intro hbf hbm)))
  clear h hv p hr hi ho hs hmf hd hd8 hbv hbd hbf hbm hq
  go_enter Tryz.func65, Tryz.ntmps65
  go_wp2_with (first
    | (go_at_call 73; refine (rbnone_f H.out).mono ?_; rintro e w' ⟨rfl, rfl⟩)
    | (go_at_call 74; refine (runmade_f HV.out).mono ?_; rintro e w' ⟨rfl, rfl⟩)
    | (go_at_call 77; refine HWt.out.mono ?_; rintro e w5 ⟨rfl, hm5⟩
       have h5 := H.out.mod0 hm5
       have HM5 := hid hm5
       have H5 := hid h5
       obtain ⟨d0, d1, d2, d3, d4⟩ := h5.cells
       clear h5 hm5)
    | (go_at_call 51; refine (HBt.out _).mono ?_; rintro e w6 ⟨rfl, hm6⟩
       have h6 := H5.out.mod0 hm6
       have HM6 := hid (HM5.out.andThen hm6)
       have H6 := hid h6
       obtain ⟨k0, k1, k2, k3, k4⟩ := h6.cells
       clear h6 hm6)
    | (go_at_call 43; refine (slotq_f i _).mono ?_; rintro e w7 ⟨rfl, hm7⟩
       have h7 := H6.out.mod0 hm7
       have HM7 := hid (HM6.out.andThen hm7)
       have H7 := hid h7
       obtain ⟨l0, l1, l2, l3, l4⟩ := h7.cells
       have f7 := Blk.frozen h7 2
       have h8 := h7.set2 (sc i)
       have m0 := h8.cells.2.1
       have hm8 : Tn.Mod [b] w7 (w7.setCell ⟨b, 2, none⟩ (.int .u16 (sc i : Nat))) := (Mod.refl _ w7).setCell (.inl (by simp)) _
       have hm18 : Tn.Mod [b] w (w7.setCell ⟨b, 2, none⟩ (.int .u16 (sc i : Nat))) := (HM7.out.mono (T := [b]) (by simp)).andThen hm8
       have H8 := hid h8
       have HM8 := hid hm18
       have HV8 := hid (HV.out.mod hm18 (by simpa using fun e => HNE.out.1 e.symm) (by simpa using fun e => HNE.out.2.1 e.symm))
       have HP8 := hid (HP.out.mod hm18 (by simpa using fun e => HNE.out.2.2.2 e.symm) (by simpa using fun e => HNE.out.2.2.1 e.symm))
       clear h7 hm7 h8 hm8 hm18)
    | (go_at_call 78; refine (HR.out _ HV8.out HP8.out).mono ?_; rintro e w9 ⟨q, hq, rfl, hb9, hp9, hv9, hm9⟩
       have HQ := hid hq
       have HB9 := hid hb9
       have HP9 := hid hp9
       have HV9 := hid hv9
       have H9 := hid (H8.out.mod hm9 (by simpa using HNE.out.1))
       have HM9 := hid ((HM8.out.mono (T := [v, b]) (by simp)).andThen (hm9.mono (by simp)))
       clear hq hb9 hp9 hv9 hm9))
  go_ret2
  exact ⟨q, by have h1 := HQ.out; have h2 := HM8.out.size; omega, rfl, HB9.out, H9.out, HV9.out, HP9.out, HM9.out⟩

set_option maxHeartbeats 4000000 in
/-- 'Take', where nothing waits. -/
theorem take_no (h : RB w b mfn i o s) (hv : VH w v m db r) (hi : i < 65536) (hs : s < 65536) (hd : df s i = 0) :
    Calls Tryz.prog 65 #[.pointer (some ⟨b, 0, none⟩), .pointer (some ⟨v, 0, none⟩)] w fun e w' => e = .returned (.tuple #[.slice none 0 0, .int .i64 5]) ∧ Tn.Mod [] w w' := by
  obtain ⟨c0, c1, c2, c3, c4⟩ := h.cells
  have hW := waiting_f h hi hs
  rw [hd] at hW
  have HWt := hid hW
  have H := hid h
  have HV := hid hv
  clear h hv hi hs hd hW
  go_enter Tryz.func65, Tryz.ntmps65
  go_wp2_with (first
    | (go_at_call 73; refine (rbnone_f H.out).mono ?_; rintro e w' ⟨rfl, rfl⟩)
    | (go_at_call 74; refine (runmade_f HV.out).mono ?_; rintro e w' ⟨rfl, rfl⟩)
    | (go_at_call 77; refine HWt.out.mono ?_; rintro e w5 ⟨rfl, hm5⟩
       have HM5 := hid hm5
       clear hm5))
  go_ret2
  exact ⟨rfl, HM5.out⟩

set_option maxHeartbeats 4000000 in
/-- 'Answer', of a request that was taken. -/
theorem answer_f (h : RB w b mfn i o s) (hv : VH w v m db r) (p : PH w m fb F) (hi : i < 65536) (ho : o < 65536) (hmf : mfn < 14) (hown : F mfn 0 ≠ -1) (hd : df i o ≠ 0) (sa : Option Addr) (cp : Nat) (G : Nat → Int) (hB : Bys w sa 8 G) :
    Calls Tryz.prog 66 #[.pointer (some ⟨b, 0, none⟩), .pointer (some ⟨v, 0, none⟩), .slice sa 8 cp] w fun e w' => e = .returned (.int .i64 0) ∧ PH w' m fb (wrB (wrB F mfn (rs o) 8 G) mfn 2 2 (tb (sc o))) ∧ RB w' b mfn i (sc o) s ∧ VH w' v m db r ∧ Tn.Mod [fb, b] w w' := by
  obtain ⟨c0, c1, c2, c3, c4⟩ := h.cells
  have hbv : b ≠ v := Blk.ne_ h hv.blk (by decide)
  have hbd : b ≠ db := Blk.ne_map h hv.mm.imap
  have hbf : b ≠ fb := Blk.ne_ h p.fr (by decide)
  have hbm : b ≠ m := Blk.ne_ h p.blk (by decide)
  have hq : rs o + 8 ≤ 256 := by unfold rs; omega
  have hfv := hv.ne p
  have HBt := hid fun W => between_f (mfn : Nat) i o hi ho W
  have hW1 : Hid (∀ W, Tn.Mod [] w W → Calls Tryz.prog 79 #[.pointer (some ⟨v, 0, none⟩), .int .i64 (mfn : Nat), .int .i64 (rs o : Nat), .slice sa 8 cp] W fun e w' => e = .returned (.int .i64 0) ∧ PH w' m fb (wrB F mfn (rs o) 8 G) ∧ Tn.Mod [fb] W w') :=
    hid fun W hm => vwrite_f (hv.mod0 hm) (p.mod0 hm) mfn (rs o) 8 cp sa G hmf hq (by omega) hown (hB.mod hm (by simp))
  have hW2 : Hid (∀ W q, VH W v m db r → PH W m fb (wrB F mfn (rs o) 8 G) → Bys W (some ⟨q, 0, none⟩) 2 (tb (sc o)) → Calls Tryz.prog 79 #[.pointer (some ⟨v, 0, none⟩), .int .i64 (mfn : Nat), .int .i64 2, .slice (some ⟨q, 0, none⟩) 2 2] W fun e w' => e = .returned (.int .i64 0) ∧ PH w' m fb (wrB (wrB F mfn (rs o) 8 G) mfn 2 2 (tb (sc o))) ∧ Tn.Mod [fb] W w') :=
    hid fun W q hv hp hb => vwrite_f hv hp mfn 2 2 2 (some ⟨q, 0, none⟩) (tb (sc o)) hmf (by omega) (by omega) (by unfold wrB; rw [if_neg (by omega)]; exact hown) hb
  have hdb : (((df i o : Nat) : Int) == 0) = false := by simp; exact hd
  have hsc := sc_wrap o
  have hscl := sc_lt o
  have H := hid h
  have HV := hid hv
  have HP := hid p
  have HNE := hid (And.intro hbv (And.intro hbd (And.intro hbf hbm)))
  have HFV := hid hfv
  clear h hv p hi ho hmf hown hd hB hbv hbd hbf hbm hq hfv
  go_enter Tryz.func66, Tryz.ntmps66
  go_wp2_with (first
    | (go_at_call 73; refine (rbnone_f H4.out).mono ?_; rintro e w' ⟨rfl, rfl⟩)
    | (go_at_call 74; refine (runmade_f HV4.out).mono ?_; rintro e w' ⟨rfl, rfl⟩)
    | (go_at_call 51; refine (HBt.out _).mono ?_; rintro e w6 ⟨rfl, hm6⟩
       have h6 := H4.out.mod0 hm6
       have HM6 := hid (HM4.out.andThen hm6)
       have H6 := hid h6
       obtain ⟨k0, k1, k2, k3, k4⟩ := h6.cells
       clear h6 hm6)
    | (go_at_call 53; have hq := H6; refine (slotr_f o _).mono ?_; rintro e w7 ⟨rfl, hm7⟩
       have h7 := H6.out.mod0 hm7
       have HM7 := hid (HM6.out.andThen hm7)
       have H7 := hid h7
       obtain ⟨l0, l1, l2, l3, l4⟩ := h7.cells
       clear h7 hm7 hq)
    | (go_at_call 53; refine (slotr_f 0 _).mono ?_; rintro e w4 ⟨rfl, hm4⟩
       have h4 := H.out.mod0 hm4
       have HM4 := hid hm4
       have H4 := hid h4
       have HV4 := hid (HV.out.mod0 hm4)
       obtain ⟨d0, d1, d2, d3, d4⟩ := h4.cells
       clear h4 hm4)
    | (go_at_call 79; refine (hW1.out _ HM7.out).mono ?_; rintro e w8 ⟨rfl, hp8, hm8⟩
       have hm18 := (HM7.out.mono (T := [fb]) (by simp)).andThen hm8
       have h8 := H.out.mod hm18 (by simpa using HNE.out.2.2.1)
       have H8 := hid h8
       have HM8 := hid hm18
       have HP8 := hid hp8
       have HV8 := hid (HV.out.mod hm18 (by simpa using fun e => HFV.out.1 e.symm) (by simpa using HFV.out.2.2.2.1))
       obtain ⟨j0, j1, j2, j3, j4⟩ := h8.cells
       have f8 := Blk.frozen h8 3
       clear h8 hm8 hp8 hm18))
  have H9 := hid (H8.out.set3 (sc o))
  have hm9 : Tn.Mod [b] w8 (w8.setCell ⟨b, 3, none⟩ (.int .u16 (sc o : Nat))) := (Mod.refl _ w8).setCell (.inl (by simp)) _
  have HP9 := hid (HP8.out.mod hm9 (by simpa using fun e => HNE.out.2.2.2 e.symm) (by simpa using fun e => HNE.out.2.2.1 e.symm))
  have HV9 := hid (HV8.out.mod hm9 (by simpa using fun e => HNE.out.1 e.symm) (by simpa using fun e => HNE.out.2.1 e.symm))
  have HM9 := hid ((HM8.out.mono (T := [fb, b]) (by simp)).andThen (hm9.mono (by simp)))
  generalize w8.setCell ⟨b, 3, none⟩ (.int .u16 (sc o : Nat)) = w9 at *
  have s9 := (H9.out.mod0 ((Mod.refl [] w9).drew)).cells
  have HS9 := hid (And.intro s9.2.1 s9.2.2.2.1)
  clear s9 hm9 j0 j1 j2 j3 j4 f8
  go_region_held3 (fun w' => w'.cell? ⟨b, 1, none⟩ = some (.int .i64 (mfn : Nat)) ∧ w'.cell? ⟨b, 3, none⟩ = some (.int .u16 (sc o : Nat))) (first | exact HS9.out | go_keep)
    (first
      | (go_at_call 45; refine (two_f (sc o) (sc_lt o) _).mono ?_; rintro e w10 ⟨q10, hq10, rfl, hb10, hm10⟩
         have hm910 : Tn.Mod [] w9 w10 := ((Mod.refl [] w9).drew).andThen hm10
         have h10 := H9.out.mod0 hm910
         have H10 := hid h10
         have HB10 := hid hb10
         have HM10 := hid hm910
         obtain ⟨j0, j1, j2, j3, j4⟩ := h10.cells
         clear h10 hm10 hb10 hm910 hq10)
      | (go_at_call 79; refine (hW2.out _ _ (HV9.out.mod0 HM10.out) (HP9.out.mod0 HM10.out) HB10.out).mono ?_; rintro e w11 ⟨rfl, hp11, hm11⟩
         have h11 := H10.out.mod hm11 (by simpa using HNE.out.2.2.1)
         have H11 := hid h11
         have HP11 := hid hp11
         have HV11 := hid ((HV9.out.mod0 HM10.out).mod hm11 (by simpa using fun e => HFV.out.1 e.symm) (by simpa using HFV.out.2.2.2.1))
         have HM11 := hid ((HM9.out.andThen (HM10.out.mono (T := [fb, b]) (by simp))).andThen (hm11.mono (by simp)))
         obtain ⟨g0, g1, g2, g3, g4⟩ := h11.cells
         clear h11 hm11 hp11))
  go_wp2
  go_ret
  exact ⟨rfl, HP11.out, H11.out, HV11.out, HM11.out⟩
end
end Go.Proofs.YtfolppcadckmaaaGreat
