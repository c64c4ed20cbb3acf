/-
  Frames: rings: Put where there is no room, Get.
-/
import Derived.Test.YtfolppcadckmaaaGreatRk
namespace Go.Proofs.YtfolppcadckmaaaGreat
open Go.RowKit Go.Tn
open Go.Proofs
set_option maxRecDepth 100000

section
variable {w w' : World} {b f m mfn i o s fb : Nat} {F : Nat → Nat → Int}

set_option maxHeartbeats 4000000 in
/-- 'Put', where there is no room. -/
theorem rput_full (h : RF w f m mfn i o) (hi : i < 65536) (ho : o < 65536) (hroom : df i o = 8) (sa : Option Addr) (cp : Nat) :
    Calls Tryz.prog 18 #[.pointer (some ⟨f, 0, none⟩), .slice sa 16 cp] w fun e w' => e = .returned (.int .i64 71) ∧ Tn.Mod [] w w' := by
  obtain ⟨c0, c1, c2, c3, c4⟩ := h.cells
  have HR := hid fun (W : World) (hm : Tn.Mod [] w W) => room_f (h.mod0 hm) hi ho
  rw [hroom] at HR
  have H := hid h
  clear hi ho hroom h
  go_enter Tryz.func18, Tryz.ntmps18
  go_wp2_with (first
    | (go_at_call 42; refine (rfnone_f H.out).mono ?_; rintro e w' ⟨rfl, rfl⟩)
    | (go_at_call 43; refine (slotq_f i _).mono ?_; rintro e w4 ⟨rfl, hm4⟩; have HM4 := hid hm4; clear hm4)
    | (go_at_call 44; refine (HR.out _ HM4.out).mono ?_; rintro e w5 ⟨rfl, hm5⟩; have HM5 := hid (HM4.out.andThen hm5); clear hm5))
  go_ret
  exact ⟨rfl, HM5.out⟩

set_option maxHeartbeats 4000000 in
/-- 'Get', where a response has been laid. -/
theorem rget_f (h : RF w f m mfn i o) (p : PH w m fb F) (hi : i < 65536) (ho : o < 65536) (hmf : mfn < 14) (hd : df i o ≠ 0) (n : Nat) (hn : n < 65536) (hno : n ≠ o) (h0 : F mfn 6 = ((n % 256 : Nat) : Int)) (h1 : F mfn 7 = ((n / 256 : Nat) : Int)) :
    Calls Tryz.prog 20 #[.pointer (some ⟨f, 0, none⟩)] w fun e w' => ∃ q, w.heap.size ≤ q ∧ e = .returned (.tuple #[.slice (some ⟨q, 0, none⟩) 8 8, .int .i64 0]) ∧ Bys w' (some ⟨q, 0, none⟩) 8 (fun j => F mfn (4 + rs o + j)) ∧ RF w' f m mfn i (sc o) ∧ PH w' m fb F ∧ Tn.Mod [f] w w' := by
  obtain ⟨c0, c1, c2, c3, c4⟩ := h.cells
  have hmne : m ≠ f := p.blk.ne_ h (by decide)
  have hne : fb ≠ f := p.fr.ne_ h (by decide)
  have hr : rs o + 8 ≤ 256 := by unfold rs; omega
  have HB := hid (between_f (mfn : Nat) i o hi ho w)
  have hd' : (((df i o : Nat) : Int) == 0) = false := by simp; exact hd
  have hnob : ((n : Int) == (o : Int)) = false := by simp; omega
  have hbn := bits_n16 n hn
  have HW1 : Hid (∀ W, Tn.Mod [] w W → Calls Tryz.prog 52 #[.pointer (some ⟨m, 0, none⟩), .int .i64 (mfn : Nat), .int .i64 2, .int .i64 2] W _) := hid fun W hm => read_f (p.mod0 hm) mfn 2 2 hmf (by omega)
  have HW2 : Hid (∀ W, PH W m fb F → Calls Tryz.prog 52 #[.pointer (some ⟨m, 0, none⟩), .int .i64 (mfn : Nat), .int .i64 (rs o : Nat), .int .i64 8] W _) := hid fun W hp => read_f hp mfn (rs o) 8 hmf hr
  have hsc := sc_wrap o
  have H := hid h
  have HP := hid p
  have H0 := hid h0
  have H1 := hid h1
  have HNE := hid (And.intro hne hmne)
  clear hi ho hmf hd hn hno h0 h1 h p hne hmne hr
  go_enter Tryz.func20, Tryz.ntmps20
  go_wp2_with (first
    | (go_at_call 42; refine (rfnone_f H.out).mono ?_; rintro e w' ⟨rfl, rfl⟩)
    | (go_at_call 51; refine HB.out.mono ?_; rintro e w5 ⟨rfl, hm5⟩; have HM5 := hid hm5
       have H5 := hid (H.out.mod0 HM5.out)
       obtain ⟨d0, d1, d2, d3, d4⟩ := H5.out.cells
       clear hm5))
  have s1 := (H5.out.mod0 ((Mod.refl [] w5).drew)).cells
  have HS1 := hid (And.intro s1.2.2.2.2 s1.2.1)
  clear s1
  go_region_held3 (fun w' => w'.cell? ⟨f, 4, none⟩ = some (.pointer (some ⟨m, 0, none⟩)) ∧ w'.cell? ⟨f, 1, none⟩ = some (.int .i64 (mfn : Nat))) (first | exact HS1.out | go_keep)
    (first
      | (go_at_call 52; refine (HW1.out _ (HM5.out.drew)).mono ?_; rintro e w6 ⟨q6, _, rfl, hb6, hm6⟩
         have hm16 : Tn.Mod [] w w6 := HM5.out.drew.andThen hm6
         have h6 := H.out.mod0 hm16
         have H6 := hid h6
         have HM6 := hid hm16
         have a0 : w6.cell? ⟨q6, 0, none⟩ = some (.int .u8 ((n % 256 : Nat) : Int)) := (hb6.at_ 0 (by omega)).trans (by show some (Value.int .u8 (F mfn 6)) = _; rw [H0.out])
         have a1 : w6.cell? ⟨q6, 1, none⟩ = some (.int .u8 ((n / 256 : Nat) : Int)) := (hb6.at_ 1 (by omega)).trans (by show some (Value.int .u8 (F mfn 7)) = _; rw [H1.out])
         obtain ⟨k0, k1, k2, k3, k4⟩ := h6.cells
         clear h6 hm6 hm16 hb6))
  go_wp2
  go_quiet (fail)
  have hm7 : Tn.Mod [] w (w6.drewN nq) := HM6.out.drewN nq
  have H7 := hid (H.out.mod0 hm7)
  have HM7 := hid hm7
  generalize w6.drewN nq = w7 at *
  obtain ⟨l0, l1, l2, l3, l4⟩ := H7.out.cells
  clear hm7 a0 a1 k0 k1 k2 k3 k4
  go_wp2_with (go_at_call 53; refine (slotr_f o _).mono ?_; rintro e w8 ⟨rfl, hm8⟩
               have h8 := H7.out.mod0 hm8
               have H8 := hid h8
               have HM8 := hid (HM7.out.andThen hm8)
               obtain ⟨k0, k1, k2, k3, k4⟩ := h8.cells
               have f8 := Blk.frozen h8 3
               clear h8 hm8)
  have H9 := hid (H8.out.set3 (sc o))
  have hm9 : Tn.Mod [f] w8 (w8.setCell ⟨f, 3, none⟩ (.int .u16 (sc o : Nat))) := (Mod.refl _ w8).setCell (.inl (by simp)) _
  have HM9 := hid ((HM8.out.mono (T := [f]) (by simp)).andThen hm9)
  have HP9 := hid (HP.out.mod HM9.out (by simpa using HNE.out.2) (by simpa using HNE.out.1))
  generalize w8.setCell ⟨f, 3, none⟩ (.int .u16 (sc o : Nat)) = w9 at *
  have s9 := (H9.out.mod0 ((Mod.refl [] w9).drew)).cells
  have HS9 := hid (And.intro s9.2.2.2.2 s9.2.1)
  clear s9 hm9 k0 k1 k2 k3 k4 f8
  go_region_held3 (fun w' => w'.cell? ⟨f, 4, none⟩ = some (.pointer (some ⟨m, 0, none⟩)) ∧ w'.cell? ⟨f, 1, none⟩ = some (.int .i64 (mfn : Nat))) (first | exact HS9.out | go_keep)
    (first
      | (go_at_call 52; refine (HW2.out _ (HP9.out.mod0 ((Mod.refl [] w9).drew))).mono ?_; rintro e w10 ⟨q, hq, rfl, hb10, hm10⟩
         have hm19 : Tn.Mod [] w9 w10 := ((Mod.refl [] w9).drew).andThen hm10
         have h10 := H9.out.mod0 hm19
         have H10 := hid h10
         have HP10 := hid (HP9.out.mod0 hm19)
         have HM10 := hid (HM9.out.andThen (hm19.mono (T := [f]) (by simp)))
         have HB10 := hid hb10
         have HQ := hid hq
         obtain ⟨k0, k1, k2, k3, k4⟩ := h10.cells
         clear h10 hm10 hm19 hb10 hq))
  go_wp2
  go_ret2
  exact ⟨q, by have h1 := HQ.out; have h2 := HM9.out.size; simp at h1; omega, rfl, HB10.out, H10.out, HP10.out, HM10.out⟩
end
end Go.Proofs.YtfolppcadckmaaaGreat
