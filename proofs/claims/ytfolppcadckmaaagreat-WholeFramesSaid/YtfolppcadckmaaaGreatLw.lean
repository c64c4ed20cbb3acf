/-
  Frames: the law's walk.
-/
import Derived.Test.YtfolppcadckmaaaGreatMs
namespace Go.Proofs.YtfolppcadckmaaaGreat
open Go.RowKit Go.Tn
open Go.Proofs
set_option maxRecDepth 100000
attribute [-go_sem] Builtin.append_

/-- The arguments: who sends, and what. -/
structure Args (w : World) (A B : Option Addr) (n k : Nat) (gs : Nat → Nat) (fa : Nat → Option Addr) (fl fc : Nat → Nat) (fg : Nat → Nat → Int) : Prop where
  hn : n ≤ 140737488355328
  hk : 24 * k ≤ 140737488355328
  a : ∀ j, j < n → ∃ b off, A = some ⟨b, off, none⟩ ∧ (∀ W, Tn.Mod [] w W → W.cell? ⟨b, off + j, none⟩ = some (.int .u8 (gs j : Nat))) ∧ gs j < 256
  b : ∀ j, j < k → ∃ b off, B = some ⟨b, off, none⟩ ∧ ∀ W, Tn.Mod [] w W → W.cell? ⟨b, off + j, none⟩ = some (.slice (fa j) (fl j) (fc j))
  by_ : ∀ j, j < k → ∀ W, Tn.Mod [] w W → Bys W (fa j) (fl j) (fg j)
  r : ∀ j, j < k → ∀ t, t < fl j → 0 ≤ fg j t ∧ fg j t ≤ 255
/-- The frames when k have an owner. -/
def FK (k : Nat) (a c : Nat) : Int := if c = 0 ∧ a < 14 then (if a < k then ((a / 4 : Nat) : Int) else -1) else 0
theorem FK_step (k : Nat) (hk : k < 14) : upd (FK k) k 0 ((k / 4 : Nat) : Int) = FK (k + 1) := by
  funext a c
  unfold upd FK
  by_cases h1 : a = k ∧ c = 0
  · obtain ⟨rfl, rfl⟩ := h1
    simp [hk]
  · rw [if_neg h1]
    by_cases h2 : c = 0 ∧ a < 14
    · have h3 : a ≠ k := fun e => h1 ⟨e, h2.1⟩
      rw [if_pos h2, if_pos h2]
      by_cases h4 : a < k
      · rw [if_pos h4, if_pos (by omega)]
      · rw [if_neg h4, if_neg (by omega)]
    · rw [if_neg h2, if_neg h2]
theorem FK_zero {F : Nat → Nat → Int} (h : ∀ a c, F a c = if c = 0 ∧ a < 14 then -1 else 0) : F = FK 0 := by
  funext a c
  rw [h]
  unfold FK
  by_cases h2 : c = 0 ∧ a < 14
  · rw [if_pos h2, if_pos h2, if_neg (by omega)]
  · rw [if_neg h2, if_neg h2]

theorem FOk_FK : FOk (FK 14) 0 := by
  refine ⟨fun a ha => ?_, fun a _ => ?_, fun a c hc _ => ?_, fun d hd => by omega⟩
  · unfold FK; rw [if_pos ⟨rfl, ha⟩, if_pos ha]
  · unfold FK; rw [if_neg (by omega)]
  · unfold FK; rw [if_neg (by omega)]

theorem Lk_step' {d i : Nat} (hd : d < 3) (hi : i < 4) : P3.setL (Lk d i) (i : Nat) (((pg d 0 : Nat) : Int) + (i : Nat)) = Lk d (i + 1) := Lk_step d hd i hi
/-- The frames while grants are written. -/
structure FGr (F F2 : Nat → Nat → Int) (j i : Nat) : Prop where
  keep : ∀ a c, c < 4 ∨ a ≠ pg j 0 → F2 a c = got1 F (pg j 0) a c
  ent : i = 4 → ∀ t, t < 8 → F2 (pg j 0) (4 + 24 + t) = gB 1 false false 3 3 0 256 t
theorem FGr.step {F F2 : Nat → Nat → Int} {j i : Nat} (h : FGr F F2 j i) (hi : i < 4) : FGr F (wrB F2 (pg j 0) (o8 i) 8 (gB 1 false false 3 (i : Nat) 0 256)) j (i + 1) := by
  refine ⟨fun a c hc => ?_, fun h4 t ht => ?_⟩
  · rw [← h.keep a c hc]
    unfold wrB
    rw [if_neg (by omega)]
  · obtain rfl : i = 3 := by omega
    unfold wrB o8
    rw [if_pos (by omega)]
    congr 1
    omega
theorem got1_other {F : Nat → Nat → Int} {i a c : Nat} (h : a ≠ i) : got1 F i a c = F a c := by
  unfold got1 upd
  rw [if_neg (by omega), if_neg (by omega), if_neg (by omega)]
theorem got1_own {F : Nat → Nat → Int} {i a : Nat} : got1 F i a 0 = F a 0 := by
  unfold got1 upd
  rw [if_neg (by omega), if_neg (by omega), if_neg (by omega)]
theorem FOk.next {F F2 : Nat → Nat → Int} {j : Nat} (h : FOk F j) (g : FGr F F2 j 4) : FOk F2 (j + 1) := by
  refine ⟨fun a ha => ?_, fun a ha => ?_, fun a c hc ha => ?_, fun d hd t ht => ?_⟩
  · rw [g.keep a 0 (by omega), got1_own]; exact h.own a ha
  · have e : a ≠ pg j 0 := by unfold pg; omega
    rw [g.keep a 1 (by omega), got1_other e]; exact h.ty a ha
  · have e : a ≠ pg j 0 := by unfold pg; omega
    rw [g.keep a c (.inr e), got1_other e]; exact h.zero a c hc (by omega)
  · by_cases e : d = j
    · subst e; exact g.ent rfl t ht
    · have e2 : pg d 0 ≠ pg j 0 := by unfold pg; omega
      rw [g.keep _ _ (.inr e2), got1_other e2]; exact h.ent d (by omega) t ht

set_option maxHeartbeats 16000000 in
theorem law_f {w : World} {A B : Option Addr} {n k c1 c2 : Nat} {gs : Nat → Nat} {fa : Nat → Option Addr} {fl fc : Nat → Nat} {fg : Nat → Nat → Int} (ha : Args w A B n k gs fa fl fc fg) :
    Calls Tryz.prog 3 #[.slice A n c1, .slice B k c2] w fun e w' => e = .returned (.bool true) ∧ Tn.Mod [] w w' := by
  have hP : Calls Tryz.prog 4 #[.int .i64 14] w _ := pnew_f w
  have HP := hid hP
  have HAr := hid ha
  have h1 := ha.hn
  have h2 := ha.hk
  clear hP ha
  go_enter Tryz.func3, Tryz.ntmps3
  go_wp2_with (first
    | (go_at_call 4; refine HP.out.mono ?_; rintro e w1 ⟨m, fb, rfl, ⟨F, hp1, hF⟩, hmw, hfw, hm1⟩; have HP1 := hid hp1; have HF1 := hid hF; have HLW := hid (And.intro hmw hfw); have HM1 := hid hm1; clear hp1 hF hmw hfw hm1)
    | (go_at_call 5; refine (gnew_f HP1.out).mono ?_; rintro e w2 ⟨rfl, hg2, hm2⟩; have HG2 := hid hg2; have HP2 := hid (HP1.out.mod0 hm2); have HM2 := hid (HM1.out.andThen hm2); clear hg2 hm2)
    | (go_at_call 6; refine (Br.new_ok 3 _ (by omega) (by omega)).mono ?_; rintro e w3 ⟨rfl, hb3, hm3⟩; have HB3 := hid hb3; have HP3 := hid (HP2.out.mod0 hm3); have HG3 := hid (HG2.out.mod0 hm3); have HM3 := hid (HM2.out.andThen hm3); clear hb3 hm3))
  have HO := hid (show w.heap.size ≤ m ∧ w.heap.size ≤ fb ∧ m < w1.heap.size ∧ fb < w1.heap.size ∧ w1.heap.size < w1.heap.size + 1 ∧ w1.heap.size + 1 < w1.heap.size + 2 ∧ w1.heap.size + 2 < w2.heap.size ∧ w2.heap.size < w2.heap.size + 1 ∧ w2.heap.size + 1 < w2.heap.size + 2 ∧ w2.heap.size + 2 < w3.heap.size from ⟨HLW.out.1, HLW.out.2, HP1.out.blk.lt, HP1.out.fr.lt, by omega, by omega, HG2.out.blk.lt, by omega, by omega, HB3.out.hd.lt⟩)
  obtain rfl := FK_zero HF1.out
  clear HP HP1 HP2 HF1 HG2 HLW HM1 HM2
  generalize w1.heap.size + 2 = x at *
  generalize w1.heap.size + 1 = kb at *
  generalize w1.heap.size = mb at *
  generalize w2.heap.size + 2 = s at *
  generalize w2.heap.size + 1 = bk at *
  generalize w2.heap.size = bp at *
  go_loopw [13] (fun i wr => ∃ j : Nat, j ≤ 14 ∧ i = .int .i64 (j : Nat) ∧ Hid (PH wr m fb (FK j) ∧ Tn.Mod [fb] w3 wr)) (fun i _ => 14 - (intOf i).toNat)
  case atStart => exact ⟨0, by omega, rfl, hid ⟨HP3.out, Mod.refl _ _⟩⟩
  case round =>
    clear HP3
    obtain ⟨j, hj, rfl, HA⟩ := hrel
    by_cases hlt : j < 14
    · have hltI : (j : Int) < 14 := by omega
      have hj4 : (j : Int) / 2 / 2 = ((j / 4 : Nat) : Int) := by omega
      have HAl := hid (alloc_f HA.out.1 (j / 4) j (by omega) hlt (by unfold FK; rw [if_pos ⟨rfl, hlt⟩, if_neg (by omega)]) (fun t ht => by unfold FK; rw [if_pos ⟨rfl, by omega⟩, if_pos ht]; omega))
      rw [FK_step j hlt] at HAl
      go_wp2_with (go_at_call 7; refine HAl.out.mono ?_; rintro e w5 ⟨⟨u, rfl⟩, hp5, hm5⟩; have HP5 := hid hp5; have HM5 := hid (HA.out.2.andThen hm5); clear hp5 hm5)
      go_roundw
      case rel => exact ⟨j + 1, by omega, by go_num, hid ⟨HP5.out, HM5.out⟩⟩
      case measure => simp [intOf]; omega
    · obtain rfl : j = 14 := by omega
      clear hlt hj
      have HC0 := hid (show Core w wr m fb x mb kb s bp bk w3.heap.size 0 (FK 14) (fun _ => none) (fun _ => (none, 0)) (P14.newS 3) (fun _ => ⟨0, 0, 0, 0, 0, 0, 0, 0⟩) from by
        have hmf := HA.out.2
        have ho := HO.out
        refine ⟨HM3.out.trans hmf (fun t ht => .inr (by simp at ht; omega)), HA.out.1, HG3.out.mod hmf (by simp; omega) (by simp; omega) (by simp; omega), fun _ _ => rfl, HB3.out.same hmf (fun t ht e => ?_), rfl, fun _ => rfl, (P14.ok_new (by omega) (by omega)).mono (by omega), FOk_FK, hmf.size, fun d hd => by omega, fun d d' _ h => by omega⟩
        simp at ht e
        omega)
      clear HA HM3 HG3 HB3
      go_wp2
      go_loopw [10, 11, 12, 14] (fun sb so si i wr => ∃ (j : Nat) (F : Nat → Nat → Int) (f : Int → Option Value) (C : Nat → Option Addr × Nat) (S : P14.St) (A : Nat → Dm) (Ab Ao Ai : Option Addr) (cb co ci : Nat), j ≤ 3 ∧ i = .int .i64 (j : Nat) ∧ sb = .slice Ab j cb ∧ so = .slice Ao j co ∧ si = .slice Ai j ci ∧
        Hid (Core w wr m fb x mb kb s bp bk w3.heap.size j F f C S A) ∧ Hid (Rws w wr A j Ab Ao Ai cb co ci)) (fun _ _ _ i _ => 3 - (intOf i).toNat)
      case atStart => exact ⟨0, _, _, _, _, _, none, none, none, 0, 0, 0, by omega, rfl, rfl, rfl, rfl, HC0, hid ⟨QRow.nil _ _, QRow.nil _ _, QRow.nil _ _, fun t ht => by simp [blkOf] at ht, fun t ht => by simp [blkOf] at ht, fun t ht => by simp [blkOf] at ht, fun t ht => by simp [blkOf] at ht⟩⟩
      case round =>
        clear HC0
        obtain ⟨j, F, f, C, S, A', Ab, Ao, Ai, cb, co, ci, hj, rfl, rfl, rfl, rfl, HC, HRW⟩ := hrel
        rename World => wO
        by_cases hlt : j < 3
        · have hp0 : (4 : Int) * (j : Int) = ((pg j 0 : Nat) : Int) := by unfold pg; omega
          have hp1 : ((pg j 0 : Nat) : Int) + 1 = ((pg j 1 : Nat) : Int) := by unfold pg; omega
          have hp2 : ((pg j 0 : Nat) : Int) + 2 = ((pg j 2 : Nat) : Int) := by unfold pg; omega
          have hb0 : ((pg j 0 : Nat) : Int) < 12 := by unfold pg; omega
          have hb1 : ((pg j 1 : Nat) : Int) < 12 := by unfold pg; omega
          have hb2 : ((pg j 2 : Nat) : Int) < 12 := by unfold pg; omega
          have hjI : (j : Int) < 3 := by omega
          go_wp2_with (go_at_call 8; refine (Pm.new_ok 4 _ (by omega)).mono ?_; rintro e w4 ⟨rfl, hpm4, hm4⟩; have HPM4 := hid hpm4; have HM4 := hid hm4; clear hpm4 hm4)
          have HN4 := hid (show wO.heap.size < wO.heap.size + 1 ∧ wO.heap.size + 1 < wO.heap.size + 2 ∧ wO.heap.size + 2 < w4.heap.size from ⟨by omega, by omega, HPM4.out.blk.lt⟩)
          generalize wO.heap.size + 2 = pp at *
          generalize wO.heap.size + 1 = bpl at *
          obtain ⟨bf, hbf⟩ : ∃ bf, wO.heap.size = bf := ⟨_, rfl⟩
          rw [hbf] at HPM4 HN4
          have HBF := hid hbf
          clear hbf
          go_loopw [17] (fun t w5 => ∃ i : Nat, i ≤ 4 ∧ t = .int .i64 (i : Nat) ∧ Hid (Pm.PM w5 pp bf bpl (Lk j i) ∧ Tn.Mod [] wO w5)) (fun t _ => 4 - (intOf t).toNat)
          case atStart => exact ⟨0, by omega, rfl, hid ⟨by rw [Lk_zero]; exact HPM4.out, HM4.out⟩⟩
          case round =>
            clear HPM4 HM4
            obtain ⟨i, hi, rfl, HA⟩ := hrel
            rename World => w5
            by_cases hlt2 : i < 4
            · have hiI : (i : Int) < 4 := by omega
              have HSt := hid (Lk_step' hlt hlt2)
              go_wp2_with (go_at_call 9; refine (Pm.set_f HA.out.1 _ _).mono ?_; rintro e w6 ⟨rfl, hpm6, hm6⟩; rw [HSt.out] at hpm6; have HPM6 := hid hpm6; have HM6 := hid (HA.out.2.trans hm6 (fun t ht => .inr (by have h1 := HBF.out; have h2 := HN4.out; simp at ht; omega))); clear hpm6 hm6)
              go_roundw
              case rel => exact ⟨i + 1, by omega, by go_num, hid ⟨HPM6.out, HM6.out⟩⟩
              case measure => simp [intOf]; omega
            · obtain rfl : i = 4 := by omega
              clear hlt2 hi
              have HJ := hid (join_f (HC.out.ph.mod0 HA.out.2) (HC.out.gh.mod0 HA.out.2) HA.out.1 (dom := j) (mfn := pg j 0) (by omega) (HC.out.fn j (Nat.le_refl _)) (by unfold pg; omega) (by rw [HC.out.fok.own _ (by unfold pg; omega)]; unfold pg; omega) (.inl (HC.out.fok.zero _ 1 (by omega) (.inr (by unfold pg; omega)))) (by rw [HC.out.fok.zero _ 3 (by omega) (.inr (by unfold pg; omega))]; omega) (by rw [HC.out.fok.zero _ 3 (by omega) (.inr (by unfold pg; omega))]; omega) (by rw [HC.out.fok.zero _ 2 (by omega) (.inr (by unfold pg; omega))]; omega) (by rw [HC.out.fok.zero _ 2 (by omega) (.inr (by unfold pg; omega))]; omega))
              go_wp2_with (go_at_call 10; refine HJ.out.mono ?_; rintro e w7 ⟨rfl, hp7, hg7, hm7⟩; have HP7 := hid hp7; have HG7 := hid hg7; have HM57 := hid hm7; have HM7 := hid ((HA.out.2.mono (T := [fb, mb]) (by simp)).andThen hm7); clear hp7 hg7 hm7)
              go_loopw [18] (fun t wA => ∃ (i : Nat) (F2 : Nat → Nat → Int), 1 ≤ i ∧ i ≤ 4 ∧ t = .int .i64 (i : Nat) ∧ Hid (PH wA m fb F2 ∧ FGr F F2 j i ∧ Tn.Mod [fb] w7 wA)) (fun t _ => 4 - (intOf t).toNat)
              case atStart => exact ⟨1, _, by omega, by omega, rfl, hid ⟨HP7.out, ⟨fun _ _ _ => rfl, fun h => by omega⟩, Mod.refl _ _⟩⟩
              case round =>
                clear HP7
                obtain ⟨i, F2, hi1, hi, rfl, HB⟩ := hrel
                rename World => wB
                by_cases hlt2 : i < 4
                · have hiI : (i : Int) < 4 := by omega
                  have ho8 : (8 : Int) * (i : Int) = ((o8 i : Nat) : Int) := by unfold o8; omega
                  have hb8 : ((o8 i : Nat) : Int) < 32 := by unfold o8; omega
                  have HOW := hid (show F2 (pg j 0) 0 ≠ -1 by rw [HB.out.2.1.keep _ 0 (by omega), got1_own, HC.out.fok.own _ (by unfold pg; omega)]; omega)
                  go_wp2_with (first
                    | (go_at_call 11; refine (pack_f i (by omega) _).mono ?_; rintro e w9 ⟨q, rfl, hb9, hm9⟩
                       have HW9 := hid (write_f (HB.out.1.mod0 hm9) (pg j 0) (o8 i) 8 8 (some ⟨q, 0, none⟩) _ (by unfold pg; omega) (by unfold o8; omega) (by unfold o8; omega) HOW.out hb9)
                       have HM9 := hid (HB.out.2.2.andThen (hm9.mono (by simp)))
                       clear hb9 hm9)
                    | (go_at_call 12; refine HW9.out.mono ?_; rintro e w10 ⟨rfl, hp10, hm10⟩; have HP10 := hid hp10; have HM10 := hid (HM9.out.andThen hm10); clear hp10 hm10))
                  go_roundw
                  case rel => exact ⟨i + 1, _, by omega, by omega, by go_num, hid ⟨HP10.out, HB.out.2.1.step hlt2, HM10.out⟩⟩
                  case measure => simp [intOf]; omega
                · obtain rfl : i = 4 := by omega
                  clear hlt2 hi hi1
                  have ho := HO.out
                  have hMB := HM7.out.andThen (HB.out.2.2.mono (T := [fb, mb]) (by simp))
                  have HMB := hid hMB
                  have HGB := hid (HG7.out.mod HB.out.2.2 (by simp; omega) (by simp; omega) (by simp; omega))
                  have HBB := hid (HC.out.bm.same hMB (fun t ht e => by simp at ht e; omega))
                  have hFk := HC.out.fok.next HB.out.2.1
                  have HFK := hid hFk
                  have HNN := hid (nnew_f HGB.out HBB.out j (pg j 1) (pg j 2) (by rw [HC.out.sn]; omega) (by rw [HC.out.sn]; omega) (by unfold pg; omega) (by unfold pg; omega))
                  obtain ⟨i47, hi47, hz47, hs47, hy47⟩ := info_parts info47
                  obtain ⟨i50, hi50, hz50, hs50, hy50⟩ := info_parts info50
                  clear hMB hFk ho
                  go_wp2_with (first
                    | (go_at_call 13; refine HNN.out.mono ?_; rintro e w11 ⟨b1, o1, i1, h1, h2, h3, rfl, hnb, hro, hri, hm11⟩
                       have HN11 := hid (show wB.heap.size ≤ o1 ∧ o1 < i1 ∧ i1 < b1 ∧ b1 < w11.heap.size from ⟨h1, h2, h3, Blk.lt hnb⟩)
                       have HNB := hid hnb
                       have HRO := hid hro
                       have HRI := hid hri
                       have HM11 := hid hm11
                       have HP11 := hid (HB.out.1.mod0 hm11)
                       clear h1 h2 h3 hnb hro hri hm11)
                    | (go_at_call 14; have hq := HRF; refine (ropen_f (HP11.out.mod0 HM12.out) (pg j 2) (by unfold pg; omega)).mono ?_; rintro e w13 ⟨f2, h1, rfl, hrf2, hm13⟩
                       have HN13 := hid (show w12.heap.size ≤ f2 ∧ f2 < w13.heap.size from ⟨h1, Blk.lt hrf2⟩)
                       have HRF2 := hid hrf2
                       have HM13 := hid hm13
                       have ho := HO.out
                       have hn4 := HN4.out
                       have hn11 := HN11.out
                       have hn12 := HN12.out
                       have hn13 := HN13.out
                       have hBF := HBF.out
                       have h1213 : Tn.Mod [] w12 w13 := HM13.out
                       have h1113 : Tn.Mod [] w11 w13 := HM12.out.andThen h1213
                       have hB13 : Tn.Mod [] wB w13 := HM11.out.andThen h1113
                       have h713 : Tn.Mod [fb] w7 w13 := HB.out.2.2.andThen (hB13.mono (by simp))
                       have h513 : Tn.Mod [fb, mb] w5 w13 := HM57.out.andThen (h713.mono (by simp))
                       have hO13 : Tn.Mod [fb, mb] wO w13 := HMB.out.andThen (hB13.mono (by simp))
                       have hsB := HMB.out.size
                       have h5B : w5.heap.size ≤ wB.heap.size := Nat.le_trans HM57.out.size HB.out.2.2.size
                       have hpl := HA.out.1.blk.lt
                       have hl0 := HC.out.l0
                       have HC13 := hid (HC.out.next (a := ⟨pp, bf, bpl, o1, i1, b1, f1, f2⟩) ⟨by omega, by omega, by omega, by omega, by omega, by omega, by omega, by omega⟩ ⟨by omega, by omega, by omega, by omega, by omega, by omega⟩ ⟨by omega, by omega⟩ hO13 (HB.out.1.mod0 hB13) (HGB.out.mod0 hB13)
                         ⟨HA.out.1.mod h513 (by simp; omega) (by simp; omega) (by simp; omega), HNB.out.mod0 h1113, by unfold Tn.upd; rw [if_pos rfl], HRO.out.mod0 h1113, HRI.out.mod0 h1113, HRF.out.mod0 h1213, HRF2.out⟩
                         ⟨by simp; omega, by simp; omega, by simp; omega, by simp; omega, by simp; omega, by simp; omega, by simp; omega, by simp; omega, by simp; omega, by simp; omega, by simp; omega⟩ HFK.out)
                       have HRW13 := hid (HRW.out.modT hO13 (fun t ht => by
                         simp at ht
                         rcases ht with rfl | rfl
                         · exact .inl ⟨_, _, HC.out.ph.fr, by decide, by decide⟩
                         · exact .inr HC.out.gh.mm))
                       clear ho hn4 hn11 hn12 hn13 hBF h1213 h1113 hB13 h713 h513 hO13 hsB h5B hpl hl0
                       have HCb := hid (show (w13.alloc (.cells #[.pointer (some ⟨b1, 0, none⟩)] 47)).cell? ⟨w13.heap.size, 0, none⟩ = some (.pointer (some ⟨b1, 0, none⟩)) from (Blk.new w13 47 #[.pointer (some ⟨b1, 0, none⟩)]).cell 0)
                       clear h1 hrf2 hm13 hq)
                    | (go_at_call 14; refine (ropen_f HP11.out (pg j 1) (by unfold pg; omega)).mono ?_; rintro e w12 ⟨f1, h1, rfl, hrf1, hm12⟩
                       have HN12 := hid (show w11.heap.size ≤ f1 ∧ f1 < w12.heap.size from ⟨h1, Blk.lt hrf1⟩)
                       have HRF := hid hrf1
                       have HM12 := hid hm12
                       clear h1 hrf1 hm12)
                    | (at_builtin; have hqq := HQo; refine wpList_append_q rfl _ _ 34 rfl Tryz.underlying34 hi50 hz50 hs50 hy50 rfl (HQi.out.mod ((Mod.refl [] w15).alloc (.cells #[.pointer (some ⟨f2, 0, none⟩)] 50)) (by simp)) (by simp) rfl (ad := ⟨w15.heap.size, 0, none⟩) (u := .pointer (some ⟨f2, 0, none⟩)) rfl HCi.out rfl (by simp [maxLen]; omega) (by simp; omega) ?_
                       intro g3 of3 cp3 w16 hr3 hm3 hg3 hl3
                       have hmm := ((Mod.refl (blkOf Ai) w15).alloc (.cells #[.pointer (some ⟨f2, 0, none⟩)] 50)).andThen hm3
                       have HQi3 := hid hr3
                       have HAp3 := hid (And.intro hmm (And.intro hg3 hl3))
                       have HC16 := hid (HC15.out.modq hmm (TQ.of_q HQi.out (.inr rfl)) HRW.out.ni)
                       have HRt := hid (Br.rate_f HC16.out.bm (j : Nat) 4096 0)
                       clear hr3 hm3 hg3 hl3 hqq hmm)
                    | (go_at_call 15; refine HRt.out.mono ?_; rintro e w17 ⟨rfl, hb17, hm17⟩; have HB17 := hid hb17; have HM17 := hid hm17; clear hb17 hm17)
                    | (at_builtin; have hqq := HQb; refine wpList_append_q rfl _ _ 34 rfl Tryz.underlying34 hi50 hz50 hs50 hy50 rfl (HQo0.out.mod ((Mod.refl [] w14).alloc (.cells #[.pointer (some ⟨f1, 0, none⟩)] 50)) (by simp)) (by simp) rfl (ad := ⟨w14.heap.size, 0, none⟩) (u := .pointer (some ⟨f1, 0, none⟩)) rfl HCo.out rfl (by simp [maxLen]; omega) (by simp; omega) ?_
                       intro g2 of2 cp2 w15 hr2 hm2 hg2 hl2
                       have hmm := ((Mod.refl (blkOf Ao) w14).alloc (.cells #[.pointer (some ⟨f1, 0, none⟩)] 50)).andThen hm2
                       have HQo := hid hr2
                       have HAp2 := hid (And.intro hmm (And.intro hg2 hl2))
                       have HQi := hid (HQi0.out.mod hmm (fun b hb e => HRW.out.oi b e hb))
                       have HCi := hid (show (w15.alloc (.cells #[.pointer (some ⟨f2, 0, none⟩)] 50)).cell? ⟨w15.heap.size, 0, none⟩ = some (.pointer (some ⟨f2, 0, none⟩)) from (Blk.new w15 50 #[.pointer (some ⟨f2, 0, none⟩)]).cell 0)
                       have HC15 := hid (HC14.out.modq hmm (TQ.of_q HQo0.out (.inr rfl)) HRW.out.no)
                       clear hr2 hm2 hg2 hl2 hmm hqq)
                    | (at_builtin; refine wpList_append_q rfl _ _ 33 rfl Tryz.underlying33 hi47 hz47 hs47 hy47 rfl (HRW13.out.qb.mod ((Mod.refl [] w13).alloc (.cells #[.pointer (some ⟨b1, 0, none⟩)] 47)) (by simp)) (by simp) rfl (ad := ⟨w13.heap.size, 0, none⟩) (u := .pointer (some ⟨b1, 0, none⟩)) rfl HCb.out rfl (by simp [maxLen]; omega) (by simp; omega) ?_
                       intro g1 of1 cp1 w14 hr1 hm1 hg1 hl1
                       have hmm := ((Mod.refl (blkOf Ab) w13).alloc (.cells #[.pointer (some ⟨b1, 0, none⟩)] 47)).andThen hm1
                       have HQb := hid hr1
                       have HAp1 := hid (And.intro hmm (And.intro hg1 hl1))
                       have HQo0 := hid (HRW13.out.qo.mod hmm (q_disj HRW13.out.qo HRW13.out.qb (by decide)))
                       have HQi0 := hid (HRW13.out.qi.mod hmm (q_disj HRW13.out.qi HRW13.out.qb (by decide)))
                       have HCo := hid (show (w14.alloc (.cells #[.pointer (some ⟨f1, 0, none⟩)] 50)).cell? ⟨w14.heap.size, 0, none⟩ = some (.pointer (some ⟨f1, 0, none⟩)) from (Blk.new w14 50 #[.pointer (some ⟨f1, 0, none⟩)]).cell 0)
                       have HC14 := hid (HC13.out.modq hmm (TQ.of_q HRW13.out.qb (.inl rfl)) HRW.out.nb)
                       clear hr1 hm1 hg1 hl1 hmm))
                  have ho := HO.out
                  have hs1 := HC13.out.md.size
                  have hs2 := HC14.out.md.size
                  have hs3 := HC15.out.md.size
                  have hg2i : g2 ∉ blkOf Ai := by
                    rcases HAp2.out.2.1 with h | h
                    · exact HRW.out.oi g2 h
                    · intro e
                      have h3 := HQi0.out.lt e
                      simp at h
                      omega
                  have hR16 : Rws w w16 (fun d => if d = j then ⟨pp, bf, bpl, o1, i1, b1, f1, f2⟩ else A' d) (j + 1) (some ⟨g1, of1, none⟩) (some ⟨g2, of2, none⟩) (some ⟨g3, of3, none⟩) cp1 cp2 cp3 := by
                    refine ⟨?_, ?_, ?_, fun t ht => ?_, fun t ht => ?_, fun t ht => ?_, fun t ht e => ?_⟩
                    · rw [row_next A' _ j Dm.b]
                      have q1 := HQb.out.mod HAp2.out.1 (q_disj HQb.out HQo0.out (by decide))
                      exact q1.mod HAp3.out.1 (q_disj q1 HQi.out (by decide))
                    · rw [row_next A' _ j Dm.fo]
                      exact HQo.out.mod HAp3.out.1 (fun b hb => by simp [blkOf] at hb; subst hb; exact hg2i)
                    · rw [row_next A' _ j Dm.fi]
                      exact HQi3.out
                    · simp [blkOf] at ht
                      subst ht
                      rcases HAp1.out.2.1 with h | h
                      · exact HRW.out.nb _ h
                      · simp at h; omega
                    · simp [blkOf] at ht
                      subst ht
                      rcases HAp2.out.2.1 with h | h
                      · exact HRW.out.no _ h
                      · simp at h; omega
                    · simp [blkOf] at ht
                      subst ht
                      rcases HAp3.out.2.1 with h | h
                      · exact HRW.out.ni _ h
                      · simp at h; omega
                    · simp [blkOf] at ht e
                      subst ht
                      subst e
                      rcases HAp3.out.2.1 with h | h
                      · exact hg2i h
                      · have h3 := HAp2.out.2.2
                        simp at h
                        omega
                  have hC17 := HC16.out.rate (by omega) (by omega) ⟨by omega, by omega, by omega, by omega, by omega⟩ HM17.out j hlt HB17.out
                  have hR17 := hR16.modT HM17.out (fun t ht => by
                    obtain rfl := List.mem_singleton.1 ht
                    exact .inl ⟨_, _, HC16.out.bm.rows.row, by decide, by decide⟩)
                  have HC17 := hid hC17
                  have HR17 := hid hR17
                  clear ho hs1 hs2 hs3 hg2i hR16 hC17 hR17
                  go_roundw
                  case rel =>
                    repeat apply Exists.intro
                    refine ⟨?_, rfl⟩
                    exact ⟨j + 1, _, _, _, _, _, _, _, _, _, _, _, by omega, by go_num, rfl, rfl, rfl, HC17, HR17⟩
                  case measure => simp [intOf]; omega
        · obtain rfl : j = 3 := by omega
          clear hlt hj
          have hst := Core.stat HC.out ⟨HO.out.1, HO.out.2.1, HO.out.2.2.1, HO.out.2.2.2.1, HO.out.2.2.2.2.1, HO.out.2.2.2.2.2.1, HO.out.2.2.2.2.2.2.1, HO.out.2.2.2.2.2.2.2.1, HO.out.2.2.2.2.2.2.2.2.1, HO.out.2.2.2.2.2.2.2.2.2⟩
          have ST := hid hst.1
          have LP0 := hid hst.2
          have SQ0 := hid HC.out.sq
          have HQ := hid (show ∀ W, Tn.Mod (dyn fb s bp bk A') wO W → Rws w W A' 3 Ab Ao Ai cb co ci from fun W hW => HRW.out.modT hW (fun t ht => by
            rcases mem_dyn.1 ht with h | ⟨d, hd, h⟩
            · rcases h with rfl | rfl | rfl | rfl
              · exact .inl ⟨_, _, HC.out.ph.fr, by decide, by decide⟩
              · exact .inl ⟨_, _, HC.out.bm.hd, by decide, by decide⟩
              · exact .inl ⟨_, _, HC.out.bm.rows.row, by decide, by decide⟩
              · exact .inr HC.out.bm.isM
            · have dm := (HC.out.dm d hd).1
              rcases h with rfl | rfl | rfl | rfl
              · exact .inl ⟨_, _, dm.ro, by decide, by decide⟩
              · exact .inl ⟨_, _, dm.ri, by decide, by decide⟩
              · exact .inl ⟨_, _, dm.rfo, by decide, by decide⟩
              · exact .inl ⟨_, _, dm.rfi, by decide, by decide⟩))
          obtain ⟨gb, ob, rfl⟩ := HRW.out.qb.addr (by simp)
          obtain ⟨go, oo, rfl⟩ := HRW.out.qo.addr (by simp)
          obtain ⟨gi, oi, rfl⟩ := HRW.out.qi.addr (by simp)
          have CB := hid fun (W : World) (hW : Tn.Mod (dyn fb s bp bk A') wO W) (d : Nat) (hd : d < 3) => (HQ.out W hW).qb.cell (i := d) (x := .pointer (some ⟨(A' d).b, 0, none⟩)) (by simp [hd])
          have CO := hid fun (W : World) (hW : Tn.Mod (dyn fb s bp bk A') wO W) (d : Nat) (hd : d < 3) => (HQ.out W hW).qo.cell (i := d) (x := .pointer (some ⟨(A' d).fo, 0, none⟩)) (by simp [hd])
          have CI := hid fun (W : World) (hW : Tn.Mod (dyn fb s bp bk A') wO W) (d : Nat) (hd : d < 3) => (HQ.out W hW).qi.cell (i := d) (x := .pointer (some ⟨(A' d).fi, 0, none⟩)) (by simp [hd])
          clear hst HC HRW HQ HO
          go_wp2
          obtain ⟨i22, hi22, hz22, hs22, hy22⟩ := info_parts info22
          obtain ⟨i3, hi3, hz3, hs3, hy3⟩ := info_parts info3
          go_loopw [27, 28, 29] (fun sv bv iv wr => ∃ (i l : Nat) (F1 : Nat → Nat → Int) (FP : List Nat) (C : Nat → Option Addr × Nat) (S : P14.St) (SA BA : Option Addr) (cs cy : Nat) (xs ys : List Value), i ≤ n ∧ l ≤ i ∧ iv = .int .i64 (i : Nat) ∧ sv = .slice SA l cs ∧ bv = .slice BA l cy ∧
            Hid (xs.length = l ∧ ys.length = l) ∧ Hid (Lp wO wr m fb s bp bk A' F F1 FP C S (65536 + 4 * (i : Int)) 3) ∧ Hid (∀ d, (S.L d).q = []) ∧ Hid (Two wO wr FP SA BA cs cy xs ys)) (fun _ _ iv _ => n - (intOf iv).toNat)
          case atStart => exact ⟨0, 0, F, _, C, S, none, none, 0, 0, [], [], by omega, by omega, rfl, rfl, rfl, hid ⟨rfl, rfl⟩, LP0, SQ0, hid ⟨QRow.nil _ _, QRow.nil _ _, fun t ht => by simp [blkOf] at ht, fun t ht => by simp [blkOf] at ht⟩⟩
          case round =>
            clear LP0 SQ0
            obtain ⟨i, l, F1, FP, C1, S1, SA, BA, cs, cy, xs, ys, hin, hli, rfl, rfl, rfl, HXY, HL, HSQ, HT⟩ := hrel
            rename World => wr
            by_cases hlt : i < n
            · have hltI : (i : Int) < (n : Int) := by omega
              by_cases hlk : i < k
              · have hlkI : (i : Int) < (k : Int) := by omega
                obtain ⟨ab, ao, rfl, hca, h256⟩ := HAr.out.a i hlt
                obtain ⟨bb, bo, rfl, hcb⟩ := HAr.out.b i hlk
                have hm0 := HL.out.mi.md0 ST.out
                have hca1 := hca wr hm0
                have hcb1 := hcb wr hm0
                have HCB := hid hcb
                obtain ⟨d, hdd⟩ : ∃ d, gs i % 3 = d := ⟨_, rfl⟩
                have hd : d < 3 := by omega
                have hdI : (d : Int) < 3 := by omega
                have hdm : ((gs i : Nat) : Int) % 3 = ((d : Nat) : Int) := by omega
                have hp3 : (4 : Int) * (d : Int) + 3 = ((pg d 3 : Nat) : Int) := by unfold pg; omega
                have hp0 : (4 : Int) * (d : Int) = ((pg d 0 : Nat) : Int) := by unfold pg; omega
                have hpb0 : ((pg d 0 : Nat) : Int) < 12 := by unfold pg; omega
                have hp03 : ((pg d 0 : Nat) : Int) + 3 = ((pg d 3 : Nat) : Int) := by unfold pg; omega
                have hg0 : (0 : Int) ≤ ((gs i : Nat) : Int) := by omega
                have hg255 : ((gs i : Nat) : Int) ≤ 255 := by omega
                clear hca hcb hm0
                by_cases h120 : 120 < fl i
                · have h120I : (120 : Int) < ((fl i : Nat) : Int) := by omega
                  go_wp2
                  go_roundw
                  case rel =>
                    exact ⟨i + 1, l, F1, FP, C1, S1, SA, BA, cs, cy, xs, ys, by omega, by omega, by go_num, rfl, rfl, HXY, hid ⟨⟨HL.out.mi.md, HL.out.mi.ph, HL.out.mi.ke, HL.out.mi.bm, HL.out.mi.sn, HL.out.mi.sg.mono (by omega), HL.out.mi.fp⟩, HL.out.outs, HL.out.ins⟩, HSQ, HT⟩
                  case measure => simp [intOf]; omega
                · have h120I : ¬ (120 : Int) < ((fl i : Nat) : Int) := by omega
                  obtain ⟨ij, hij⟩ : ∃ ij, i % 9999 = ij := ⟨_, rfl⟩
                  have hij2 : ij ≤ 65535 := by omega
                  have h99 : (i : Int) % 9999 = ((ij : Nat) : Int) := by omega
                  have HIJ := hid hij2
                  clear hij hij2
                  have h63 : (65536 + 4 * (i : Int) : Int) ≤ 1152921504606840000 := by omega
                  have H63 := hid h63
                  have HD := hid hd
                  have HLT := hid (And.intro hlt (And.intro hlk (And.intro hin hli)))
                  have HW := hid (wr_c ST.out HL.out hd (fl i) (fc i) (by omega) (fa i) (fg i) (HAr.out.by_ i hlk wr (HL.out.mi.md0 ST.out)))
                  clear h63
                  go_wp2_with (first
                    | (go_at_call 12; refine HW.out.mono ?_; rintro e w1 ⟨rfl, hL1, hm1⟩
                       have HL1 := hid hL1
                       have HM1 := hid hm1
                       have hcb2 := HCB.out w1 (hL1.mi.md0 ST.out)
                       clear hL1 hm1)
                    | (go_at_call 16; refine (packet_f (fl i) ij (by omega) HIJ.out _).mono ?_; rintro e w2 ⟨q, hq, rfl, hb2, hm2⟩
                       have HB2 := hid hb2
                       have HL2 := hid (HL1.out.new hm2)
                       have HM2 := hid hm2
                       have HQ2 := hid hq
                       clear hb2 hm2 hq)
                    | (go_at_call 17; refine (vnew_f HL2.out.mi.ph).mono ?_; rintro e w3 ⟨v, db, hv, hdb, rfl, hv3, hm3⟩
                       have HM13 := hid (HM2.out.andThen hm3)
                       have HV1 := hid (show w1.heap.size ≤ v from Nat.le_trans HM2.out.size hv)
                       have HL3 := hid (HL2.out.new hm3)
                       have HPu := hid (put_c ST.out HL3.out HD.out (g := fg i) (len := fl i) (fun j hj => by rw [wrB_at (by omega) (by omega)]; congr 1; omega) (HL2.out.view hv hdb hv3) (cp := 16) (HB2.out.mod hm3 (by simp)) (Nat.le_trans HL1.out.mi.md.size HQ2.out))
                       have hco3 := CO.out w3 HL3.out.mi.md d HD.out
                       clear hv hdb hv3 hm3)
                    | (go_at_call 18; refine HPu.out.mono ?_; rintro e w4 ⟨rfl, h4⟩
                       have HP4 := hid h4
                       have hcb4 := CB.out w4 (by obtain ⟨_, _, _, L4, _⟩ := h4; exact L4.mi.md) d HD.out
                       have HSe := hid (send_c ST.out HD.out h4 (by have := H63.out; omega) (by omega) (HAr.out.r i HLT.out.2.1))
                       clear h4)
                    | (go_at_call 19; refine HSe.out.mono ?_; rintro e w5 ⟨rfl, h5⟩
                       have hco5 := CO.out w5 (by obtain ⟨_, _, _, _, L5, _⟩ := h5; exact L5.mi.md) d HD.out
                       have HGe := hid (get_c ST.out HD.out h5)
                       clear h5)
                    | (go_at_call 20; refine HGe.out.mono ?_; rintro e w6 ⟨⟨q6, rfl⟩, F6, FP6, C6, hL6, hn6, hm6⟩
                       have HL6 := hid hL6
                       have HT6 := hid (HT.out.round ST.out HL.out.mi.md.size HD.out HM1.out HM13.out (by obtain ⟨_, _, _, _, _, _, _, _, _, _, _, hm⟩ := HP4.out; exact hm) hm6 HV1.out hn6)
                       have hcb6 := HCB.out w6 (hL6.mi.md0 ST.out)
                       have HC6 := hid (show (w6.alloc (.cells #[.slice (fa i) (fl i) (fc i)] 22)).cell? ⟨w6.heap.size, 0, none⟩ = some (.slice (fa i) (fl i) (fc i)) from (Blk.new w6 22 #[.slice (fa i) (fl i) (fc i)]).cell 0)
                       clear hL6 hn6 hm6)
                    | (at_builtin; refine wpList_append_q rfl _ _ 23 rfl Tryz.underlying23 hi22 hz22 hs22 hy22 rfl (HT6.out.qs.mod ((Mod.refl [] w6).alloc (.cells #[.slice (fa i) (fl i) (fc i)] 22)) (by simp)) HXY.out.1.symm rfl (ad := ⟨w6.heap.size, 0, none⟩) (u := .slice (fa i) (fl i) (fc i)) rfl HC6.out rfl (by have := HXY.out.1; have := HLT.out; simp [maxLen]; omega) (by have := HXY.out.1; have := HLT.out; omega) ?_
                       intro g1 of1 cp1 w7 hr1 hm1 hg1 hl1
                       have hma : Tn.Mod [] w6 (w6.alloc (.cells #[.slice (fa i) (fl i) (fc i)] 22)) := (Mod.refl [] w6).alloc _
                       have hLa := HL6.out.new hma
                       have HTa := HT6.out.new hma
                       have HL7 := hid (hLa.far ST.out hm1 HTa.ns)
                       have HT7 := hid (HTa.app1 hLa.mi.md.size hLa.mi.bm.rows.old hr1 hm1 hg1)
                       have HC7 := hid (show (w7.alloc (.cells #[.int .i64 (d : Nat)] 3)).cell? ⟨w7.heap.size, 0, none⟩ = some (.int .i64 (d : Nat)) from (Blk.new w7 3 #[.int .i64 (d : Nat)]).cell 0)
                       clear hr1 hm1 hg1 hl1 hma hLa HTa)
                    | (at_builtin; refine wpList_append_q rfl _ _ 54 rfl Tryz.underlying54 hi3 hz3 hs3 hy3 rfl (HT7.out.qy.mod ((Mod.refl [] w7).alloc (.cells #[.int .i64 (d : Nat)] 3)) (by simp)) HXY.out.2.symm rfl (ad := ⟨w7.heap.size, 0, none⟩) (u := .int .i64 (d : Nat)) rfl HC7.out rfl (by have := HXY.out.2; have := HLT.out; simp [maxLen]; omega) (by have := HXY.out.2; have := HLT.out; omega) ?_
                       intro g2 of2 cp2 w8 hr2 hm2 hg2 hl2
                       have hma : Tn.Mod [] w7 (w7.alloc (.cells #[.int .i64 (d : Nat)] 3)) := (Mod.refl [] w7).alloc _
                       have hLa := HL7.out.new hma
                       have HTa := HT7.out.new hma
                       have HL8 := hid (hLa.far ST.out hm2 HTa.ny)
                       have HT8 := hid (HTa.app2 hLa.mi.md.size hLa.mi.bm.rows.old hr2 hm2 hg2)
                       clear hr2 hm2 hg2 hl2 hma hLa HTa))
                  have HSW := hid (P14.send_q HSQ.out d ((List.range (fl i)).map (fg i)))
                  have HWt := hid (show P14.Wait (P14.sendS S1 (d : Nat) ((List.range (fl i)).map (fg i))) 0 d ((List.range (fl i)).map (fg i)) from fun t => by
                    rcases HSW.out.2 t with h | ⟨h1, h2, h3⟩
                    · exact .inl h
                    · exact .inr ⟨by omega, by have := HL.out.mi.sn; omega, h2, h3⟩)
                  have HXL := hid (show (xs ++ [Value.slice (fa i) (fl i) (fc i)])[l]? = some (Value.slice (fa i) (fl i) (fc i)) by rw [← HXY.out.1]; simp)
                  have HYL := hid (show (ys ++ [Value.int .i64 (d : Nat)])[l]? = some (Value.int .i64 (d : Nat)) by rw [← HXY.out.2]; simp)
                  have HXY1 := hid (show (xs ++ [Value.slice (fa i) (fl i) (fc i)]).length = l + 1 ∧ (ys ++ [Value.int .i64 (d : Nat)]).length = l + 1 by simp [HXY.out.1, HXY.out.2])
                  clear HL HSQ HT HSW HW HL1 HM1 hcb2 HB2 HL2 HM2 HQ2 HM13 HV1 HL3 HPu hco3 HP4 hcb4 HSe hco5 HGe HL6 HT6 hcb6 HC6 HL7 HT7 HC7 hca1 hcb1 hp3 hp0 hpb0 hp03 hg0 hg255 h99 hdm h120I HXY
                  generalize P14.sendS S1 (d : Nat) ((List.range (fl i)).map (fg i)) = SS at HL8 HWt
                  obtain ⟨l', hl'⟩ : ∃ l', l + 1 = l' := ⟨_, rfl⟩
                  rw [hl'] at HXY1 ⊢
                  have HLl := hid hl'
                  clear hl'
                  go_loopw [35] (fun t wq => ∃ (j : Nat) (F2 : Nat → Nat → Int) (FP2 : List Nat) (C2 : Nat → Option Addr × Nat) (S2 : P14.St), j ≤ 3 ∧ t = .int .i64 (j : Nat) ∧ Hid (Lp wO wq m fb s bp bk A' F F2 FP2 C2 S2 (65536 + 4 * (i : Int) + 1 + (j : Int)) 3) ∧ Hid (P14.Wait S2 j d ((List.range (fl i)).map (fg i))) ∧
                    Hid (Two wO wq FP2 (some ⟨g1, of1, none⟩) (some ⟨g2, of2, none⟩) cp1 cp2 (xs ++ [.slice (fa i) (fl i) (fc i)]) (ys ++ [.int .i64 (d : Nat)]))) (fun t _ => 3 - (intOf t).toNat)
                  case atStart => exact ⟨0, _, _, _, _, by omega, rfl, hid (by simpa using HL8.out), HWt, HT8⟩
                  case round =>
                    clear HL8 HWt HT8
                    obtain ⟨j, F2, FP2, C2, S2, hj, rfl, HL2, HW2, HT2⟩ := hrel
                    rename World => wq
                    by_cases hj3 : j < 3
                    · have hjI : (j : Int) < 3 := by omega
                      have hq0 : (4 : Int) * (j : Int) = ((pg j 0 : Nat) : Int) := by unfold pg; omega
                      have hq3 : ((pg j 0 : Nat) : Int) + 3 = ((pg j 3 : Nat) : Int) := by unfold pg; omega
                      have hqb : ((pg j 0 : Nat) : Int) < 12 := by unfold pg; omega
                      have hdw : Tn.Mod [] wq wq.drew := (Mod.refl [] wq).drew
                      have HCm := hid (come_c (l := l') (k := l) ST.out (HL2.out.new hdw) (by have := H63.out; omega) hj3 HW2.out (HT2.out.new hdw) HXL.out HYL.out (HAr.out.by_ i HLT.out.2.1) HLl.out.symm (by have := HLT.out; omega))
                      have HS := hid (And.intro (CB.out wq.drew (HL2.out.new hdw).mi.md j hj3) (CI.out wq.drew (HL2.out.new hdw).mi.md j hj3))
                      have HJ := hid hj3
                      clear hdw HL2 HW2 HT2
                      have hw1 : IntKind.i64.wrap (4 * (j : Int)) = ((pg j 0 : Nat) : Int) := by rw [IntKind.wrap_i64]; unfold pg; omega
                      have hw2 : IntKind.i64.wrap (((pg j 0 : Nat) : Int) + 3) = ((pg j 3 : Nat) : Int) := by rw [IntKind.wrap_i64]; unfold pg; omega
                      have HH := hid (And.intro hw1 hw2)
                      clear hw1 hw2
                      go_wp2
                      obtain ⟨hw1, hw2⟩ := HH.out
                      clear hq0 hq3
                      go_region_held3 (fun W => W.cell? ⟨gb, ob + j, none⟩ = some (.pointer (some ⟨(A' j).b, 0, none⟩)) ∧ W.cell? ⟨gi, oi + j, none⟩ = some (.pointer (some ⟨(A' j).fi, 0, none⟩))) (first | exact HS.out | go_keep)
                        (first
                          | (go_at_call 21; refine HCm.out.mono ?_; rintro e w9 ⟨rfl, F9, FP9, C9, S9, hL9, hW9, hT9⟩
                             have HL9 := hid hL9
                             have HW9 := hid hW9
                             have HT9 := hid hT9
                             have hc1 := CB.out w9 hL9.mi.md j HJ.out
                             have hc2 := CI.out w9 hL9.mi.md j HJ.out
                             clear hL9 hW9 hT9))
                      clear hw1 hw2 HH
                      go_wp2
                      go_roundw
                      case rel =>
                        exact ⟨j + 1, F9, FP9, C9, S9, by omega, by go_num, (by have h := HL9.out; rw [show (65536 + 4 * (i : Int) + 1 + (j : Int) + 1) = 65536 + 4 * (i : Int) + 1 + ((j + 1 : Nat) : Int) by omega] at h; exact hid h), HW9, HT9⟩
                      case measure => simp [intOf]; omega
                    · obtain rfl : j = 3 := by omega
                      clear hj3 hj
                      go_wp2
                      go_roundw
                      case rel =>
                        repeat apply Exists.intro
                        refine ⟨?_, rfl⟩
                        exact ⟨i + 1, l', F2, FP2, C2, S2, _, _, _, _, _, _, by omega, by have := HLl.out; omega, by go_num, rfl, rfl, HXY1, (by have h := HL2.out; rw [show (65536 + 4 * (i : Int) + 1 + ((3 : Nat) : Int)) = 65536 + 4 * ((i + 1 : Nat) : Int) by omega] at h; exact hid h), hid (fun t => by rcases HW2.out t with h | ⟨h1, h2, _⟩; exact h; omega), HT2⟩
                      case measure => simp [intOf]; omega
              · have hlkI : ¬ (i : Int) < (k : Int) := by omega
                have hsn : (S1.n : Int) = 3 := by have := HL.out.mi.sn; omega
                have HP := hid (Br.ports_f HL.out.mi.bm)
                have HM := hid (HL.out.mi.md0 ST.out)
                clear HL HT HSQ
                go_wp2_with (go_at_call 22; refine HP.out.mono ?_; rintro e w' ⟨rfl, rfl⟩)
                go_ret
                exact ⟨rfl, HM.out⟩
            · have hltI : ¬ (i : Int) < (n : Int) := by omega
              have hsn : (S1.n : Int) = 3 := by have := HL.out.mi.sn; omega
              have HP := hid (Br.ports_f HL.out.mi.bm)
              have HM := hid (HL.out.mi.md0 ST.out)
              clear HL HT HSQ
              go_wp2_with (go_at_call 22; refine HP.out.mono ?_; rintro e w' ⟨rfl, rfl⟩)
              go_ret
              exact ⟨rfl, HM.out⟩
end Go.Proofs.YtfolppcadckmaaaGreat
