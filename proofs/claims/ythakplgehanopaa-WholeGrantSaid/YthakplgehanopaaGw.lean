/-
  Whole: the walk of WholeGrant.
-/
import Derived.Test.YthakplgehanopaaGc
import Derived.Test.YthakplgehanopaaArgs
import Derived.LoopTactic
namespace Go.Proofs.Ythakplgehanopaa
open Go.RowKit Go.Tn Go.MapKept
open Go.Proofs
attribute [local go_sem] conv24

set_option maxRecDepth 100000 in
set_option maxHeartbeats 8000000 in
theorem grant_walk (K : Int) (ro sub : Bool) (D P O L : Int) (r1 : -9223372036854775808 ≤ O) (r2 : O ≤ 9223372036854775807) (r3 : -9223372036854775808 ≤ L) (r4 : L ≤ 9223372036854775807) (sa : Option Addr) (len cp : Nat) (wrt : Bool) (o n : Nat) (hf1 : (o : Int) ≤ 255) (hn1 : (n : Int) ≤ 255) (w : World) (hU : IsU8s w sa len) :
    Calls Try.prog 3 #[.agg #[.int .i64 K, .bool ro, .bool sub, .int .i64 D, .int .i64 P, .int .i64 O, .int .i64 L], .slice sa len cp, .bool wrt, .int .u8 (o : Nat), .int .u8 (n : Nat)] w fun e w' => e = .returned (.bool true) ∧ Below w.heap.size w w' := by
  have HU := hid hU
  have HR := hid (And.intro (And.intro r1 r2) (And.intro r3 r4))
  have hfn : o ≤ 255 ∧ n ≤ 255 := by omega
  have HFN := hid hfn
  obtain ⟨G, hbg, hbg2⟩ := u8s_bys hU
  have HBG := hid hbg
  have HBG2 := hid hbg2
  have HMK : Hid (∀ W, Tn.Mod [] w W → Below w.heap.size w W) := hid fun W h => h.below (Nat.le_refl _) (by simp)
  clear hU r1 r2 r3 r4 hfn hbg hbg2
  obtain ⟨w0, hw0⟩ : ∃ w0, w0 = w.alloc (.cells #[.int .i64 K, .bool ro, .bool sub, .int .i64 D, .int .i64 P, .int .i64 O, .int .i64 L] 23) := ⟨_, rfl⟩
  have HM0 := hid (show Tn.Mod [] w w0 by rw [hw0]; exact (Mod.refl [] w).alloc _)
  have HBX := hid (show Blk w0 w.heap.size 23 #[.int .i64 K, .bool ro, .bool sub, .int .i64 D, .int .i64 P, .int .i64 O, .int .i64 L] by rw [hw0]; exact Blk.new w 23 _)
  have HPN := hid (pnew_f w0)
  rw [hw0] at HPN
  have HW0 := hid hw0
  clear hw0
  go_enter Try.func3, Try.ntmps3
  go_wp2_with (go_at_call 4; refine HPN.out.mono ?_; rintro e w1 ⟨m, fb, rfl, ⟨F0, hp1, hF0⟩, hb1, hb2, hm1⟩
               rw [← HW0.out] at hb1 hb2 hm1
               have HP1 := hid hp1
               have HF0 := hid (FA.zero hF0)
               have HB := hid (And.intro hb1 hb2)
               have HM1 := hid hm1
               clear hp1 hF0 hb1 hb2 hm1)
  go_loopw [13] (fun i wr => ∃ (j : Nat), j ≤ 4 ∧ i = .int .i64 (j : Nat) ∧ Hid (∃ F', PH wr m fb F' ∧ FA j F') ∧ Hid (Tn.Mod [] w0 wr)) (fun i _ => 4 - (intOf i).toNat)
  case atStart => exact ⟨0, by omega, rfl, hid ⟨_, HP1.out, HF0.out⟩, HM1⟩
  case round =>
    clear HP1 HF0 HM1
    obtain ⟨j, hj, rfl, hP, hM⟩ := hrel
    by_cases hlt : j < 4
    · have hltI : (j : Int) < 4 := by omega
      go_wp2_with (go_at_call 5; obtain ⟨F', hp, hf⟩ := hP.out; refine (alloc_j hp j hlt hf _ (by omega)).mono ?_; rintro e w2 ⟨⟨u, rfl⟩, hp2, hm2⟩; have HP2 := hid hp2; have HM2 := hid (hM.out.trans hm2 (by have := HB.out; simp at *; omega)); clear hp2 hm2 hp hf)
      go_roundw
      case rel => exact ⟨j + 1, by omega, by go_num, HP2, HM2⟩
      case measure => simp [intOf]; omega
    · obtain rfl : j = 4 := by omega
      clear hlt
      obtain ⟨wa, hwa⟩ : ∃ wa, wa = wr := ⟨_, rfl⟩
      subst hwa
      obtain ⟨F4, hp4, hf4⟩ := hP.out
      have HG := hid (gnew_g hp4 hf4)
      clear hP hp4 hf4 F4
      go_wp2_with (go_at_call 6; refine HG.out.mono ?_; rintro e w2 ⟨x, mb, kb, rfl, hl2, hb3, hb4, hm2⟩
                   have HL2 := hid hl2
                   have HB2 := hid (show w0.heap.size ≤ mb ∧ w0.heap.size ≤ kb from ⟨Nat.le_trans hM.out.size hb3, Nat.le_trans hM.out.size hb4⟩)
                   have HM2 := hid (hM.out.andThen hm2)
                   clear hl2 hb3 hb4 hm2)
      clear hM HG
      go_loopw [15] (fun i wr => ∃ (j : Nat), j ≤ 2 ∧ i = .int .i64 (j : Nat) ∧ Hid (L2 wr m fb x mb kb j) ∧ Hid (Tn.Mod [] w0 wr)) (fun i _ => 2 - (intOf i).toNat)
      case atStart => exact ⟨0, by omega, rfl, HL2, HM2⟩
      case round =>
        clear HL2 HM2
        obtain ⟨j, hj, rfl, hL, hM⟩ := hrel
        by_cases h0 : j = 0
        · subst h0
          cases hL.out with
          | z F f ph gh hF hf =>
          have HF := hid hF
          have Hf := hid hf
          have H7 := hid (q7 (B := w0.heap.size) ph gh hM.out.size)
          clear ph gh hF hf hL
          go_wp2_with (first
            | (go_at_call 7; refine H7.out.mono ?_; rintro e w3 ⟨p, bf, bp, rfl, hq, hm3⟩
               have HQ := hid hq
               have HM3 := hid (hM.out.andThen hm3)
               clear hq hm3 H7)
            | (go_at_call 8; refine (q8 HQ.out _ _).mono ?_; rintro e w4 ⟨⟨u, rfl⟩, hq, hm4⟩
               have HM4 := hid (HM3.out.trans hm4 (by have h1 := HQ.out.b1; have h2 := HQ.out.b2; simp; omega))
               have HQ4 := hid hq
               clear hq hm4 HQ HM3)
            | (go_at_call 8; refine (q8 HQ4.out _ _).mono ?_; rintro e w5 ⟨⟨u5, rfl⟩, hq, hm5⟩
               have HM5 := hid (HM4.out.trans hm5 (by have h1 := HQ4.out.b1; have h2 := HQ4.out.b2; simp; omega))
               have HQ5 := hid hq
               clear hq hm5 HQ4 HM4)
            | (go_at_call 9; refine (q9_0 HQ5.out HF.out Hf.out).mono ?_; rintro e w6 ⟨⟨u6, rfl⟩, hl6, hm6⟩
               have HM6 := hid (HM5.out.trans hm6 (by have h1 := HB.out; have h2 := HB2.out; simp at *; omega))
               have HL6 := hid hl6
               clear hl6 hm6 HQ5 HM5))
          go_roundw
          case rel => exact ⟨1, by omega, by go_num, HL6, HM6⟩
          case measure => simp [intOf]
        · by_cases h1 : j = 1
          · subst h1
            cases hL.out with
            | o F f ph gh hF hf =>
            have HF := hid hF
            have Hf := hid hf
            have H7 := hid (q7 (B := w0.heap.size) ph gh hM.out.size)
            clear ph gh hF hf hL h0
            go_wp2_with (first
              | (go_at_call 7; refine H7.out.mono ?_; rintro e w3 ⟨p, bf, bp, rfl, hq, hm3⟩
                 have HQ := hid hq
                 have HM3 := hid (hM.out.andThen hm3)
                 clear hq hm3 H7)
              | (go_at_call 8; refine (q8 HQ.out _ _).mono ?_; rintro e w4 ⟨⟨u, rfl⟩, hq, hm4⟩
                 have HM4 := hid (HM3.out.trans hm4 (by have h1 := HQ.out.b1; have h2 := HQ.out.b2; simp; omega))
                 have HQ4 := hid hq
                 clear hq hm4 HQ HM3)
              | (go_at_call 8; refine (q8 HQ4.out _ _).mono ?_; rintro e w5 ⟨⟨u5, rfl⟩, hq, hm5⟩
                 have HM5 := hid (HM4.out.trans hm5 (by have h1 := HQ4.out.b1; have h2 := HQ4.out.b2; simp; omega))
                 have HQ5 := hid hq
                 clear hq hm5 HQ4 HM4)
              | (go_at_call 9; refine (q9_1 (show QH w0.heap.size _ m fb x mb kb p bf bp F f [2, 3] from HQ5.out) HF.out Hf.out).mono ?_; rintro e w6 ⟨⟨u6, rfl⟩, hl6, hm6⟩
                 have HM6 := hid (HM5.out.trans hm6 (by have h1 := HB.out; have h2 := HB2.out; simp at *; omega))
                 have HL6 := hid hl6
                 clear hl6 hm6 HQ5 HM5))
            go_roundw
            case rel => exact ⟨2, by omega, by go_num, HL6, HM6⟩
            case measure => simp [intOf]
          · obtain rfl : j = 2 := by omega
            clear h0 h1 hj
            obtain ⟨wb, hwb⟩ : ∃ wb, wb = wr := ⟨_, rfl⟩
            subst hwb
            cases hL.out with
            | t F f p1 bf bp s T =>
            have HS := hid s
            have HT := hid T
            have hbx := HBX.out.mod hM.out (by simp)
            have x0 := hbx.cell 0
            have x1 := hbx.cell 1
            have x2 := hbx.cell 2
            have x3 := hbx.cell 3
            have x4 := hbx.cell 4
            have x5 := hbx.cell 5
            have x6 := hbx.cell 6
            simp only [List.getElem?_toArray, List.getElem?_cons_zero, List.getElem?_cons_succ] at x0 x1 x2 x3 x4 x5 x6
            clear hbx
            clear s T hL
            by_cases hok : GOk K D P O L
            · by_cases hlen : len ≤ 8
              · have d8 : decide ((8 : Int) < len) = false := by simp; omega
                go_wp2_with (first
                  | (go_at_call 10; refine (pack_ok K ro sub D P O L _ hok).mono ?_; rintro e w3 ⟨q, rfl, hb3, hm3⟩
                     have HM3 := hid (hM.out.andThen hm3)
                     have HB3 := hid hb3
                     have HS3 := hid (HS.out.mod0 hm3)
                     clear hb3 hm3)
                  | (go_at_call 12; refine (wr_g HS3.out HT.out 2 8 8 _ _ (.inl rfl) (by omega) HB3.out _ rfl).mono ?_; rintro e w4 ⟨⟨u4, rfl⟩, hs4, ht4, hm4⟩
                     have HM4 := hid (HM3.out.trans hm4 (by have h1 := HB.out; simp at *; omega))
                     have HS4 := hid hs4
                     have HPH4 := hid hs4.ph
                     have HT4 := hid ht4
                     have HB4 := hid (HB3.out.keepf (fun b off h => by cases h; rfl) HS3.out.ph hm4)
                     have HLI := hid (lies_wr F K ro sub D P O L)
                     clear HS3 HT HB3 HM3 hs4 ht4 hm4)
                  | (go_at_call 12; refine (page_step HS4.out HT4.out).mono ?_; rintro e w5 ⟨⟨u5, rfl⟩, hs5, ht5, hm45⟩
                     have HM5 := hid (HM4.out.trans hm45 (by have h1 := HB.out; simp at *; omega))
                     have HM45 := hid hm45
                     have HS5 := hid hs5
                     have HT5 := hid ht5
                     have HLI5 := hid (HLI.out.wr3 16 pgG)
                     have HBG5 := hid (HBG.out.mod (HM0.out.andThen HM5.out) (by simp))
                     clear HS4 HT4 HM4 HLI hs5 ht5 hm45)
                  | (go_at_call 13; refine (late_step HS5.out.ph HBG5.out hlen).mono ?_; rintro e w6 ⟨v, dv, rfl, hv6, hb6, hb7, hlb6, hm6⟩
                     have HV6 := hid hv6
                     have HLB6 := hid hlb6
                     have HBV := hid (show fb < v ∧ w5.heap.size < v ∧ w5.heap.size < dv ∧ fb < w5.heap.size from ⟨Nat.lt_trans HS5.out.ph.fr.lt hb6, hb6, hb7, HS5.out.ph.fr.lt⟩)
                     have HM6 := hid (HM5.out.andThen hm6)
                     have HM56 := hid hm6
                     have HS6 := hid (HS5.out.mod0 hm6)
                     clear HS5 HM5 HBG5 hv6 hlb6 hb6 hb7 hm6)
                  | (go_at_call 13; refine (plain_step (len := len) (G := G) HS6.out.ph hlen).mono ?_; rintro e w7 ⟨u, du, rfl, hu7, hb8, hb9, hm7⟩
                     have HU7 := hid hu7
                     have HBU := hid (show fb < u ∧ w6.heap.size ≤ u ∧ w6.heap.size ≤ du from ⟨Nat.lt_of_lt_of_le HS6.out.ph.fr.lt hb8, hb8, hb9⟩)
                     have HM7 := hid (HM6.out.andThen hm7)
                     have HM67 := hid hm7
                     have HS7 := hid (HS6.out.mod0 hm7)
                     clear HS6 HM6 hu7 hb8 hb9 hm7)
                  | (go_at_call 14; refine (pull_g HS7.out HU7.out (by omega) HBU.out.1 K ro sub D P O L hok HLI5.out o n HFN.out.1 HFN.out.2).mono ?_; rintro e w8 ⟨⟨a1, l1, k1, rfl, hy1, hl1, ho1⟩, ⟨N1, hN1, hs8⟩, hm8⟩
                     obtain rfl : N1 = 0 := by omega
                     rw [rw2_zero] at hs8
                     have HY1 := hid hy1
                     have HLL1 := hid hl1
                     have HO1 := hid ho1
                     have HS8 := hid hs8
                     have HM8 := hid (HM7.out.trans hm8 (by have h1 := HB.out; have h2 := HBU.out; have h3 := HM7.out.size; have h4 := HM67.out.size; simp at *; omega))
                     have HM68 := hid (HM67.out.mono (T := [fb]) (by simp) |>.trans hm8 (by have h2 := HBU.out; simp; omega))
                     have HV8 := hid (HV6.out.mod0 HM68.out (by have h2 := HBV.out; simp; omega) (by simpa using fun e => HS7.out.ph.fr.ne_map (HV6.out.vh.mod0 HM67.out).mm.imap e.symm))
                     clear HS7 HM7 HU7 hy1 hl1 ho1 hN1 hs8 hm8))
                by_cases hP1 : P = 1
                · subst hP1
                  refine (pull_g HS8.out HV8.out (by omega) HBV.out.1 _ _ _ _ _ _ _ hok HLI5.out o n HFN.out.1 HFN.out.2).mono ?_
                  rintro e w9 ⟨⟨a2, l2, k2, rfl, hy2, hl2, ho2⟩, ⟨N2, hN2, hs9⟩, hm9⟩
                  have HLL2 := hid hl2
                  have HS9 := hid hs9
                  have HT9 := hid (HT5.out.same (fun i c hc => rw2_num _ N2 len G i c hc))
                  have HY19 := hid (HY1.out.pulled HO1.out HS8.out.ph HV8.out.vh (S := [fb, v]) (by simp) hm9)
                  have HM9 := hid (HM8.out.trans hm9 (by have h1 := HB.out; have h2 := HBV.out; have h3 := HM8.out.size; have h4 := HM68.out.size; have h5 := HM56.out.size; simp at *; omega))
                  have hm69 : Tn.Mod [fb, v] w6 w9 := (HM68.out.mono (T := [fb, v]) (by simp)).andThen hm9
                  have HM69 := hid hm69
                  have HB9 := hid (HB4.out.keepf (fun b off h => by cases h; rfl) HPH4.out ((HM45.out.andThen (HM56.out.mono (by simp))).trans hm69 (by have h1 := HBV.out; have h2 := HM45.out.size; simp; omega)))
                  have HLB9 := hid (HLB6.out.mod hm69 (by have h2 := HBV.out; simp; omega))
                  obtain ⟨s1, s2, hc1, hc2, hc3⟩ := two_strs k1 k2 HY19.out hy2 HLL1.out hl2
                  have hbx9 := HBX.out.mod HM9.out (by simp)
                  have y4 := hbx9.cell 4
                  simp only [List.getElem?_toArray, List.getElem?_cons_zero, List.getElem?_cons_succ] at y4
                  clear HS8 HM8 HV8 HY1 HO1 hy2 hl2 ho2 hN2 hs9 hm9 hbx9 hm69
                  obtain rfl := hc3 rfl
                  clear hc3
                  go_wp2_with (first
                    | (go_at_call 12; refine (wr_g HS9.out HT9.out 2 8 8 _ _ (.inl rfl) (by omega) HB9.out _ rfl).mono ?_; rintro e w10 ⟨⟨u10', rfl⟩, hs10, ht10, hm10⟩
                       have HM10 := hid (HM9.out.trans hm10 (by have h1 := HB.out; simp at *; omega))
                       have HS10 := hid hs10
                       have HT10 := hid ht10
                       have HLI10 := hid (lies_wr (rw2 (wrB (wrB F 2 0 8 (gB K ro sub D 1 O L)) 3 0 16 pgG) N2 len G) K ro sub D 1 O L)
                       have HLB10 := hid (HLB9.out.mod hm10 (by have h2 := HBV.out; simp; omega))
                       have HBG10 := hid (HBG.out.mod (HM0.out.andThen HM10.out) (by simp))
                       clear HS9 HT9 HM9 hs10 ht10 hm10)
                    | (go_at_call 13; refine (late_again HS10.out.ph HLB10.out HBG10.out hlen).mono ?_; rintro e w11 ⟨v2, d2, rfl, hv11, hb11, hb12, hm11⟩
                       have HV11 := hid hv11
                       have HBW := hid (show fb < v2 ∧ w10.heap.size ≤ v2 ∧ kb ≠ d2 from ⟨Nat.lt_of_lt_of_le HS10.out.ph.fr.lt hb11, hb11, by have := (Array.getElem?_eq_some_iff.1 HS10.out.gh.km).1; omega⟩)
                       have HM11 := hid (HM10.out.andThen hm11)
                       have HM1112 := hid hm11
                       have HS11 := hid (HS10.out.mod0 hm11)
                       clear HS10 HM10 hv11 hb11 hb12 hm11))
                  by_cases hK : K = 1
                  · subst hK
                    by_cases hD : D = 0
                    · subst hD
                      cases sub
                      · skip
                        cases wrt
                        · skip
                          have hmap := map_g HS11.out HT10.out HV11.out.vh HV11.out.d0 (by omega) HBW.out.1 1 ro false 0 1 O L hok HLI10.out false HBW.out.2.2
                          have hgE : mE 1 ro false 0 1 false = 0 := mE_5 rfl (by omega)
                          rw [hgE] at hmap
                          have HMAP := hid hmap
                          clear hmap hok
                          refine HMAP.out.mono ?_
                          rintro e w12 ⟨rfl, hv12, hun, hm12⟩
                          have HM12 := hid (HM11.out.trans hm12 (by have h1 := HB.out; have h2 := HBW.out; have h3 := HM11.out.size; have h4 := HB2.out; have h5 := HM1112.out.size; simp at *; omega))
                          have HR12 := hid (reads_f hv12)
                          have HUN := hid hun
                          have hbx12 := HBX.out.mod HM12.out (by simp)
                          have x0 := hbx12.cell 0
                          have x1 := hbx12.cell 1
                          have x2 := hbx12.cell 2
                          have x3 := hbx12.cell 3
                          have x4 := hbx12.cell 4
                          simp only [List.getElem?_toArray, List.getElem?_cons_zero, List.getElem?_cons_succ] at x0 x1 x2 x3 x4
                          clear hv12 hun hm12 hbx12
                          go_wp2_with (first
                            | (go_at_call 16; refine HR12.out.mono ?_; rintro e w13 ⟨rfl, rfl⟩)
                            | (go_at_call 17; refine (HUN.out (by simp)).mono ?_; rintro e w14 ⟨rfl, hm14⟩; have HM14 := hid (HM12.out.trans hm14 (by have h1 := HB.out; have h4 := HB2.out; simp at *; omega)); clear hm14))
                          go_ret
                          exact ⟨rfl, HMK.out _ (HM0.out.andThen HM14.out)⟩
                        · cases ro
                          · skip
                            have hmap := map_g HS11.out HT10.out HV11.out.vh HV11.out.d0 (by omega) HBW.out.1 1 false false 0 1 O L hok HLI10.out true HBW.out.2.2
                            have hgE : mE 1 false false 0 1 true = 0 := mE_5 rfl (by omega)
                            rw [hgE] at hmap
                            have HMAP := hid hmap
                            clear hmap hok
                            refine HMAP.out.mono ?_
                            rintro e w12 ⟨rfl, hv12, hun, hm12⟩
                            have HM12 := hid (HM11.out.trans hm12 (by have h1 := HB.out; have h2 := HBW.out; have h3 := HM11.out.size; have h4 := HB2.out; have h5 := HM1112.out.size; simp at *; omega))
                            have HR12 := hid (reads_f hv12)
                            have HUN := hid hun
                            have hbx12 := HBX.out.mod HM12.out (by simp)
                            have x0 := hbx12.cell 0
                            have x1 := hbx12.cell 1
                            have x2 := hbx12.cell 2
                            have x3 := hbx12.cell 3
                            have x4 := hbx12.cell 4
                            simp only [List.getElem?_toArray, List.getElem?_cons_zero, List.getElem?_cons_succ] at x0 x1 x2 x3 x4
                            clear hv12 hun hm12 hbx12
                            go_wp2_with (first
                              | (go_at_call 16; refine HR12.out.mono ?_; rintro e w13 ⟨rfl, rfl⟩)
                              | (go_at_call 17; refine (HUN.out (by simp)).mono ?_; rintro e w14 ⟨rfl, hm14⟩; have HM14 := hid (HM12.out.trans hm14 (by have h1 := HB.out; have h4 := HB2.out; simp at *; omega)); clear hm14))
                            go_ret
                            exact ⟨rfl, HMK.out _ (HM0.out.andThen HM14.out)⟩
                          · skip
                            have hmap := map_g HS11.out HT10.out HV11.out.vh HV11.out.d0 (by omega) HBW.out.1 1 true false 0 1 O L hok HLI10.out true HBW.out.2.2
                            have hgE : mE 1 true false 0 1 true ≠ 0 := mE_3
                            generalize mE 1 true false 0 1 true = g at hmap hgE
                            have hg1 : (g == 0) = false := by simpa using hgE
                            have hg2 : (g != 0) = true := by simpa using hgE
                            clear hgE
                            have HMAP := hid hmap
                            clear hmap hok
                            refine HMAP.out.mono ?_
                            rintro e w12 ⟨rfl, hv12, hun, hm12⟩
                            have HM12 := hid (HM11.out.trans hm12 (by have h1 := HB.out; have h2 := HBW.out; have h3 := HM11.out.size; have h4 := HB2.out; have h5 := HM1112.out.size; simp at *; omega))
                            have HR12 := hid (reads_f hv12)
                            have HUN := hid hun
                            have hbx12 := HBX.out.mod HM12.out (by simp)
                            have x0 := hbx12.cell 0
                            have x1 := hbx12.cell 1
                            have x2 := hbx12.cell 2
                            have x3 := hbx12.cell 3
                            have x4 := hbx12.cell 4
                            simp only [List.getElem?_toArray, List.getElem?_cons_zero, List.getElem?_cons_succ] at x0 x1 x2 x3 x4
                            clear hv12 hun hm12 hbx12
                            go_wp2_with (first
                              | (go_at_call 16; refine HR12.out.mono ?_; rintro e w13 ⟨rfl, rfl⟩)
                              | (go_at_call 17; refine (HUN.out (by simp)).mono ?_; rintro e w14 ⟨rfl, hm14⟩; have HM14 := hid (HM12.out.trans hm14 (by have h1 := HB.out; have h4 := HB2.out; simp at *; omega)); clear hm14))
                            all_goals
                              go_ret
                              exact ⟨rfl, HMK.out _ (HM0.out.andThen HM12.out)⟩
                      · skip
                        have hmap := map_g HS11.out HT10.out HV11.out.vh HV11.out.d0 (by omega) HBW.out.1 1 ro true 0 1 O L hok HLI10.out wrt HBW.out.2.2
                        have hgE : mE 1 ro true 0 1 wrt ≠ 0 := mE_2
                        generalize mE 1 ro true 0 1 wrt = g at hmap hgE
                        have hg1 : (g == 0) = false := by simpa using hgE
                        have hg2 : (g != 0) = true := by simpa using hgE
                        clear hgE
                        have HMAP := hid hmap
                        clear hmap hok
                        refine HMAP.out.mono ?_
                        rintro e w12 ⟨rfl, hv12, hun, hm12⟩
                        have HM12 := hid (HM11.out.trans hm12 (by have h1 := HB.out; have h2 := HBW.out; have h3 := HM11.out.size; have h4 := HB2.out; have h5 := HM1112.out.size; simp at *; omega))
                        have HR12 := hid (reads_f hv12)
                        have HUN := hid hun
                        have hbx12 := HBX.out.mod HM12.out (by simp)
                        have x0 := hbx12.cell 0
                        have x1 := hbx12.cell 1
                        have x2 := hbx12.cell 2
                        have x3 := hbx12.cell 3
                        have x4 := hbx12.cell 4
                        simp only [List.getElem?_toArray, List.getElem?_cons_zero, List.getElem?_cons_succ] at x0 x1 x2 x3 x4
                        clear hv12 hun hm12 hbx12
                        go_wp2_with (first
                          | (go_at_call 16; refine HR12.out.mono ?_; rintro e w13 ⟨rfl, rfl⟩)
                          | (go_at_call 17; refine (HUN.out (by simp)).mono ?_; rintro e w14 ⟨rfl, hm14⟩; have HM14 := hid (HM12.out.trans hm14 (by have h1 := HB.out; have h4 := HB2.out; simp at *; omega)); clear hm14))
                        all_goals
                          go_ret
                          exact ⟨rfl, HMK.out _ (HM0.out.andThen HM12.out)⟩
                    · have hDb : (D == 0) = false := by simp [hD]
                      have hmap := map_g HS11.out HT10.out HV11.out.vh HV11.out.d0 (by omega) HBW.out.1 1 ro sub D 1 O L hok HLI10.out wrt HBW.out.2.2
                      have hgE : mE 1 ro sub D 1 wrt ≠ 0 := mE_1 (fun h => hD h.2)
                      generalize mE 1 ro sub D 1 wrt = g at hmap hgE
                      have hg1 : (g == 0) = false := by simpa using hgE
                      have hg2 : (g != 0) = true := by simpa using hgE
                      clear hgE
                      have HMAP := hid hmap
                      clear hmap hok
                      refine HMAP.out.mono ?_
                      rintro e w12 ⟨rfl, hv12, hun, hm12⟩
                      have HM12 := hid (HM11.out.trans hm12 (by have h1 := HB.out; have h2 := HBW.out; have h3 := HM11.out.size; have h4 := HB2.out; have h5 := HM1112.out.size; simp at *; omega))
                      have HR12 := hid (reads_f hv12)
                      have HUN := hid hun
                      have hbx12 := HBX.out.mod HM12.out (by simp)
                      have x0 := hbx12.cell 0
                      have x1 := hbx12.cell 1
                      have x2 := hbx12.cell 2
                      have x3 := hbx12.cell 3
                      have x4 := hbx12.cell 4
                      simp only [List.getElem?_toArray, List.getElem?_cons_zero, List.getElem?_cons_succ] at x0 x1 x2 x3 x4
                      clear hv12 hun hm12 hbx12
                      go_wp2_with (first
                        | (go_at_call 16; refine HR12.out.mono ?_; rintro e w13 ⟨rfl, rfl⟩)
                        | (go_at_call 17; refine (HUN.out (by simp)).mono ?_; rintro e w14 ⟨rfl, hm14⟩; have HM14 := hid (HM12.out.trans hm14 (by have h1 := HB.out; have h4 := HB2.out; simp at *; omega)); clear hm14))
                      all_goals
                        go_ret
                        exact ⟨rfl, HMK.out _ (HM0.out.andThen HM12.out)⟩
                  · have hKb : (K == 1) = false := by simp [hK]
                    have hmap := map_g HS11.out HT10.out HV11.out.vh HV11.out.d0 (by omega) HBW.out.1 K ro sub D 1 O L hok HLI10.out wrt HBW.out.2.2
                    have hgE : mE K ro sub D 1 wrt ≠ 0 := mE_1 (fun h => hK h.1)
                    generalize mE K ro sub D 1 wrt = g at hmap hgE
                    have hg1 : (g == 0) = false := by simpa using hgE
                    have hg2 : (g != 0) = true := by simpa using hgE
                    clear hgE
                    have HMAP := hid hmap
                    clear hmap hok
                    refine HMAP.out.mono ?_
                    rintro e w12 ⟨rfl, hv12, hun, hm12⟩
                    have HM12 := hid (HM11.out.trans hm12 (by have h1 := HB.out; have h2 := HBW.out; have h3 := HM11.out.size; have h4 := HB2.out; have h5 := HM1112.out.size; simp at *; omega))
                    have HR12 := hid (reads_f hv12)
                    have HUN := hid hun
                    have hbx12 := HBX.out.mod HM12.out (by simp)
                    have x0 := hbx12.cell 0
                    have x1 := hbx12.cell 1
                    have x2 := hbx12.cell 2
                    have x3 := hbx12.cell 3
                    have x4 := hbx12.cell 4
                    simp only [List.getElem?_toArray, List.getElem?_cons_zero, List.getElem?_cons_succ] at x0 x1 x2 x3 x4
                    clear hv12 hun hm12 hbx12
                    go_wp2_with (first
                      | (go_at_call 16; refine HR12.out.mono ?_; rintro e w13 ⟨rfl, rfl⟩)
                      | (go_at_call 17; refine (HUN.out (by simp)).mono ?_; rintro e w14 ⟨rfl, hm14⟩; have HM14 := hid (HM12.out.trans hm14 (by have h1 := HB.out; have h4 := HB2.out; simp at *; omega)); clear hm14))
                    all_goals
                      go_ret
                      exact ⟨rfl, HMK.out _ (HM0.out.andThen HM12.out)⟩
                · have hP1b : (P == 1) = false := by simp [hP1]
                  refine (pull_g HS8.out HV8.out (by omega) HBV.out.1 _ _ _ _ _ _ _ hok HLI5.out o n HFN.out.1 HFN.out.2).mono ?_
                  rintro e w9 ⟨⟨a2, l2, k2, rfl, hy2, hl2, ho2⟩, ⟨N2, hN2, hs9⟩, hm9⟩
                  have HLL2 := hid hl2
                  have HS9 := hid hs9
                  have HT9 := hid (HT5.out.same (fun i c hc => rw2_num _ N2 len G i c hc))
                  have HY19 := hid (HY1.out.pulled HO1.out HS8.out.ph HV8.out.vh (S := [fb, v]) (by simp) hm9)
                  have HM9 := hid (HM8.out.trans hm9 (by have h1 := HB.out; have h2 := HBV.out; have h3 := HM8.out.size; have h4 := HM68.out.size; have h5 := HM56.out.size; simp at *; omega))
                  have hm69 : Tn.Mod [fb, v] w6 w9 := (HM68.out.mono (T := [fb, v]) (by simp)).andThen hm9
                  have HM69 := hid hm69
                  have HB9 := hid (HB4.out.keepf (fun b off h => by cases h; rfl) HPH4.out ((HM45.out.andThen (HM56.out.mono (by simp))).trans hm69 (by have h1 := HBV.out; have h2 := HM45.out.size; simp; omega)))
                  have HLB9 := hid (HLB6.out.mod hm69 (by have h2 := HBV.out; simp; omega))
                  obtain ⟨s1, s2, hc1, hc2, hc3⟩ := two_strs k1 k2 HY19.out hy2 HLL1.out hl2
                  have hbx9 := HBX.out.mod HM9.out (by simp)
                  have y4 := hbx9.cell 4
                  simp only [List.getElem?_toArray, List.getElem?_cons_zero, List.getElem?_cons_succ] at y4
                  clear HS8 HM8 HV8 HY1 HO1 hy2 hl2 ho2 hN2 hs9 hm9 hbx9 hm69
                  clear hc1 hc2 hc3
                  go_wp2_with (first
                    | (go_at_call 12; refine (wr_g HS9.out HT9.out 2 8 8 _ _ (.inl rfl) (by omega) HB9.out _ rfl).mono ?_; rintro e w10 ⟨⟨u10', rfl⟩, hs10, ht10, hm10⟩
                       have HM10 := hid (HM9.out.trans hm10 (by have h1 := HB.out; simp at *; omega))
                       have HS10 := hid hs10
                       have HT10 := hid ht10
                       have HLI10 := hid (lies_wr (rw2 (wrB (wrB F 2 0 8 (gB K ro sub D P O L)) 3 0 16 pgG) N2 len G) K ro sub D P O L)
                       have HLB10 := hid (HLB9.out.mod hm10 (by have h2 := HBV.out; simp; omega))
                       have HBG10 := hid (HBG.out.mod (HM0.out.andThen HM10.out) (by simp))
                       clear HS9 HT9 HM9 hs10 ht10 hm10)
                    | (go_at_call 13; refine (late_again HS10.out.ph HLB10.out HBG10.out hlen).mono ?_; rintro e w11 ⟨v2, d2, rfl, hv11, hb11, hb12, hm11⟩
                       have HV11 := hid hv11
                       have HBW := hid (show fb < v2 ∧ w10.heap.size ≤ v2 ∧ kb ≠ d2 from ⟨Nat.lt_of_lt_of_le HS10.out.ph.fr.lt hb11, hb11, by have := (Array.getElem?_eq_some_iff.1 HS10.out.gh.km).1; omega⟩)
                       have HM11 := hid (HM10.out.andThen hm11)
                       have HM1112 := hid hm11
                       have HS11 := hid (HS10.out.mod0 hm11)
                       clear HS10 HM10 hv11 hb11 hb12 hm11))
                  by_cases hK : K = 1
                  · subst hK
                    by_cases hD : D = 0
                    · subst hD
                      cases sub
                      · skip
                        by_cases hP2 : P < 2
                        · skip
                          cases wrt
                          · skip
                            have hmap := map_g HS11.out HT10.out HV11.out.vh HV11.out.d0 (by omega) HBW.out.1 1 ro false 0 P O L hok HLI10.out false HBW.out.2.2
                            have hgE : mE 1 ro false 0 P false = 0 := mE_5 rfl (by omega)
                            rw [hgE] at hmap
                            have HMAP := hid hmap
                            clear hmap hok
                            refine HMAP.out.mono ?_
                            rintro e w12 ⟨rfl, hv12, hun, hm12⟩
                            have HM12 := hid (HM11.out.trans hm12 (by have h1 := HB.out; have h2 := HBW.out; have h3 := HM11.out.size; have h4 := HB2.out; have h5 := HM1112.out.size; simp at *; omega))
                            have HR12 := hid (reads_f hv12)
                            have HUN := hid hun
                            have hbx12 := HBX.out.mod HM12.out (by simp)
                            have x0 := hbx12.cell 0
                            have x1 := hbx12.cell 1
                            have x2 := hbx12.cell 2
                            have x3 := hbx12.cell 3
                            have x4 := hbx12.cell 4
                            simp only [List.getElem?_toArray, List.getElem?_cons_zero, List.getElem?_cons_succ] at x0 x1 x2 x3 x4
                            clear hv12 hun hm12 hbx12
                            go_wp2_with (first
                              | (go_at_call 16; refine HR12.out.mono ?_; rintro e w13 ⟨rfl, rfl⟩)
                              | (go_at_call 17; refine (HUN.out (by simp)).mono ?_; rintro e w14 ⟨rfl, hm14⟩; have HM14 := hid (HM12.out.trans hm14 (by have h1 := HB.out; have h4 := HB2.out; simp at *; omega)); clear hm14))
                            go_ret
                            exact ⟨rfl, HMK.out _ (HM0.out.andThen HM14.out)⟩
                          · cases ro
                            · skip
                              have hmap := map_g HS11.out HT10.out HV11.out.vh HV11.out.d0 (by omega) HBW.out.1 1 false false 0 P O L hok HLI10.out true HBW.out.2.2
                              have hgE : mE 1 false false 0 P true = 0 := mE_5 rfl (by omega)
                              rw [hgE] at hmap
                              have HMAP := hid hmap
                              clear hmap hok
                              refine HMAP.out.mono ?_
                              rintro e w12 ⟨rfl, hv12, hun, hm12⟩
                              have HM12 := hid (HM11.out.trans hm12 (by have h1 := HB.out; have h2 := HBW.out; have h3 := HM11.out.size; have h4 := HB2.out; have h5 := HM1112.out.size; simp at *; omega))
                              have HR12 := hid (reads_f hv12)
                              have HUN := hid hun
                              have hbx12 := HBX.out.mod HM12.out (by simp)
                              have x0 := hbx12.cell 0
                              have x1 := hbx12.cell 1
                              have x2 := hbx12.cell 2
                              have x3 := hbx12.cell 3
                              have x4 := hbx12.cell 4
                              simp only [List.getElem?_toArray, List.getElem?_cons_zero, List.getElem?_cons_succ] at x0 x1 x2 x3 x4
                              clear hv12 hun hm12 hbx12
                              go_wp2_with (first
                                | (go_at_call 16; refine HR12.out.mono ?_; rintro e w13 ⟨rfl, rfl⟩)
                                | (go_at_call 17; refine (HUN.out (by simp)).mono ?_; rintro e w14 ⟨rfl, hm14⟩; have HM14 := hid (HM12.out.trans hm14 (by have h1 := HB.out; have h4 := HB2.out; simp at *; omega)); clear hm14))
                              go_ret
                              exact ⟨rfl, HMK.out _ (HM0.out.andThen HM14.out)⟩
                            · skip
                              have hmap := map_g HS11.out HT10.out HV11.out.vh HV11.out.d0 (by omega) HBW.out.1 1 true false 0 P O L hok HLI10.out true HBW.out.2.2
                              have hgE : mE 1 true false 0 P true ≠ 0 := mE_3
                              generalize mE 1 true false 0 P true = g at hmap hgE
                              have hg1 : (g == 0) = false := by simpa using hgE
                              have hg2 : (g != 0) = true := by simpa using hgE
                              clear hgE
                              have HMAP := hid hmap
                              clear hmap hok
                              refine HMAP.out.mono ?_
                              rintro e w12 ⟨rfl, hv12, hun, hm12⟩
                              have HM12 := hid (HM11.out.trans hm12 (by have h1 := HB.out; have h2 := HBW.out; have h3 := HM11.out.size; have h4 := HB2.out; have h5 := HM1112.out.size; simp at *; omega))
                              have HR12 := hid (reads_f hv12)
                              have HUN := hid hun
                              have hbx12 := HBX.out.mod HM12.out (by simp)
                              have x0 := hbx12.cell 0
                              have x1 := hbx12.cell 1
                              have x2 := hbx12.cell 2
                              have x3 := hbx12.cell 3
                              have x4 := hbx12.cell 4
                              simp only [List.getElem?_toArray, List.getElem?_cons_zero, List.getElem?_cons_succ] at x0 x1 x2 x3 x4
                              clear hv12 hun hm12 hbx12
                              go_wp2_with (first
                                | (go_at_call 16; refine HR12.out.mono ?_; rintro e w13 ⟨rfl, rfl⟩)
                                | (go_at_call 17; refine (HUN.out (by simp)).mono ?_; rintro e w14 ⟨rfl, hm14⟩; have HM14 := hid (HM12.out.trans hm14 (by have h1 := HB.out; have h4 := HB2.out; simp at *; omega)); clear hm14))
                              all_goals
                                go_ret
                                exact ⟨rfl, HMK.out _ (HM0.out.andThen HM12.out)⟩
                        · skip
                          have hmap := map_g HS11.out HT10.out HV11.out.vh HV11.out.d0 (by omega) HBW.out.1 1 ro false 0 P O L hok HLI10.out wrt HBW.out.2.2
                          have hgE : mE 1 ro false 0 P wrt ≠ 0 := mE_4 (by omega)
                          generalize mE 1 ro false 0 P wrt = g at hmap hgE
                          have hg1 : (g == 0) = false := by simpa using hgE
                          have hg2 : (g != 0) = true := by simpa using hgE
                          clear hgE
                          have HMAP := hid hmap
                          clear hmap hok
                          refine HMAP.out.mono ?_
                          rintro e w12 ⟨rfl, hv12, hun, hm12⟩
                          have HM12 := hid (HM11.out.trans hm12 (by have h1 := HB.out; have h2 := HBW.out; have h3 := HM11.out.size; have h4 := HB2.out; have h5 := HM1112.out.size; simp at *; omega))
                          have HR12 := hid (reads_f hv12)
                          have HUN := hid hun
                          have hbx12 := HBX.out.mod HM12.out (by simp)
                          have x0 := hbx12.cell 0
                          have x1 := hbx12.cell 1
                          have x2 := hbx12.cell 2
                          have x3 := hbx12.cell 3
                          have x4 := hbx12.cell 4
                          simp only [List.getElem?_toArray, List.getElem?_cons_zero, List.getElem?_cons_succ] at x0 x1 x2 x3 x4
                          clear hv12 hun hm12 hbx12
                          go_wp2_with (first
                            | (go_at_call 16; refine HR12.out.mono ?_; rintro e w13 ⟨rfl, rfl⟩)
                            | (go_at_call 17; refine (HUN.out (by simp)).mono ?_; rintro e w14 ⟨rfl, hm14⟩; have HM14 := hid (HM12.out.trans hm14 (by have h1 := HB.out; have h4 := HB2.out; simp at *; omega)); clear hm14))
                          all_goals
                            go_ret
                            exact ⟨rfl, HMK.out _ (HM0.out.andThen HM12.out)⟩
                      · skip
                        have hmap := map_g HS11.out HT10.out HV11.out.vh HV11.out.d0 (by omega) HBW.out.1 1 ro true 0 P O L hok HLI10.out wrt HBW.out.2.2
                        have hgE : mE 1 ro true 0 P wrt ≠ 0 := mE_2
                        generalize mE 1 ro true 0 P wrt = g at hmap hgE
                        have hg1 : (g == 0) = false := by simpa using hgE
                        have hg2 : (g != 0) = true := by simpa using hgE
                        clear hgE
                        have HMAP := hid hmap
                        clear hmap hok
                        refine HMAP.out.mono ?_
                        rintro e w12 ⟨rfl, hv12, hun, hm12⟩
                        have HM12 := hid (HM11.out.trans hm12 (by have h1 := HB.out; have h2 := HBW.out; have h3 := HM11.out.size; have h4 := HB2.out; have h5 := HM1112.out.size; simp at *; omega))
                        have HR12 := hid (reads_f hv12)
                        have HUN := hid hun
                        have hbx12 := HBX.out.mod HM12.out (by simp)
                        have x0 := hbx12.cell 0
                        have x1 := hbx12.cell 1
                        have x2 := hbx12.cell 2
                        have x3 := hbx12.cell 3
                        have x4 := hbx12.cell 4
                        simp only [List.getElem?_toArray, List.getElem?_cons_zero, List.getElem?_cons_succ] at x0 x1 x2 x3 x4
                        clear hv12 hun hm12 hbx12
                        go_wp2_with (first
                          | (go_at_call 16; refine HR12.out.mono ?_; rintro e w13 ⟨rfl, rfl⟩)
                          | (go_at_call 17; refine (HUN.out (by simp)).mono ?_; rintro e w14 ⟨rfl, hm14⟩; have HM14 := hid (HM12.out.trans hm14 (by have h1 := HB.out; have h4 := HB2.out; simp at *; omega)); clear hm14))
                        all_goals
                          go_ret
                          exact ⟨rfl, HMK.out _ (HM0.out.andThen HM12.out)⟩
                    · have hDb : (D == 0) = false := by simp [hD]
                      have hmap := map_g HS11.out HT10.out HV11.out.vh HV11.out.d0 (by omega) HBW.out.1 1 ro sub D P O L hok HLI10.out wrt HBW.out.2.2
                      have hgE : mE 1 ro sub D P wrt ≠ 0 := mE_1 (fun h => hD h.2)
                      generalize mE 1 ro sub D P wrt = g at hmap hgE
                      have hg1 : (g == 0) = false := by simpa using hgE
                      have hg2 : (g != 0) = true := by simpa using hgE
                      clear hgE
                      have HMAP := hid hmap
                      clear hmap hok
                      refine HMAP.out.mono ?_
                      rintro e w12 ⟨rfl, hv12, hun, hm12⟩
                      have HM12 := hid (HM11.out.trans hm12 (by have h1 := HB.out; have h2 := HBW.out; have h3 := HM11.out.size; have h4 := HB2.out; have h5 := HM1112.out.size; simp at *; omega))
                      have HR12 := hid (reads_f hv12)
                      have HUN := hid hun
                      have hbx12 := HBX.out.mod HM12.out (by simp)
                      have x0 := hbx12.cell 0
                      have x1 := hbx12.cell 1
                      have x2 := hbx12.cell 2
                      have x3 := hbx12.cell 3
                      have x4 := hbx12.cell 4
                      simp only [List.getElem?_toArray, List.getElem?_cons_zero, List.getElem?_cons_succ] at x0 x1 x2 x3 x4
                      clear hv12 hun hm12 hbx12
                      go_wp2_with (first
                        | (go_at_call 16; refine HR12.out.mono ?_; rintro e w13 ⟨rfl, rfl⟩)
                        | (go_at_call 17; refine (HUN.out (by simp)).mono ?_; rintro e w14 ⟨rfl, hm14⟩; have HM14 := hid (HM12.out.trans hm14 (by have h1 := HB.out; have h4 := HB2.out; simp at *; omega)); clear hm14))
                      all_goals
                        go_ret
                        exact ⟨rfl, HMK.out _ (HM0.out.andThen HM12.out)⟩
                  · have hKb : (K == 1) = false := by simp [hK]
                    have hmap := map_g HS11.out HT10.out HV11.out.vh HV11.out.d0 (by omega) HBW.out.1 K ro sub D P O L hok HLI10.out wrt HBW.out.2.2
                    have hgE : mE K ro sub D P wrt ≠ 0 := mE_1 (fun h => hK h.1)
                    generalize mE K ro sub D P wrt = g at hmap hgE
                    have hg1 : (g == 0) = false := by simpa using hgE
                    have hg2 : (g != 0) = true := by simpa using hgE
                    clear hgE
                    have HMAP := hid hmap
                    clear hmap hok
                    refine HMAP.out.mono ?_
                    rintro e w12 ⟨rfl, hv12, hun, hm12⟩
                    have HM12 := hid (HM11.out.trans hm12 (by have h1 := HB.out; have h2 := HBW.out; have h3 := HM11.out.size; have h4 := HB2.out; have h5 := HM1112.out.size; simp at *; omega))
                    have HR12 := hid (reads_f hv12)
                    have HUN := hid hun
                    have hbx12 := HBX.out.mod HM12.out (by simp)
                    have x0 := hbx12.cell 0
                    have x1 := hbx12.cell 1
                    have x2 := hbx12.cell 2
                    have x3 := hbx12.cell 3
                    have x4 := hbx12.cell 4
                    simp only [List.getElem?_toArray, List.getElem?_cons_zero, List.getElem?_cons_succ] at x0 x1 x2 x3 x4
                    clear hv12 hun hm12 hbx12
                    go_wp2_with (first
                      | (go_at_call 16; refine HR12.out.mono ?_; rintro e w13 ⟨rfl, rfl⟩)
                      | (go_at_call 17; refine (HUN.out (by simp)).mono ?_; rintro e w14 ⟨rfl, hm14⟩; have HM14 := hid (HM12.out.trans hm14 (by have h1 := HB.out; have h4 := HB2.out; simp at *; omega)); clear hm14))
                    all_goals
                      go_ret
                      exact ⟨rfl, HMK.out _ (HM0.out.andThen HM12.out)⟩
              · have d8 : decide ((8 : Int) < len) = true := by simp; omega
                clear hlen
                go_wp2_with (first
                  | (go_at_call 10; refine (pack_ok K ro sub D P O L _ hok).mono ?_; rintro e w3 ⟨q, rfl, hb3, hm3⟩; have HM3 := hid (hM.out.andThen hm3); clear hm3 hb3)
                  | (go_at_call 11; refine (unpack_nil _).mono ?_; rintro e w4 ⟨rfl, hm4⟩; have HM4 := hid (HM3.out.andThen hm4); clear hm4))
                go_ret
                exact ⟨rfl, HMK.out _ (HM0.out.andThen (HM4.out.alloc _))⟩
            · have hx := HR.out
              go_wp2_with (first
                | (go_at_call 10; refine (pack_bad K ro sub D P O L _ hok hx.1.1 hx.1.2 hx.2.1 hx.2.2).mono ?_; rintro e w3 ⟨rfl, hm3⟩; have HM3 := hid (hM.out.andThen hm3); clear hm3)
                | (go_at_call 11; refine (unpack_nil _).mono ?_; rintro e w4 ⟨rfl, hm4⟩; have HM4 := hid (HM3.out.andThen hm4); clear hm4))
              go_ret
              exact ⟨rfl, HMK.out _ (HM0.out.andThen (HM4.out.alloc _))⟩
end Go.Proofs.Ythakplgehanopaa
