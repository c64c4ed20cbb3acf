/-
  Layer 14: BridgeOnce: the walk.
-/
import Derived.Test.YtkdhkloabbcipaaCountsW
import Derived.Test.YtkdhkloabbcipaaOnl
import Derived.IntWalk
namespace Go.Proofs.Ytkdhkloabbcipaa
open Go.RowKit Go.Tn Go.Tn.P14

theorem u8s_bytes {w : World} {a : Option Addr} {len : Nat} (h : IsU8s w a len) : ∃ fr : List Int, fr.length = len ∧ Bytes w a fr ∧ fr.length ≤ 140737488351232 := by
  by_cases hp : 0 < len
  · obtain ⟨b, off, rfl, hb, Y, hY⟩ := h.2 hp
    refine ⟨(List.range len).map Y, by simp, ⟨fun y hy => ?_, fun _ => ⟨b, off, rfl, hb, fun j y hj => ?_⟩⟩, by simpa using h.1⟩
    · obtain ⟨i, hi, rfl⟩ := List.mem_map.1 hy
      exact ⟨(hY i (List.mem_range.1 hi)).2.1, (hY i (List.mem_range.1 hi)).2.2⟩
    · have hl := (List.getElem?_eq_some_iff.1 hj).1
      simp at hl
      simp [hl] at hj
      rw [← hj]
      exact (hY j hl).1
  · exact ⟨[], by simp; omega, ⟨fun y hy => by simp at hy, fun h => by simp at h⟩, by simp⟩

theorem head_one {S : St} {i : Nat} (hi : i < S.n) {fr : List Int} (h : (S.L i).q = [fr]) : headE S (i : Int) = 0 ∧ headV S (i : Int) = fr := by
  unfold headE headV
  simp [isP_nat.2 hi, h]
theorem head_none {S : St} {i : Nat} (hi : i < S.n) (h : (S.L i).q = []) : headE S (i : Int) = 6 ∧ headV S (i : Int) = [] := by
  unfold headE headV
  simp [isP_nat.2 hi, h]

set_option maxRecDepth 100000 in
set_option maxHeartbeats 2000000 in
theorem once_walk (a : Option Addr) (len cap : Nat) (port : Int) (_ : (Lit.int .i64 port).wf = true) (F : Option Addr) (lf cf : Nat) (w : World) (ho : IsScr w a len) (hu : IsU8s w F lf) :
    Calls Try.prog 5 #[.slice a len cap, .int .i64 port, .slice F lf cf] w fun e w' => e = .returned (.bool true) ∧ Below w.heap.size w w' := by
  obtain ⟨fr, rfl, hF, hFl⟩ := u8s_bytes hu
  have hlen := ho.1
  have HO := hid ho
  have HF := hid hF
  have HFl := hid hFl
  have hmk : ∀ w : World, (Instr.makeSlice 50 (.int .i64 4) (.int .i64 4)).run Try.prog w = .ok (.slice (some ⟨w.heap.size, 0, none⟩) 4 4) (w.alloc (.cells (flatC 4 fun _ _ => 0) 36)) := fun w => make_counts 4 (by decide) w
  have HMK := hid hmk
  clear ho hu hF hFl hmk
  go_enter Try.func5, Try.ntmps5
  go_wp2_with (first
    | (go_at_call 9; refine (new_ok 4 w (by decide) (by decide)).mono ?_; rintro e w1 ⟨rfl, hb1, hm1⟩; have HB1 := hid hb1; have HM1 := hid hm1; clear hb1 hm1)
    | (go_at_call 17; refine (rnew_ok 4 _ (by decide) (by decide)).mono ?_; rintro e w2 ⟨rfl, ⟨A, ac, FQ, hr2, hq2⟩, hm2⟩; have H2 := hid (two_new HB1.out HM1.out (fun b hb => by simp at hb; omega) hr2 hm2 hq2); clear hr2 hq2 hm2))
  obtain ⟨qb, hqb⟩ : ∃ q, w1.heap.size + 1 = q := ⟨_, rfl⟩
  obtain ⟨rb, hrb⟩ : ∃ q, w1.heap.size = q := ⟨_, rfl⟩
  rw [hqb, hrb] at H2
  rw [hqb]
  clear hqb hrb HB1 HM1
  go_loopw [11] (fun i wr => ∃ (k : Nat) (S : St), k ≤ len ∧ i = .int .i64 k ∧ Hid (Two w wr [] (w.heap.size + 2) w.heap.size (w.heap.size + 1) qb rb A ac S S) ∧ Hid (Ok S (65536 + 4 * k)) ∧ Hid (S.n = 4)) (fun i _ => len - (intOf i).toNat)
  case atStart => exact ⟨0, newS 4, Nat.zero_le _, rfl, H2.out, (ok_new (by decide) (by decide)).mono (by omega), rfl⟩
  case round =>
    clear H2
    obtain ⟨k, S, hk, rfl, hT, hG, hn⟩ := hrel
    by_cases hlt : k < len
    case pos =>
      obtain ⟨b, off, rfl, hbB, o, x0, x1, x2, x3, x4, x5, hF, hl⟩ := scr_at HO.out hlt
      have y0 : wr.cell? ⟨b, off + k * 6, none⟩ = some (.int .i64 o.x) := (hT.out.mod.cell hbB (by simp)).trans x0
      have y1 : wr.cell? ⟨b, off + k * 6 + 1, none⟩ = some (.int .i64 o.y) := (hT.out.mod.cell hbB (by simp)).trans x1
      have y2 : wr.cell? ⟨b, off + k * 6 + 2, none⟩ = some (.int .i64 o.z) := (hT.out.mod.cell hbB (by simp)).trans x2
      have y3 : wr.cell? ⟨b, off + k * 6 + 3, none⟩ = some (.int .i64 o.u) := (hT.out.mod.cell hbB (by simp)).trans x3
      have y4 : wr.cell? ⟨b, off + k * 6 + 4, none⟩ = some (.bool o.n) := (hT.out.mod.cell hbB (by simp)).trans x4
      have y5 : wr.cell? ⟨b, off + k * 6 + 5, none⟩ = some (.slice o.F o.fr.length o.cf) := (hT.out.mod.cell hbB (by simp)).trans x5
      clear x0 x1 x2 x3 x4 x5 hbB
      have HG2 := hid (ok_play hG.out (by omega) o hF.out.1)
      have HN2 := hid (play_n S o)
      go_wp2_with (go_at_call 18; refine (play_f hT.out hG.out (by omega) o hF.out hl.out).mono ?_; rintro e w3 ⟨rfl, h3⟩; have H3 := hid h3; clear h3)
      go_roundw
      case rel => exact ⟨k + 1, playS S o, by omega, by go_num, H3.out, HG2.out.mono (by omega), by rw [HN2.out]; exact hn.out⟩
      case measure => simp [intOf]; omega
    case neg =>
      have hke : k = len := by omega
      subst hke
      obtain ⟨M, hM⟩ : ∃ M : Int, 65536 + 4 * (k : Int) = M := ⟨_, rfl⟩
      have hM2 : M ≤ 1000000000000000 := by omega
      rw [hM] at hG
      have HMM := hid hM2
      clear hM hM2 hlen hlt hk
      have hmk := HMK.out
      have H3 := hid (hT.out.add ((Mod.refl [] wr).alloc (.cells (flatC 4 fun _ _ => 0) 36)) (heap_alloc_new wr _) (Nat.le_refl _))
      have HS0 := hid hT.out.mod.size
      go_wp2_with fail
      obtain ⟨ob, hob⟩ : ∃ q, wr.heap.size = q := ⟨_, rfl⟩
      rw [hob] at H3 HS0
      rw [hob]
      clear hob hmk
      go_loopw [13] (fun i wz => ∃ (k2 : Nat) (S2 : St) (f : Nat → Nat → Int), k2 ≤ 4 ∧ i = .int .i64 k2 ∧ Hid (Two w wz [(ob, .cells (flatC 4 f) 36 (0, 0))] (w.heap.size + 2) w.heap.size (w.heap.size + 1) qb rb A ac S2 S2) ∧ Hid (Ok S2 (M + 4 * k2)) ∧ Hid (S2.n = 4) ∧ Hid (Bare S2 k2) ∧ Hid (∀ i, i < k2 → f i 4 = (S2.L i).c 4)) (fun i _ => 4 - (intOf i).toNat)
      case atStart => exact ⟨0, S, _, Nat.zero_le _, rfl, H3.out, hG.out.mono (by omega), hn.out, bare_zero S, fun i hi => by omega⟩
      case round =>
        clear H3 hT hG hn
        obtain ⟨k2, S2, f, hk2, rfl, hT2, hG2, hn2, hB2, hf2⟩ := hrel
        obtain ⟨wz, rfl⟩ : ∃ wz : World, wz = wr := ⟨_, rfl⟩
        have hM3 := HMM.out
        by_cases hlt2 : k2 < 4
        case pos =>
          have hkS : k2 < S2.n := by rw [hn2.out]; exact hlt2
          have HG3 := hid (ok_down hG2.out (k2 : Int))
          have HB3 := hid (bare_down hB2.out hkS)
          have HN3 := hid ((down_n S2 (k2 : Int)).trans hn2.out)
          have H4 := hid (fun i => down_c4 S2 (k2 : Int) i)
          obtain ⟨S3, hS3⟩ : ∃ S3, downS S2 (k2 : Int) = S3 := ⟨_, rfl⟩
          rw [hS3] at HG3 HB3 HN3 H4
          have HS3 := hid hS3
          have hkS3 : k2 < S3.n := by rw [HN3.out]; exact hlt2
          have HE2 := hid (show isE S2 (k2 : Int) = 0 by unfold isE; rw [if_pos (isP_nat.2 hkS)])
          have HE3 := hid (show isE S3 (k2 : Int) = 0 by unfold isE; rw [if_pos (isP_nat.2 hkS3)])
          obtain ⟨x0, e0⟩ : ∃ x, count (S3.L k2) 0 = x := ⟨_, rfl⟩
          obtain ⟨x1, e1⟩ : ∃ x, count (S3.L k2) 1 = x := ⟨_, rfl⟩
          obtain ⟨x2, e2⟩ : ∃ x, count (S3.L k2) 2 = x := ⟨_, rfl⟩
          obtain ⟨x3, e3⟩ : ∃ x, count (S3.L k2) 3 = x := ⟨_, rfl⟩
          obtain ⟨x4, e4⟩ : ∃ x, count (S3.L k2) 4 = x := ⟨_, rfl⟩
          obtain ⟨x5, e5⟩ : ∃ x, count (S3.L k2) 5 = x := ⟨_, rfl⟩
          obtain ⟨x6, e6⟩ : ∃ x, count (S3.L k2) 6 = x := ⟨_, rfl⟩
          obtain ⟨x7, e7⟩ : ∃ x, count (S3.L k2) 7 = x := ⟨_, rfl⟩
          obtain ⟨x8, e8⟩ : ∃ x, count (S3.L k2) 8 = x := ⟨_, rfl⟩
          have HX := hid (show count (S3.L k2) 0 = x0 ∧ count (S3.L k2) 1 = x1 ∧ count (S3.L k2) 2 = x2 ∧ count (S3.L k2) 3 = x3 ∧ count (S3.L k2) 4 = x4 ∧ count (S3.L k2) 5 = x5 ∧ count (S3.L k2) 6 = x6 ∧ count (S3.L k2) 7 = x7 ∧ count (S3.L k2) 8 = x8 from ⟨e0, e1, e2, e3, e4, e5, e6, e7, e8⟩)
          have HV := hid (show cntA S3 (k2 : Int) = .agg #[.int .i64 x0, .int .i64 x1, .int .i64 x2, .int .i64 x3, .int .i64 x4, .int .i64 x5, .int .i64 x6, .int .i64 x7, .int .i64 x8] by rw [cntA_in hkS3]; simp only [e0, e1, e2, e3, e4, e5, e6, e7, e8])
          clear hS3 hkS hkS3 e0 e1 e2 e3 e4 e5 e6 e7 e8
          go_wp2_with (first
            | (go_at_call 15; refine (Two.down hT2.out hG2.out (by omega) (k2 : Int)).mono ?_; rintro e w4 ⟨rfl, h4⟩; rw [HS3.out] at h4; have H5 := hid h4; clear h4)
            | (go_at_call 19; refine (Two.rdown H5.out hG2.out (by omega) (k2 : Int)).mono ?_; rintro e w5 ⟨rfl, h4⟩; rw [HS3.out] at h4; have H6 := hid h4; clear h4)
            | (go_at_call 14; refine (Two.counts H6.out (k2 : Int)).mono ?_; rintro e w6 ⟨rfl, hm6⟩; rw [HV.out, HE3.out]; have I6 := hid (H6.out.newer hm6); have hO6 : Blk w6 ob 36 (flatC 4 f) := I6.out.blk List.mem_cons_self; have o0 : w6.cell? ⟨ob, k2 * 9, none⟩ = some (.int .i64 (f k2 0)) := (hO6.cell (k2 * 9 + 0)).trans (flatC_get (j := 0) hlt2 (by decide)); have o1 : w6.cell? ⟨ob, k2 * 9 + 1, none⟩ = some (.int .i64 (f k2 1)) := (hO6.cell (k2 * 9 + 1)).trans (flatC_get (j := 1) hlt2 (by decide)); have o2 : w6.cell? ⟨ob, k2 * 9 + 2, none⟩ = some (.int .i64 (f k2 2)) := (hO6.cell (k2 * 9 + 2)).trans (flatC_get (j := 2) hlt2 (by decide)); have o3 : w6.cell? ⟨ob, k2 * 9 + 3, none⟩ = some (.int .i64 (f k2 3)) := (hO6.cell (k2 * 9 + 3)).trans (flatC_get (j := 3) hlt2 (by decide)); have o4 : w6.cell? ⟨ob, k2 * 9 + 4, none⟩ = some (.int .i64 (f k2 4)) := (hO6.cell (k2 * 9 + 4)).trans (flatC_get (j := 4) hlt2 (by decide)); have o5 : w6.cell? ⟨ob, k2 * 9 + 5, none⟩ = some (.int .i64 (f k2 5)) := (hO6.cell (k2 * 9 + 5)).trans (flatC_get (j := 5) hlt2 (by decide)); have o6 : w6.cell? ⟨ob, k2 * 9 + 6, none⟩ = some (.int .i64 (f k2 6)) := (hO6.cell (k2 * 9 + 6)).trans (flatC_get (j := 6) hlt2 (by decide)); have o7 : w6.cell? ⟨ob, k2 * 9 + 7, none⟩ = some (.int .i64 (f k2 7)) := (hO6.cell (k2 * 9 + 7)).trans (flatC_get (j := 7) hlt2 (by decide)); have o8 : w6.cell? ⟨ob, k2 * 9 + 8, none⟩ = some (.int .i64 (f k2 8)) := (hO6.cell (k2 * 9 + 8)).trans (flatC_get (j := 8) hlt2 (by decide)); have g0 : w6.frozen? ⟨ob, k2 * 9, none⟩ = false := hO6.frozen _; have g1 : w6.frozen? ⟨ob, k2 * 9 + 1, none⟩ = false := hO6.frozen _; have g2 : w6.frozen? ⟨ob, k2 * 9 + 2, none⟩ = false := hO6.frozen _; have g3 : w6.frozen? ⟨ob, k2 * 9 + 3, none⟩ = false := hO6.frozen _; have g4 : w6.frozen? ⟨ob, k2 * 9 + 4, none⟩ = false := hO6.frozen _; have g5 : w6.frozen? ⟨ob, k2 * 9 + 5, none⟩ = false := hO6.frozen _; have g6 : w6.frozen? ⟨ob, k2 * 9 + 6, none⟩ = false := hO6.frozen _; have g7 : w6.frozen? ⟨ob, k2 * 9 + 7, none⟩ = false := hO6.frozen _; have g8 : w6.frozen? ⟨ob, k2 * 9 + 8, none⟩ = false := hO6.frozen _; have O6 := hid hO6; clear hO6 hm6))
          go_roundw
          case rel =>
            have hbk := (Blk.set_ (Blk.set_ (Blk.set_ (Blk.set_ (Blk.set_ (Blk.set_ (Blk.set_ (Blk.set_ (Blk.set_ O6.out (k2 * 9) (.int .i64 x0)) (k2 * 9 + 1) (.int .i64 x1)) (k2 * 9 + 2) (.int .i64 x2)) (k2 * 9 + 3) (.int .i64 x3)) (k2 * 9 + 4) (.int .i64 x4)) (k2 * 9 + 5) (.int .i64 x5)) (k2 * 9 + 6) (.int .i64 x6)) (k2 * 9 + 7) (.int .i64 x7)) (k2 * 9 + 8) (.int .i64 x8))
            obtain ⟨e0, e1, e2, e3, e4, e5, e6, e7, e8⟩ := HX.out
            have hrow := flatC_row (n := 4) (f := f) hlt2 (fun j => count (S3.L k2) j)
            simp only [e0, e1, e2, e3, e4, e5, e6, e7, e8] at hrow
            rw [hrow] at hbk
            refine ⟨k2 + 1, S3, _, by omega, by go_num, I6.out.turn ((((((((((Mod.refl [ob] w6).setCell (.inl (by simp)) _).setCell (.inl (by simp)) _).setCell (.inl (by simp)) _).setCell (.inl (by simp)) _).setCell (.inl (by simp)) _).setCell (.inl (by simp)) _).setCell (.inl (by simp)) _).setCell (.inl (by simp)) _).setCell (.inl (by simp)) _) hbk (by simp) HS0.out, HG3.out.mono (by omega), HN3.out, HB3.out, fun i hi => ?_⟩
            by_cases e : i = k2
            · subst e
              simp only [if_true]
              rfl
            · rw [if_neg e, hf2.out i (by omega)]
              exact (H4.out i).symm
          case measure => simp [intOf]; omega
        case neg =>
          have hk4 : k2 = 4 := by omega
          subst hk4
          by_cases hs : sendE S2 port fr = 0
          case neg =>
            obtain ⟨ee, hee⟩ : ∃ x, sendE S2 port fr = x := ⟨_, rfl⟩
            rw [hee] at hs
            have ht : (ee == 0) = false := by simpa using hs
            have ht' : (ee != 0) = true := by simp [bne, ht]
            have HEE := hid hee
            clear hee hs
            go_wp2_with (first
              | (go_at_call 11; refine (Two.sendo hT2.out hG2.out (by omega) HF.out HFl.out port).mono ?_; rintro e w4 ⟨rfl, h4⟩; rw [HEE.out]; have H5 := hid h4; clear h4)
              | (go_at_call 20; refine (Two.rsend H5.out hG2.out (by omega) HF.out HFl.out port).mono ?_; rintro e w5 ⟨rfl, h4⟩; rw [HEE.out]; have H6 := hid h4; clear h4)
              | (go_at_call 21; refine (awake_f _).mono ?_; rintro e w6 ⟨rfl, hm6⟩; have HM6 := hid hm6; clear hm6))
            go_ret
            exact ⟨by simp, (H6.out.mod.trans HM6.out (by simp)).below (Nat.le_refl _) (by simp)⟩
          case pos =>
            have hB4 : Bare S2 S2.n := by rw [hn2.out]; exact hB2.out
            obtain ⟨kp, rfl, hkp, l2, l128, n255, hSn, hSK, hall⟩ := once hG2.out hB4 hs
            have hgk : ∀ i, i < 4 → 0 ≤ (S2.L i).c 4 ∧ (S2.L i).c 4 ≤ M + 16 := fun i hi => by
              have h1 := hG2.out.lo i 4 (by rw [hn2.out]; exact hi)
              have h2 := hG2.out.hi i 4 (by rw [hn2.out]; exact hi)
              exact ⟨h1, by omega⟩
            have hG5 := ok_send hG2.out (kp : Int) HF.out.1
            rw [hn2.out] at hSn hkp hall
            have HSE := hid hs
            obtain ⟨S4, hS4⟩ : ∃ x, sendS S2 (kp : Int) fr = x := ⟨_, rfl⟩
            rw [hS4] at hSn hSK hall hG5
            have HS4 := hid hS4
            have HSn := hid hSn
            have HSK := hid hSK
            have HALL := hid hall
            have HGK := hid hgk
            have HG5 := hid hG5
            obtain ⟨fb, foff, rfl, hfb, hcs⟩ := HF.out.2 (by omega)
            have g0 := hcs 0 _ (fAt_get (by omega))
            have g1 := hcs 1 _ (fAt_get (by omega))
            have r1 := fAt_rng HF.out.1 (i := 1) (by omega)
            obtain ⟨a0, ea0⟩ : ∃ y, fAt fr 0 = y := ⟨_, rfl⟩
            obtain ⟨a1, ea1⟩ : ∃ y, fAt fr 1 = y := ⟨_, rfl⟩
            rw [ea0] at g0
            rw [ea1] at g1 r1
            simp only [Nat.add_zero] at g0
            have HR1 := hid r1
            have EA0 := hid ea0
            have EA1 := hid ea1
            have HG0 := hid g0
            have HG1 := hid g1
            have HFB := hid hfb
            have hl2' : decide (1 < (fr.length : Int)) = true := by simp; omega
            clear hs hS4 hSn hSK hall hgk hG5 hcs g0 g1 ea0 ea1 r1 hfb hB4 hB2 n255 l128
            have hl0 : 0 < fr.length := by omega
            have hl1 : 1 < fr.length := by omega
            go_wp2_with (go_at_call 11; refine (Two.sendo hT2.out hG2.out (by omega) HF.out HFl.out (kp : Int)).mono ?_; rintro e w4 ⟨rfl, h4⟩; rw [HS4.out] at h4; rw [HSE.out]; have H5 := hid h4; clear h4)
            go_loopw [14] (fun i wy => ∃ j : Nat, j ≤ 4 ∧ i = .int .i64 j ∧ Hid (Two w wy [(ob, .cells (flatC 4 f) 36 (0, 0))] (w.heap.size + 2) w.heap.size (w.heap.size + 1) qb rb A ac S4 S2)) (fun i _ => 4 - (intOf i).toNat)
            case atStart => exact ⟨0, Nat.zero_le _, rfl, H5.out⟩
            case round =>
              clear H5 hT2 hM3
              obtain ⟨j, hj, rfl, hT⟩ := hrel
              obtain ⟨wy, rfl⟩ : ∃ wy : World, wy = wr := ⟨_, rfl⟩
              have g1 : wy.cell? ⟨fb, foff + 1, none⟩ = some (.int .u8 a1) := (hT.out.mod.cell HFB.out (by simp)).trans HG1.out
              by_cases hlt3 : j < 4
              case neg =>
                obtain ⟨r1, r1'⟩ := HR1.out
                have HKV := hid (show knownV S4 a1 = (kp : Int) ∧ knownE S4 a1 = 0 by
                  have h := HSK.out
                  rw [EA1.out] at h
                  have he : knownE S4 a1 = 0 := by
                    unfold knownE
                    rw [if_neg (by omega), h, if_neg (by omega)]
                  exact ⟨by unfold knownV; rw [if_pos he, h], he⟩)
                go_wp2_with (go_at_call 16; refine (Two.known hT.out a1).mono ?_; rintro e w5 ⟨rfl, rfl⟩; rw [HKV.out.1, HKV.out.2])
                go_ret
                exact ⟨by simp, hT.out.mod.below (Nat.le_refl _) (by simp)⟩
              case pos =>
                have hjS : j < S4.n := by rw [HSn.out]; exact hlt3
                obtain ⟨hq4, hqq⟩ := HALL.out j hlt3
                obtain ⟨hg0, hg1⟩ := HGK.out j hlt3
                have hfj := hf2.out j hlt3
                obtain ⟨y, hy⟩ : ∃ y, (S2.L j).c 4 = y := ⟨_, rfl⟩
                rw [hy] at hq4 hg0 hg1 hfj
                have hm9 := HMM.out
                have hg2 : y ≤ 2000000000000000 := by omega
                clear hg1 hm9 hy
                have HE := hid (show isE S4 (j : Int) = 0 by unfold isE; rw [if_pos (isP_nat.2 hjS)])
                have g0 : wy.cell? ⟨fb, foff, none⟩ = some (.int .u8 a0) := (hT.out.mod.cell HFB.out (by simp)).trans HG0.out
                have HFY := hid (HF.out.mod hT.out.mod (by simp))
                obtain ⟨x0, e0⟩ : ∃ x, count (S4.L j) 0 = x := ⟨_, rfl⟩
                obtain ⟨x1, e1⟩ : ∃ x, count (S4.L j) 1 = x := ⟨_, rfl⟩
                obtain ⟨x2, e2⟩ : ∃ x, count (S4.L j) 2 = x := ⟨_, rfl⟩
                obtain ⟨x3, e3⟩ : ∃ x, count (S4.L j) 3 = x := ⟨_, rfl⟩
                obtain ⟨x5, e5⟩ : ∃ x, count (S4.L j) 5 = x := ⟨_, rfl⟩
                obtain ⟨x7, e7⟩ : ∃ x, count (S4.L j) 7 = x := ⟨_, rfl⟩
                obtain ⟨x8, e8⟩ : ∃ x, count (S4.L j) 8 = x := ⟨_, rfl⟩
                rcases (show (j = kp) ∨ (j ≠ kp ∧ a0 = a1) ∨ (j ≠ kp ∧ a0 ≠ a1) by omega) with hjk | ⟨hjk, haa⟩ | ⟨hjk, haa⟩
                case inl =>
                  have ht1 : ((j : Int) == (kp : Int)) = true := by simp [hjk]
                  have htz : toN (kp : Int) fr j = 0 := by unfold toN; rw [EA0.out, EA1.out]; rw [if_pos (.inl (by omega))]
                  rw [htz] at hq4 hqq
                  simp only [Int.natCast_zero, Int.add_zero] at hq4
                  clear htz hjk
                  have HV := hid (show cntA S4 (j : Int) = .agg #[.int .i64 x0, .int .i64 x1, .int .i64 x2, .int .i64 x3, .int .i64 y, .int .i64 x5, .int .i64 0, .int .i64 x7, .int .i64 x8] by rw [cntA_in hjS]; simp only [e0, e1, e2, e3, e5, e7, e8]; simp only [count]; simp [hq4, hqq])
                  have HHD := hid (head_none hjS (by simpa using hqq))
                  have HFJ := hid hfj
                  clear e0 e1 e2 e3 e5 e7 e8 hq4 hqq hjS hfj
                  go_upto_region 23 with (go_at_call 14; refine (Two.counts hT.out (j : Int)).mono ?_; rintro e w5 ⟨rfl, hm5⟩; rw [HV.out, HE.out]; have HM5 := hid hm5; clear hm5)
                  obtain ⟨w6, hw6, I6, M6, B6⟩ : ∃ w6, w6 = w5.alloc (.cells #[.int .i64 x0, .int .i64 x1, .int .i64 x2, .int .i64 x3, .int .i64 y, .int .i64 x5, .int .i64 0, .int .i64 x7, .int .i64 x8] 36) ∧ Hid (Two w w6 [(ob, .cells (flatC 4 f) 36 (0, 0))] (w.heap.size + 2) w.heap.size (w.heap.size + 1) qb rb A ac S4 S2) ∧ Hid (Mod [] wy w6) ∧ Hid (Blk w6 w5.heap.size 36 #[.int .i64 x0, .int .i64 x1, .int .i64 x2, .int .i64 x3, .int .i64 y, .int .i64 x5, .int .i64 0, .int .i64 x7, .int .i64 x8]) := ⟨_, rfl, (hT.out.newer HM5.out).newer ((Mod.refl [] w5).alloc _), HM5.out.alloc _, Blk.new w5 36 #[.int .i64 x0, .int .i64 x1, .int .i64 x2, .int .i64 x3, .int .i64 y, .int .i64 x5, .int .i64 0, .int .i64 x7, .int .i64 x8]⟩
                  rw [← hw6]
                  clear hw6
                  have c4 : w6.cell? ⟨w5.heap.size, 4, none⟩ = some (.int .i64 y) := B6.out.cell 4
                  have c6 : w6.cell? ⟨w5.heap.size, 6, none⟩ = some (.int .i64 0) := B6.out.cell 6
                  have o4 : w6.cell? ⟨ob, j * 9 + 4, none⟩ = some (.int .i64 y) := by
                    have hO6 : Blk w6 ob 36 (flatC 4 f) := I6.out.blk List.mem_cons_self
                    have h := (hO6.cell (j * 9 + 4)).trans (flatC_get (j := 4) hlt3 (by decide))
                    rw [HFJ.out] at h
                    exact h
                  have k0 : w6.cell? ⟨fb, foff, none⟩ = some (.int .u8 a0) := (M6.out.cell (World.block_lt_of_cell? _ _ g0) (by simp)).trans g0
                  have k1 : w6.cell? ⟨fb, foff + 1, none⟩ = some (.int .u8 a1) := (M6.out.cell (World.block_lt_of_cell? _ _ g1) (by simp)).trans g1
                  clear g0 g1
                  go_quiet (fail)
                  obtain ⟨q1, rfl⟩ : ∃ q1 : Nat, q1 = nq := ⟨_, rfl⟩
                  have hw0 : IntKind.i64.wrap (y + 0) = y := by rw [Int.add_zero]; exact IntWalk.i64_in _ (by omega)
                  have hw1 : IntKind.i64.wrap y = y := IntWalk.i64_in _ (by omega)
                  clear hg0 hg2
                  go_upto_region 25 with fail
                  go_quiet (fail)
                  go_wp2_with (go_at_call 22; refine (Two.head (I6.out.drewN (q1 + nq)) HG5.out (j : Int)).mono ?_; rintro e w8 ⟨⟨A8, c8, rfl, hb8⟩, h8, hm8⟩; rw [HHD.out.2, HHD.out.1]; have I8 := hid h8; clear h8 hb8 hm8)
                  go_roundw
                  case rel => exact ⟨j + 1, by omega, by go_num, I8.out⟩
                  case measure => simp [intOf]; omega
                case inr.inl =>
                  have ht1 : ((j : Int) == (kp : Int)) = false := by simp; omega
                  have ht2 : (a0 == a1) = true := by simp [haa]
                  have htz : toN (kp : Int) fr j = 0 := by unfold toN; rw [EA0.out, EA1.out]; rw [if_pos (.inr haa)]
                  rw [htz] at hq4 hqq
                  simp only [Int.natCast_zero, Int.add_zero] at hq4
                  clear htz hjk haa
                  have HV := hid (show cntA S4 (j : Int) = .agg #[.int .i64 x0, .int .i64 x1, .int .i64 x2, .int .i64 x3, .int .i64 y, .int .i64 x5, .int .i64 0, .int .i64 x7, .int .i64 x8] by rw [cntA_in hjS]; simp only [e0, e1, e2, e3, e5, e7, e8]; simp only [count]; simp [hq4, hqq])
                  have HHD := hid (head_none hjS (by simpa using hqq))
                  have HFJ := hid hfj
                  clear e0 e1 e2 e3 e5 e7 e8 hq4 hqq hjS hfj
                  go_upto_region 23 with (go_at_call 14; refine (Two.counts hT.out (j : Int)).mono ?_; rintro e w5 ⟨rfl, hm5⟩; rw [HV.out, HE.out]; have HM5 := hid hm5; clear hm5)
                  obtain ⟨w6, hw6, I6, M6, B6⟩ : ∃ w6, w6 = w5.alloc (.cells #[.int .i64 x0, .int .i64 x1, .int .i64 x2, .int .i64 x3, .int .i64 y, .int .i64 x5, .int .i64 0, .int .i64 x7, .int .i64 x8] 36) ∧ Hid (Two w w6 [(ob, .cells (flatC 4 f) 36 (0, 0))] (w.heap.size + 2) w.heap.size (w.heap.size + 1) qb rb A ac S4 S2) ∧ Hid (Mod [] wy w6) ∧ Hid (Blk w6 w5.heap.size 36 #[.int .i64 x0, .int .i64 x1, .int .i64 x2, .int .i64 x3, .int .i64 y, .int .i64 x5, .int .i64 0, .int .i64 x7, .int .i64 x8]) := ⟨_, rfl, (hT.out.newer HM5.out).newer ((Mod.refl [] w5).alloc _), HM5.out.alloc _, Blk.new w5 36 #[.int .i64 x0, .int .i64 x1, .int .i64 x2, .int .i64 x3, .int .i64 y, .int .i64 x5, .int .i64 0, .int .i64 x7, .int .i64 x8]⟩
                  rw [← hw6]
                  clear hw6
                  have c4 : w6.cell? ⟨w5.heap.size, 4, none⟩ = some (.int .i64 y) := B6.out.cell 4
                  have c6 : w6.cell? ⟨w5.heap.size, 6, none⟩ = some (.int .i64 0) := B6.out.cell 6
                  have o4 : w6.cell? ⟨ob, j * 9 + 4, none⟩ = some (.int .i64 y) := by
                    have hO6 : Blk w6 ob 36 (flatC 4 f) := I6.out.blk List.mem_cons_self
                    have h := (hO6.cell (j * 9 + 4)).trans (flatC_get (j := 4) hlt3 (by decide))
                    rw [HFJ.out] at h
                    exact h
                  have k0 : w6.cell? ⟨fb, foff, none⟩ = some (.int .u8 a0) := (M6.out.cell (World.block_lt_of_cell? _ _ g0) (by simp)).trans g0
                  have k1 : w6.cell? ⟨fb, foff + 1, none⟩ = some (.int .u8 a1) := (M6.out.cell (World.block_lt_of_cell? _ _ g1) (by simp)).trans g1
                  clear g0 g1
                  go_quiet (fail)
                  obtain ⟨q1, rfl⟩ : ∃ q1 : Nat, q1 = nq := ⟨_, rfl⟩
                  have hw0 : IntKind.i64.wrap (y + 0) = y := by rw [Int.add_zero]; exact IntWalk.i64_in _ (by omega)
                  have hw1 : IntKind.i64.wrap y = y := IntWalk.i64_in _ (by omega)
                  clear hg0 hg2
                  go_upto_region 25 with fail
                  go_quiet (fail)
                  go_wp2_with (go_at_call 22; refine (Two.head (I6.out.drewN (q1 + nq)) HG5.out (j : Int)).mono ?_; rintro e w8 ⟨⟨A8, c8, rfl, hb8⟩, h8, hm8⟩; rw [HHD.out.2, HHD.out.1]; have I8 := hid h8; clear h8 hb8 hm8)
                  go_roundw
                  case rel => exact ⟨j + 1, by omega, by go_num, I8.out⟩
                  case measure => simp [intOf]; omega
                case inr.inr =>
                  have ht1 : ((j : Int) == (kp : Int)) = false := by simp; omega
                  have ht2 : (a0 == a1) = false := by simp [haa]
                  have htz : toN (kp : Int) fr j = 1 := by unfold toN; rw [EA0.out, EA1.out]; rw [if_neg (by omega)]
                  rw [htz] at hq4 hqq
                  simp only [Int.natCast_one] at hq4
                  clear htz hjk haa
                  have HV := hid (show cntA S4 (j : Int) = .agg #[.int .i64 x0, .int .i64 x1, .int .i64 x2, .int .i64 x3, .int .i64 (y + 1), .int .i64 x5, .int .i64 1, .int .i64 x7, .int .i64 x8] by rw [cntA_in hjS]; simp only [e0, e1, e2, e3, e5, e7, e8]; simp only [count]; simp [hq4, hqq])
                  have HHD := hid (head_one hjS (by simpa using hqq))
                  have HFJ := hid hfj
                  clear e0 e1 e2 e3 e5 e7 e8 hq4 hqq hjS hfj
                  go_upto_region 23 with (go_at_call 14; refine (Two.counts hT.out (j : Int)).mono ?_; rintro e w5 ⟨rfl, hm5⟩; rw [HV.out, HE.out]; have HM5 := hid hm5; clear hm5)
                  obtain ⟨w6, hw6, I6, M6, B6⟩ : ∃ w6, w6 = w5.alloc (.cells #[.int .i64 x0, .int .i64 x1, .int .i64 x2, .int .i64 x3, .int .i64 (y + 1), .int .i64 x5, .int .i64 1, .int .i64 x7, .int .i64 x8] 36) ∧ Hid (Two w w6 [(ob, .cells (flatC 4 f) 36 (0, 0))] (w.heap.size + 2) w.heap.size (w.heap.size + 1) qb rb A ac S4 S2) ∧ Hid (Mod [] wy w6) ∧ Hid (Blk w6 w5.heap.size 36 #[.int .i64 x0, .int .i64 x1, .int .i64 x2, .int .i64 x3, .int .i64 (y + 1), .int .i64 x5, .int .i64 1, .int .i64 x7, .int .i64 x8]) := ⟨_, rfl, (hT.out.newer HM5.out).newer ((Mod.refl [] w5).alloc _), HM5.out.alloc _, Blk.new w5 36 #[.int .i64 x0, .int .i64 x1, .int .i64 x2, .int .i64 x3, .int .i64 (y + 1), .int .i64 x5, .int .i64 1, .int .i64 x7, .int .i64 x8]⟩
                  rw [← hw6]
                  clear hw6
                  have c4 : w6.cell? ⟨w5.heap.size, 4, none⟩ = some (.int .i64 (y + 1)) := B6.out.cell 4
                  have c6 : w6.cell? ⟨w5.heap.size, 6, none⟩ = some (.int .i64 1) := B6.out.cell 6
                  have o4 : w6.cell? ⟨ob, j * 9 + 4, none⟩ = some (.int .i64 y) := by
                    have hO6 : Blk w6 ob 36 (flatC 4 f) := I6.out.blk List.mem_cons_self
                    have h := (hO6.cell (j * 9 + 4)).trans (flatC_get (j := 4) hlt3 (by decide))
                    rw [HFJ.out] at h
                    exact h
                  have k0 : w6.cell? ⟨fb, foff, none⟩ = some (.int .u8 a0) := (M6.out.cell (World.block_lt_of_cell? _ _ g0) (by simp)).trans g0
                  have k1 : w6.cell? ⟨fb, foff + 1, none⟩ = some (.int .u8 a1) := (M6.out.cell (World.block_lt_of_cell? _ _ g1) (by simp)).trans g1
                  clear g0 g1
                  go_quiet (fail)
                  obtain ⟨q1, rfl⟩ : ∃ q1 : Nat, q1 = nq := ⟨_, rfl⟩
                  have hw0 : IntKind.i64.wrap (y + 1) = y + 1 := IntWalk.i64_in _ (by omega)
                  clear hg0 hg2
                  go_upto_region 25 with fail
                  go_quiet (fail)
                  go_wp2_with (go_at_call 22; refine (Two.head (I6.out.drewN (q1 + nq)) HG5.out (j : Int)).mono ?_; rintro e w8 ⟨⟨A8, c8, rfl, hb8⟩, h8, hm8⟩; rw [HHD.out.2, HHD.out.1]; rw [HHD.out.2] at hb8; have s1 := bytes_string hb8 c8; have s2 := bytes_string (HF.out.mod h8.mod (by simp)) cf; have I8 := hid h8; clear h8 hb8 hm8)
                  go_roundw
                  case rel => exact ⟨j + 1, by omega, by go_num, I8.out⟩
                  case measure => simp [intOf]; omega

end Go.Proofs.Ytkdhkloabbcipaa
