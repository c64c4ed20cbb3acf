/-
  Layer 12: ImageNeeds: the walk.
-/
import Derived.Test.YtpabfghpfigoaaaWc
import Derived.LoopTactic
import Derived.Deep.RegionHeld3
namespace Go.Proofs.Ytpabfghpfigoaaa
open Go.RowKit Go.Tn Go.Shelf
open Go.Proofs

set_option maxRecDepth 100000 in
set_option maxHeartbeats 4000000 in
theorem needs_ok (s b f0 n0 : Nat) (hs : s ≤ 255) (hb : b ≤ 255) (hf : f0 ≤ 255) (hn : n0 ≤ 255) (a : Option Addr) (len cap : Nat) (w : World) (O : Nat → OpV) (ho : IsScr w a len O) :
    Calls Try.prog 3 #[.int .u8 (s : Nat), .int .u8 (b : Nat), .slice a len cap, .int .u8 (f0 : Nat), .int .u8 (n0 : Nat)] w fun e w' => e = .returned (.bool true) ∧ Below w.heap.size w w' := by
  have hlen := ho.1
  have HO := hid ho
  have t1 : ((s : Nat) : Int).tmod 12 = ((s % 12 : Nat) : Int) := by rw [Int.tmod_eq_emod_of_nonneg (by omega)]; omega
  have t2 : ((b : Nat) : Int).tmod 14 = ((b % 14 : Nat) : Int) := by rw [Int.tmod_eq_emod_of_nonneg (by omega)]; omega
  obtain ⟨K0, hK0⟩ : ∃ K0, s % 12 = K0 := ⟨_, rfl⟩
  obtain ⟨M, hM⟩ : ∃ M, b % 14 = M := ⟨_, rfl⟩
  have hK0b : K0 ≤ 11 := by omega
  have hMb : M ≤ 13 := by omega
  rw [hK0] at t1
  rw [hM] at t2
  obtain ⟨K, hK⟩ : ∃ K, K0 + 1 = K := ⟨_, rfl⟩
  have t3 : 1 + (K0 : Int) = (K : Int) := by omega
  have hKp : (0 : Int) < (K : Int) := by omega
  have hKn : (K : Int) ≠ 0 := by omega
  have hKb : (K : Int) ≤ 12 := by omega
  have t4 : ((f0 : Nat) : Int).tmod (K : Int) = ((f0 % K : Nat) : Int) := by rw [Int.tmod_eq_emod_of_nonneg (by omega)]; omega
  obtain ⟨A, hA⟩ : ∃ A, f0 % K = A := ⟨_, rfl⟩
  have hAK : A < K := by rw [← hA]; exact Nat.mod_lt _ (by omega)
  rw [hA] at t4
  obtain ⟨D, hD⟩ : ∃ D, K - A + 1 = D := ⟨_, rfl⟩
  have t5 : (K : Int) - (A : Int) + 1 = (D : Int) := by omega
  have hDp : (0 : Int) < (D : Int) := by omega
  have hDn : (D : Int) ≠ 0 := by omega
  have hDb : (D : Int) ≤ 13 := by omega
  have t6 : ((n0 : Nat) : Int).tmod (D : Int) = ((n0 % D : Nat) : Int) := by rw [Int.tmod_eq_emod_of_nonneg (by omega)]; omega
  obtain ⟨C, hC⟩ : ∃ C, n0 % D = C := ⟨_, rfl⟩
  have hCD : C < D := by rw [← hC]; exact Nat.mod_lt _ (by omega)
  rw [hC] at t6
  have hAb : (A : Int) ≤ 11 := by omega
  have hCb : (C : Int) ≤ 12 := by omega
  have HAC := hid (show A + C ≤ K by omega)
  have hsI : (s : Int) ≤ 255 := by omega
  have hbI : (b : Int) ≤ 255 := by omega
  have hfI : (f0 : Int) ≤ 255 := by omega
  have hnI : (n0 : Int) ≤ 255 := by omega
  have hMI : (M : Int) ≤ 13 := by omega
  have hK0I : (K0 : Int) ≤ 11 := by omega
  have hmk := make_bytes (64 * K) ((K : Int) * 64) (by omega) (by omega) w
  have HK := hid (show K ≤ 12 by omega)
  have HM := hid hMb
  clear ho hK0 hM hA hC hK hD hs hb hf hn hAK hCD hK0b hMb
  go_enter Try.func3, Try.ntmps3
  go_wp2_with (go_at_call 8; refine (new_j w.heap.size 0 K (64 * K) M (fun _ => 0) _ (by have := HK.out; omega) (by have := HM.out; omega) (Nat.le_refl _) (by simp) (fun j hj => by rw [Nat.zero_add, (Blk.new w 5 (zeros (64 * K))).cell]; exact zeros_get hj)).mono ?_; rintro e w1 ⟨p, mb, B, rfl, hJ, hmb, hpp, hm1⟩; have HJ := hid hJ; have HM1 := hid (((Mod.refl [] w).alloc (.cells (zeros (64 * K)) 5)).andThen hm1); have HMB := hid (show w.heap.size ≤ mb by simp at hmb; omega); clear hJ hmb hpp hm1 hmk t1 t2 t3)
  go_loopw [14] (fun i wr => ∃ (j : Nat) (f : Int → Option (Nat → Int)), j ≤ len ∧ i = .int .i64 j ∧ Hid (JM wr p mb B (fun _ => 0) K M f) ∧ Hid (Tn.Mod [] w wr)) (fun i _ => len - (intOf i).toNat)
  case atStart => exact ⟨0, _, Nat.zero_le _, rfl, HJ, HM1⟩
  case round =>
    clear HJ HM1
    obtain ⟨j, f, hj, rfl, hJ, hM⟩ := hrel
    by_cases hlt : j < len
    case pos =>
      obtain ⟨sb, off, rfl, hbB, hop⟩ := scr_at HO.out hlt
      have hop2 := OpAt_mod hop hbB hM.out
      generalize O j = o at hop2 hop
      obtain ⟨x, y, z, u, F, cf, fr⟩ := o
      have HC0 := hid hop.1
      have HC1 := hid hop.2.1
      have HC2 := hid hop.2.2.1
      have HC3 := hid hop.2.2.2.1
      have HC4 := hid hop.2.2.2.2.1
      have HSB := hid hbB
      clear hop hbB
      obtain ⟨c0, c1, c2, c3, c4, hB, hL, hu0, hu1⟩ := hop2
      have HB := hid hB
      have HL := hid hL
      clear hB hL hu0 hu1
      by_cases hx : x = 2
      · subst hx
        go_wp2_with (go_at_call 9; refine (trim_j hJ.out y).mono ?_; rintro e w2 ⟨rfl, hJ2, hm2⟩; have HJ2 := hid hJ2; have HM2 := hid (hM.out.trans hm2 (by intro q hq; simp at hq; subst hq; exact .inr HMB.out)); clear hJ2 hm2)
        go_roundw
        case rel => exact ⟨j + 1, _, by omega, by go_num, HJ2, HM2⟩
        case measure => simp [intOf]; omega
      · go_wp2_with fail
        go_region_held3 (fun w' => w'.cell? ⟨sb, off + j * 5, none⟩ = some (.int .i64 x) ∧ w'.cell? ⟨sb, off + j * 5 + 1, none⟩ = some (.int .i64 y) ∧ w'.cell? ⟨sb, off + j * 5 + 2, none⟩ = some (.int .i64 z) ∧ w'.cell? ⟨sb, off + j * 5 + 3, none⟩ = some (.int .u8 u) ∧ w'.cell? ⟨sb, off + j * 5 + 4, none⟩ = some (.slice F fr.length cf))
          (first | exact ⟨(HM4.out.cell HSB.out (by simp)).trans HC0.out, (HM4.out.cell HSB.out (by simp)).trans HC1.out, (HM4.out.cell HSB.out (by simp)).trans HC2.out, (HM4.out.cell HSB.out (by simp)).trans HC3.out, (HM4.out.cell HSB.out (by simp)).trans HC4.out⟩ | exact ⟨(HM3.out.cell HSB.out (by simp)).trans HC0.out, (HM3.out.cell HSB.out (by simp)).trans HC1.out, (HM3.out.cell HSB.out (by simp)).trans HC2.out, (HM3.out.cell HSB.out (by simp)).trans HC3.out, (HM3.out.cell HSB.out (by simp)).trans HC4.out⟩ | go_keep) (first
          | (go_at_call 11; refine (bytes_f x y z u F fr.length cf (fun j => fr.getD j 0) _ ((Bytes_bys HB.out).mod ((Mod.refl [] wr).drew) (by simp)) HL.out).mono ?_
             rintro e w3 ⟨q, cq, rfl, hc3, hq1, hq2, _, hm3⟩
             have HJ3 := hid (hJ.out.mod0 (((Mod.refl [] wr).drew).andThen hm3))
             have HM3 := hid ((hM.out.drew).andThen hm3)
             have HQ3 := hid (And.intro hq2 hc3)
             clear hc3 hq1 hq2 hm3)
          | (go_at_call 10; refine (write_j HJ3.out y q 0 (opLen fr.length) cq _ HQ3.out.1 (fun j hj => by rw [Nat.zero_add]; exact HQ3.out.2 j hj)).mono ?_
             rintro e w4 ⟨rfl, hJ4, hm4⟩
             have HJ4 := hid hJ4
             have HM4 := hid (HM3.out.trans hm4 (by intro q hq; simp at hq; subst hq; exact .inr HMB.out))
             clear hJ4 hm4))
        all_goals go_wp2
        all_goals go_roundw
        case rel => exact ⟨j + 1, _, by omega, by go_num, HJ4, HM4⟩
        case measure => simp [intOf]; omega
    case neg =>
      have hje : j = len := by omega
      obtain ⟨E, hE⟩ : ∃ E, A + C = E := ⟨_, rfl⟩
      have t7 : (A : Int) + (C : Int) = (E : Int) := by omega
      have hEb : (E : Int) ≤ 12 := by have := HAC.out; omega
      have HEE := hid hE
      obtain ⟨c, hc⟩ : ∃ c, cnt f A C = c := ⟨_, rfl⟩
      have HCN := hid hc
      have hcC : (c : Int) ≤ (C : Int) := by have := cnt_le f A C; omega
      have HLE := hid hJ.out.le
      obtain ⟨F, hF⟩ : ∃ F, M - num f K = F := ⟨_, rfl⟩
      have HFR := hid (show (M : Int) - ((num f K : Nat) : Int) = (F : Int) by have := HLE.out; omega)
      have HFN := hid (show num f K + F = M by have := HLE.out; omega)
      have hFb : (F : Int) ≤ 13 := by have := HM.out; omega
      by_cases hen : (c : Int) ≤ (F : Int)
      case pos =>
        have HCF := hid (show c ≤ F by omega)
        clear hlt hF hc hE
        go_wp2_with (first
          | (go_at_call 12; refine (need_j hJ.out A C HAC.out).mono ?_; rintro e w5 ⟨rfl, hm5⟩; rw [HCN.out]; have HJ5 := hid (hJ.out.mod0 hm5); have HM5 := hid (hM.out.andThen hm5); clear hm5)
          | (go_at_call 13; refine (free_j HJ5.out).mono ?_; rintro e w6 ⟨rfl, hm6⟩; rw [HFR.out]; have HJ6 := hid (HJ5.out.mod0 hm6); have HM6 := hid (HM5.out.andThen hm6); clear hm6))
        clear hen hJ hM
        go_loopw [20, 21] (fun v i wr => ∃ (jj q : Nat) (f' : Int → Option (Nat → Int)) (full : Bool), jj ≤ C ∧ Hid (q = A + jj) ∧ v = .bool full ∧ i = .int .i64 (q : Int) ∧ Hid (NInv f K M A jj f' full) ∧ Hid (JM wr p mb B (fun _ => 0) K M f') ∧ Hid (Tn.Mod [] w wr)) (fun _ i _ => E - (intOf i).toNat)
        case atStart => exact ⟨0, A, f, false, Nat.zero_le _, rfl, rfl, rfl, NInv.start HLE.out, HJ6, HM6⟩
        case round =>
          clear HJ6 HM6 HJ5 HM5
          obtain ⟨jj, q, f', full, hjj, hq, rfl, rfl, hN, hJ, hM⟩ := hrel
          by_cases hlt : jj < C
          case pos =>
            have hqE : (q : Int) < (E : Int) := by have := hq.out; have := HEE.out; omega
            have hst := NInv.step hN.out (by have := HAC.out; omega) (fun _ => 0)
            rw [← hq.out] at hst
            obtain ⟨he, hN2⟩ := hst
            have HN2 := hid hN2
            have hmk := make_bytes 64 64 rfl (by omega) wr
            clear hN2
            rcases he with he | he <;> cases full <;> (
              have HE0 := hid he
              clear he
              go_wp2_with (go_at_call 10; refine (write_j (hJ.out.mod0 ((Mod.refl [] wr).alloc (.cells (zeros 64) 5))) (q : Int) wr.heap.size 0 64 64 (fun _ => 0) (by simp) (fun j hj => by rw [Nat.zero_add, (Blk.new wr 5 (zeros 64)).cell]; exact zeros_get hj)).mono ?_
                           rintro e w7 ⟨rfl, hJ7, hm7⟩
                           rw [HE0.out]
                           have HJ7 := hid hJ7
                           have HM7 := hid ((hM.out.alloc (.cells (zeros 64) 5)).trans hm7 (by intro q hq; simp at hq; subst hq; exact .inr HMB.out))
                           clear hJ7 hm7 hmk)
              rw [HE0.out] at HN2
              go_roundw
              case rel => exact ⟨jj + 1, q + 1, _, _, by omega, hid (by have := hq.out; omega), rfl, by go_num, HN2, HJ7, HM7⟩
              case measure => simp [intOf]; omega)
          case neg =>
            obtain rfl : jj = C := by omega
            have hqE : (E : Int) ≤ (q : Int) := by have := hq.out; have := HEE.out; omega
            obtain ⟨c2, hc2⟩ : ∃ c2, cnt f' A jj = c2 := ⟨_, rfl⟩
            have HC2 := hid hc2
            obtain rfl : full = false := by rw [hN.out.full_, decide_eq_false_iff_not]; have := HCN.out; have := HFN.out; have := HCF.out; omega
            have hc0 : c2 = 0 := by rw [← hc2]; exact hN.out.rest (by have := HCN.out; have := HFN.out; have := HCF.out; omega)
            subst hc0
            clear hlt hc2
            go_wp2_with (go_at_call 12; refine (need_j hJ.out A jj HAC.out).mono ?_; rintro e w8 ⟨rfl, hm8⟩; rw [HC2.out]; have HM8 := hid (hM.out.andThen hm8); clear hm8)
            go_ret
            exact ⟨by simp, HM8.out.below (Nat.le_refl _) (by simp)⟩

      case neg =>
        have HCF := hid (show F < c by omega)
        clear hlt hF hc hE
        go_wp2_with (first
          | (go_at_call 12; refine (need_j hJ.out A C HAC.out).mono ?_; rintro e w5 ⟨rfl, hm5⟩; rw [HCN.out]; have HJ5 := hid (hJ.out.mod0 hm5); have HM5 := hid (hM.out.andThen hm5); clear hm5)
          | (go_at_call 13; refine (free_j HJ5.out).mono ?_; rintro e w6 ⟨rfl, hm6⟩; rw [HFR.out]; have HJ6 := hid (HJ5.out.mod0 hm6); have HM6 := hid (HM5.out.andThen hm6); clear hm6))
        clear hen hJ hM
        go_loopw [20, 21] (fun v i wr => ∃ (jj q : Nat) (f' : Int → Option (Nat → Int)) (full : Bool), jj ≤ C ∧ Hid (q = A + jj) ∧ v = .bool full ∧ i = .int .i64 (q : Int) ∧ Hid (NInv f K M A jj f' full) ∧ Hid (JM wr p mb B (fun _ => 0) K M f') ∧ Hid (Tn.Mod [] w wr)) (fun _ i _ => E - (intOf i).toNat)
        case atStart => exact ⟨0, A, f, false, Nat.zero_le _, rfl, rfl, rfl, NInv.start HLE.out, HJ6, HM6⟩
        case round =>
          clear HJ6 HM6 HJ5 HM5
          obtain ⟨jj, q, f', full, hjj, hq, rfl, rfl, hN, hJ, hM⟩ := hrel
          by_cases hlt : jj < C
          case pos =>
            have hqE : (q : Int) < (E : Int) := by have := hq.out; have := HEE.out; omega
            have hst := NInv.step hN.out (by have := HAC.out; omega) (fun _ => 0)
            rw [← hq.out] at hst
            obtain ⟨he, hN2⟩ := hst
            have HN2 := hid hN2
            have hmk := make_bytes 64 64 rfl (by omega) wr
            clear hN2
            rcases he with he | he <;> cases full <;> (
              have HE0 := hid he
              clear he
              go_wp2_with (go_at_call 10; refine (write_j (hJ.out.mod0 ((Mod.refl [] wr).alloc (.cells (zeros 64) 5))) (q : Int) wr.heap.size 0 64 64 (fun _ => 0) (by simp) (fun j hj => by rw [Nat.zero_add, (Blk.new wr 5 (zeros 64)).cell]; exact zeros_get hj)).mono ?_
                           rintro e w7 ⟨rfl, hJ7, hm7⟩
                           rw [HE0.out]
                           have HJ7 := hid hJ7
                           have HM7 := hid ((hM.out.alloc (.cells (zeros 64) 5)).trans hm7 (by intro q hq; simp at hq; subst hq; exact .inr HMB.out))
                           clear hJ7 hm7 hmk)
              rw [HE0.out] at HN2
              go_roundw
              case rel => exact ⟨jj + 1, q + 1, _, _, by omega, hid (by have := hq.out; omega), rfl, by go_num, HN2, HJ7, HM7⟩
              case measure => simp [intOf]; omega)
          case neg =>
            obtain rfl : jj = C := by omega
            have hqE : (E : Int) ≤ (q : Int) := by have := hq.out; have := HEE.out; omega
            obtain ⟨c2, hc2⟩ : ∃ c2, cnt f' A jj = c2 := ⟨_, rfl⟩
            have HC2 := hid hc2
            obtain rfl : full = true := by rw [hN.out.full_, decide_eq_true_iff]; have := HCN.out; have := HFN.out; have := HCF.out; omega
            have hc0 : (c2 : Int) ≠ 0 := by have h1 := hN.out.sum; have h2 := hN.out.hit (by have := HCN.out; have := HFN.out; have := HCF.out; omega); have := HCN.out; have := HFN.out; have := HCF.out; have := HC2.out; omega
            clear hlt hc2
            go_wp2_with (go_at_call 12; refine (need_j hJ.out A jj HAC.out).mono ?_; rintro e w8 ⟨rfl, hm8⟩; rw [HC2.out]; have HM8 := hid (hM.out.andThen hm8); clear hm8)
            go_ret
            exact ⟨by have h := HCF.out; have h3 : ¬ c ≤ F := (by omega); have hb : ((c2 : Int) == 0) = false := beq_eq_false_iff_ne.2 hc0; simp [hb, h, h3], HM8.out.below (Nat.le_refl _) (by simp)⟩

theorem needs_walk (s : Int) (ws : (Lit.int .u8 s).wf = true) (b : Int) (wb : (Lit.int .u8 b).wf = true) (a : Option Addr) (len cap : Nat) (f0 : Int) (wf : (Lit.int .u8 f0).wf = true) (n0 : Int) (wn : (Lit.int .u8 n0).wf = true) (w : World) (ho : ∃ O, IsScr w a len O) :
    Calls Try.prog 3 #[.int .u8 s, .int .u8 b, .slice a len cap, .int .u8 f0, .int .u8 n0] w fun e w' => e = .returned (.bool true) ∧ Below w.heap.size w w' := by
  obtain ⟨O, hO⟩ := ho
  have h1 := bounds_u8 ws
  have h2 := bounds_u8 wb
  have h3 := bounds_u8 wf
  have h4 := bounds_u8 wn
  obtain ⟨s, rfl⟩ := Int.eq_ofNat_of_zero_le h1.1
  obtain ⟨b, rfl⟩ := Int.eq_ofNat_of_zero_le h2.1
  obtain ⟨f0, rfl⟩ := Int.eq_ofNat_of_zero_le h3.1
  obtain ⟨n0, rfl⟩ := Int.eq_ofNat_of_zero_le h4.1
  exact needs_ok s b f0 n0 (by omega) (by omega) (by omega) (by omega) a len cap w O hO
end Go.Proofs.Ytpabfghpfigoaaa
