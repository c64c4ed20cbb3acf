/-
  Layer 14, the reference: Send of a frame that is forwarded.
-/
import Derived.Test.YtkdhkloabbcipaaP
import Derived.Deep.Cut
namespace Go.Proofs.Ytkdhkloabbcipaa
open Go.RowKit Go.Tn Go.Tn.P14

theorem dirTo_none {S : St} {p : Int} {fr : List Int} (h : ∀ i : Nat, isTo S.K p fr i = false) (n : Nat) : dirTo S p fr n = S := by
  simp only [dirTo, h]
  simp
theorem dirTo_one {S : St} {p : Int} {fr : List Int} {d n : Nat} (hd : d < n) (h : ∀ i : Nat, isTo S.K p fr i = decide (i = d)) : dirTo S p fr n = onP S (d : Int) fun P => dirP P fr := by
  simp only [dirTo, onP, h]
  congr 1
  funext i
  simp only [P14.upd, Int.toNat_natCast]
  by_cases hi : i = d
  · subst hi; simp [hd]
  · simp [hi]

section
variable {w w' : World} {q rp ac : Nat} {A : Option Addr} {FP FP' : List Nat} {C : Nat → Option Addr × Nat} {S : St} {F : Option Addr} {cf : Nat} {fr : List Int}

theorem Arg.step (h : Arg w F fr FP) (hs : Step w w' FP FP') (hp : 0 < fr.length) : Arg w' F fr FP' := by
  refine ⟨h.by_.mod hs.mod h.out, fun b hb hb' => ?_, h.len⟩
  rcases hs.new b hb' with h1 | h1
  · exact h.out b hb h1
  · obtain ⟨b', off, rfl, hlt, _⟩ := h.by_.2 hp
    simp [blkOf] at hb
    omega

set_option maxRecDepth 100000 in
set_option maxHeartbeats 4000000 in
/-- A frame that is forwarded. -/
theorem rsend_on (h : RC w q rp A ac FP C S) {M : Int} (G : Ok S M) (hM : M ≤ 1152921504606846900) (hA : Arg w F fr FP) {k : Nat} (hk : k < S.n) (hl2 : 2 ≤ fr.length) (hl3 : fr.length ≤ 128) (h255 : fAt fr 1 ≠ 255) (hcr : (fr.length : Int) ≤ (S.L k).c 9) :
    Calls Try.prog 20 #[.pointer (some ⟨q, 0, none⟩), .int .i64 k, .slice F fr.length cf] w fun e w' => e = .returned (.int .i64 0) ∧ AftR w w' q rp A ac FP (dirTo (takeS S k fr) k fr S.n) := by
  obtain ⟨g, offA, rfl⟩ := h.addr
  have c0 := h.c0
  have c1 := h.c1
  have d4 := h.num hk (show 4 < 13 by decide) (by decide)
  have d5 := h.num hk (show 5 < 13 by decide) (by decide)
  have d0 := h.num hk (show 0 < 13 by decide) (by decide)
  rw [show rr 4 = 0 from rfl] at d4
  rw [show rr 5 = 1 from rfl] at d5
  rw [show rr 0 = 9 from rfl] at d0
  have f4 := h.rows.free (k * 13 + 4)
  have l0 := G.lo k 0 hk
  have m0 := G.hi k 0 hk
  have l1 := G.lo k 1 hk
  have m1 := G.hi k 1 hk
  have l9 := G.lo k 9 hk
  have m9 := G.cr k 9 hk (by decide)
  obtain ⟨x0, e0⟩ : ∃ x, (S.L k).c 0 = x := ⟨_, rfl⟩
  obtain ⟨x1, e1⟩ : ∃ x, (S.L k).c 1 = x := ⟨_, rfl⟩
  obtain ⟨x9, e9⟩ : ∃ x, (S.L k).c 9 = x := ⟨_, rfl⟩
  rw [e0] at d4 l0 m0
  rw [e1] at d5 l1 m1
  rw [e9] at d0 l9 m9 hcr
  simp only [Nat.add_zero] at d0
  obtain ⟨fb, off, rfl, hfb, hcs⟩ := hA.by_.2 (by omega)
  have g0 := hcs 0 _ (fAt_get (by omega))
  have g1 := hcs 1 _ (fAt_get (by omega))
  have r0 := fAt_rng hA.by_.1 (i := 0) (by omega)
  have r1 := fAt_rng hA.by_.1 (i := 1) (by omega)
  obtain ⟨y0, ey0⟩ : ∃ y, fAt fr 0 = y := ⟨_, rfl⟩
  obtain ⟨y1, ey1⟩ : ∃ y, fAt fr 1 = y := ⟨_, rfl⟩
  rw [ey0] at g0 r0
  rw [ey1] at g1 r1 h255
  obtain ⟨r0, r0'⟩ := r0
  obtain ⟨r1, r1'⟩ := r1
  obtain ⟨a0, rfl⟩ := Int.eq_ofNat_of_zero_le r0
  obtain ⟨a1, rfl⟩ := Int.eq_ofNat_of_zero_le r1
  have ha0 : a0 < 256 := by omega
  have ha1 : a1 < 256 := by omega
  simp only [Nat.add_zero] at g0
  have hne : ¬ fb = rp := fun e => hA.out fb (by simp [blkOf]) (e ▸ h.rows.bpF)
  have ht : (((a1 : Nat) : Int) == 255) = false := by simpa using h255
  have H := hid h
  have HG := hid G
  have hn8 := G.n8
  have HA := hid hA
  have E0 := hid e0
  have E1 := hid e1
  have E9 := hid e9
  have EY0 := hid ey0
  have EY1 := hid ey1
  have HT := hid h255
  have HFB := hid hfb
  have HG0 := hid g0
  have hfl := hA.len
  have hqr := h.qr
  clear e0 e1 e9 hcs ey0 ey1 h G hA h255 hfb
  go_enter Try.func20, Try.ntmps20
  go_wp2_with (go_at_call 37; refine (is_in H.out hk).mono ?_; rintro e w' ⟨rfl, rfl⟩)
  obtain ⟨w1, hw1, H1, HM1⟩ : ∃ w1, w1 = w.setCell ⟨rp, k * 13 + 4, none⟩ (.int .i64 (x0 + 1)) ∧ Hid (RC w1 q rp (some ⟨g, offA, none⟩) ac FP C (onP S k (fun P => P.inc 0))) ∧ Hid (Mod [rp] w w1) :=
    ⟨_, rfl, H.out.onp hk (show 4 < 13 by decide) (by decide) (x0 + 1) (fun P => P.inc 0) (by unfold Po.inc; rw [E0.out]; rfl), (Mod.refl _ _).setCell (.inl (by simp)) _⟩
  rw [← hw1]
  have c0 : w1.cell? ⟨q, 0, none⟩ = some (.slice (some ⟨rp, 0, none⟩) S.n S.n) := H1.out.c0
  have c1' := H1.out.c1
  have d0' := (H1.out.num (i := k) hk (show 0 < 13 by decide) (by decide))
  rw [onP_L, show ((S.L k).inc 0).c (rr 0) = (S.L k).c 9 from rfl, E9.out] at d0'
  simp only [Nat.add_zero] at d0'
  have d5' := (H1.out.num (i := k) hk (show 5 < 13 by decide) (by decide))
  rw [onP_L, show ((S.L k).inc 0).c (rr 5) = (S.L k).c 1 from rfl, E1.out] at d5'
  have f0 : w1.frozen? ⟨rp, k * 13, none⟩ = false := H1.out.rows.free (k * 13)
  have f5 := H1.out.rows.free (k * 13 + 5)
  have k0 := (HM1.out.cell (p := ⟨fb, off, none⟩) HFB.out (by simpa using hne)).trans g0
  have k1 := (HM1.out.cell (p := ⟨fb, off + 1, none⟩) HFB.out (by simpa using hne)).trans g1
  have ka1 := H1.out.at_ ha1
  rw [show (onP S (k : Int) (fun P => P.inc 0)).K = S.K from rfl] at ka1
  have fa1 := QRow.free H1.out.adr (offA + a1)
  have hgr : ¬ g = rp := fun e => H.out.ar (by simp [blkOf, e])
  have hgq : ¬ g = q := fun e => H.out.aq (by simp [blkOf, e])
  have hfg : ¬ fb = g := fun e => HA.out.out fb (by simp [blkOf]) (H.out.aF fb (by simp [blkOf, e]))
  have H3 : Hid (RC ((w1.setCell ⟨rp, k * 13, none⟩ (.int .i64 (x9 - fr.length))).setCell ⟨rp, k * 13 + 5, none⟩ (.int .i64 (x1 + 1))) q rp (some ⟨g, offA, none⟩) ac FP C (onP S k fun P => ((P.inc 0).set 9 (P.c 9 - fr.length)).inc 1)) := by
    have h2 := H1.out.onp (i := k) hk (show 0 < 13 by decide) (by decide) (x9 - fr.length) (fun P => P.set 9 (P.c 9 - fr.length)) (by rw [onP_L]; show ((S.L k).inc 0).set 9 ((S.L k).c 9 - fr.length) = _; rw [E9.out]; rfl)
    have h3 := h2.onp (i := k) hk (show 5 < 13 by decide) (by decide) (x1 + 1) (fun P => P.inc 1) (by rw [onP_L, onP_L]; unfold Po.inc; rw [show (((S.L k).set 0 ((S.L k).c 0 + 1)).set 9 (((S.L k).set 0 ((S.L k).c 0 + 1)).c 9 - fr.length)).c 1 = (S.L k).c 1 from rfl, E1.out]; rfl)
    rw [onP_onP, onP_onP] at h3
    exact h3
  have HM3 : Hid (Mod FP w ((w1.setCell ⟨rp, k * 13, none⟩ (.int .i64 (x9 - fr.length))).setCell ⟨rp, k * 13 + 5, none⟩ (.int .i64 (x1 + 1)))) :=
    ((HM1.out.mono (T := FP) fun t ht => .inl (by simp at ht; subst ht; exact H.out.rows.bpF)).setCell (.inl H.out.rows.bpF) _).setCell (.inl H.out.rows.bpF) _
  have HT5 := hid (show ∀ a, 0 ≤ (takeS S k fr).K a → 0 ≤ a ∧ a < 255 from fun a ha => by
    have e : (takeS S k fr).K = learn S.K a1 k := by simp only [takeS]; rw [EY1.out]
    rw [e] at ha
    by_cases hl : 0 ≤ S.K a1 ∨ cnt S.K < 64
    · rw [learn_yes hl] at ha
      by_cases hay : a = a1
      · have := HT.out; omega
      · simp only [hay, if_false] at ha
        exact HG.out.k255 a ha
    · rw [learn_no hl] at ha
      exact HG.out.k255 a ha)
  have HTK := hid (show takeS S k fr = { onP S (k : Int) (fun P => ((P.inc 0).set 9 (P.c 9 - fr.length)).inc 1) with K := learn S.K a1 k } by simp only [takeS]; rw [EY1.out])
  have HKN := hid (show ∀ a, (takeS S k fr).K a < S.n from fun a => by
    have e : (takeS S k fr).K = learn S.K a1 k := by simp only [takeS]; rw [EY1.out]
    rw [e]
    by_cases hl : 0 ≤ S.K a1 ∨ cnt S.K < 64
    · rw [learn_yes hl]
      by_cases hay : a = a1
      · simp only [hay, if_true]; omega
      · simp only [hay, if_false]
        exact (HG.out.kr a).2
    · rw [learn_no hl]
      exact (HG.out.kr a).2)
  clear hw1 c0 c1 d0 d4 d5 f4 g0 g1
  have c0 : w1.cell? ⟨q, 0, none⟩ = some (.slice (some ⟨rp, 0, none⟩) S.n S.n) := H1.out.c0
  have hgF : g ∈ FP := H.out.aF g (by simp [blkOf])
  have hcase : (0 ≤ S.K a1) ∨ (S.K a1 < 0 ∧ cnt S.K < 64) ∨ (S.K a1 < 0 ∧ 64 ≤ cnt S.K) := by omega
  obtain ⟨ka, hka⟩ : ∃ x, S.K a1 = x := ⟨_, rfl⟩
  obtain ⟨N, hN⟩ : ∃ x, cnt S.K = x := ⟨_, rfl⟩
  rw [hka] at hcase ka1
  rw [hN] at hcase
  have HKA := hid hka
  have HN := hid hN
  clear hka hN
  rcases hcase with hK | ⟨hK, hK2⟩ | ⟨hK, hK2⟩
  case' inl =>
    have HK := hid (show 0 ≤ S.K a1 ∨ cnt S.K < 64 from .inl (by rw [HKA.out]; exact hK))
  case' inr.inl =>
    have HK := hid (show 0 ≤ S.K a1 ∨ cnt S.K < 64 from .inr (by rw [HN.out]; exact hK2))
    have hK3 : (N : Int) < 64 := by omega
  case' inr.inr =>
    have HK := hid (show ¬ (0 ≤ S.K a1 ∨ cnt S.K < 64) by rw [HKA.out, HN.out]; omega)
    have hK3 : 64 ≤ (N : Int) := by omega
  all_goals
    go_still_tail 18, (by kernel_rfl)
    change wpList _ _ _ _ _ w1.drew
    go_upto_region 15 with (go_at_call 38; refine (rcnt_f (by first | exact H3.out | exact H3.out.drew)).mono ?_; rintro e w' ⟨rfl, rfl⟩; rw [show cnt (onP S (k : Int) fun P => ((P.inc 0).set 9 (P.c 9 - fr.length)).inc 1).K = N from HN.out])
    first
    | (obtain ⟨w5, hw5, H5, HS5⟩ : ∃ w5, w5 = (((w1.setCell ⟨rp, k * 13, none⟩ (.int .i64 (x9 - fr.length))).setCell ⟨rp, k * 13 + 5, none⟩ (.int .i64 (x1 + 1))).setCell ⟨g, offA + a1, none⟩ (.int .i64 k)).drew ∧ Hid (RC w5 q rp (some ⟨g, offA, none⟩) ac FP C (takeS S k fr)) ∧ Hid (Mod FP w w5) := by
        refine ⟨_, rfl, ?_, (HM3.out.setCell (.inl hgF) _).drew⟩
        have h4 := (H3.out.kput ha1 k).drew
        rw [HTK.out, learn_yes HK.out]
        exact h4
       rw [← hw5]
       clear hw5)
    | (obtain ⟨w5, hw5, H5, HS5⟩ : ∃ w5, w5 = ((w1.setCell ⟨rp, k * 13, none⟩ (.int .i64 (x9 - fr.length))).setCell ⟨rp, k * 13 + 5, none⟩ (.int .i64 (x1 + 1))).drew ∧ Hid (RC w5 q rp (some ⟨g, offA, none⟩) ac FP C (takeS S k fr)) ∧ Hid (Mod FP w w5) := by
        refine ⟨_, rfl, ?_, HM3.out.drew⟩
        have h4 := H3.out.drew
        rw [HTK.out, learn_no HK.out]
        exact h4
       rw [← hw5]
       clear hw5)
  all_goals
    clear c0 c1' d0' d5' f0 f5 k0 k1 ka1 fa1 H1 H3 HM1 HM3 hgr hgq hfg HK HTK hK HKA HN
    have c0 : w5.cell? ⟨q, 0, none⟩ = some (.slice (some ⟨rp, 0, none⟩) S.n S.n) := H5.out.c0
    have c1 := H5.out.c1
    have k0 : w5.cell? ⟨fb, off, none⟩ = some (.int .u8 a0) := (HS5.out.cell HFB.out (HA.out.out fb (by simp [blkOf]))).trans HG0.out
    have ka0 := H5.out.at_ ha0
    have HA5 := hid (HA.out.step (Step.of_mod HS5.out) (by omega))
    have HS5' := hid (Step.of_mod HS5.out)
    obtain ⟨d, hd⟩ : ∃ d, (takeS S k fr).K a0 = d := ⟨_, rfl⟩
    rw [hd] at ka0
    by_cases hD : 0 ≤ d
    case pos =>
      have h0 := HT5.out a0 (by rw [hd]; exact hD)
      have hdn := HKN.out a0
      rw [hd] at hdn
      have ht0 : ((a0 : Int) == 255) = false := by simp; omega
      have ht0' : ((a0 : Int) != 255) = true := by simp [bne, ht0]
      obtain ⟨dn, rfl⟩ := Int.eq_ofNat_of_zero_le hD
      have hdn' : dn < S.n := by omega
      have hto : ∀ i : Nat, isTo (takeS S k fr).K k fr i = (decide ((i : Int) ≠ k) && decide ((dn : Int) = (i : Int))) := fun j => by
        unfold isTo
        rw [EY0.out, hd]
        have hnd : ¬ ((dn : Int) < 0 ∨ (a0 : Int) = 255) := by omega
        simp [hnd]
      have HTO := hid hto
      have HD := hid hd
      clear hto hd
      by_cases hdk : dn = k
      case pos =>
        have ht1 : ((dn : Int) == (k : Int)) = true := by simp [hdk]
        have ht2 : ((dn : Int) != (k : Int)) = false := by simp [hdk]
        have HN := hid (show ∀ i : Nat, isTo (takeS S k fr).K k fr i = false from fun i => by rw [HTO.out, hdk]; simp; omega)
        clear hdk h0 hdn
        go_wp2
        go_ret
        exact ⟨rfl, FP, C, by rw [dirTo_none HN.out]; exact H5.out, HS5'.out⟩
      case neg =>
        have ht1 : ((dn : Int) == (k : Int)) = false := by simp; omega
        have ht2 : ((dn : Int) != (k : Int)) = true := by simp [bne, ht1]
        have HN := hid (show ∀ i : Nat, isTo (takeS S k fr).K k fr i = decide (i = dn) from fun i => by
          rw [HTO.out]
          by_cases e : i = dn
          · subst e; simp; omega
          · have : ¬ ((dn : Int) = (i : Int)) := by omega
            simp [e, this])
        have HL := hid (show (takeS S k fr).L dn = S.L dn by simp [takeS, onP, P14.upd, hdk])
        have HB4 := hid (show 0 ≤ ((takeS S k fr).L dn).c 4 ∧ ((takeS S k fr).L dn).c 4 ≤ M by rw [HL.out]; exact ⟨HG.out.lo dn 4 hdn', HG.out.hi dn 4 hdn'⟩)
        have HB8 := hid (show 0 ≤ ((takeS S k fr).L dn).c 8 ∧ ((takeS S k fr).L dn).c 8 ≤ M by rw [HL.out]; exact ⟨HG.out.lo dn 8 hdn', HG.out.hi dn 8 hdn'⟩)
        clear hdk h0 hdn
        go_wp2_with (go_at_call 39; refine (rdirect_f H5.out (by omega) hdn' HB4.out HB8.out HA5.out hl2 hl3).mono ?_; rintro e w6 ⟨rfl, h6⟩; have H6 := hid h6; clear h6)
        go_ret
        obtain ⟨FP6, C6, h6, s6⟩ := H6.out
        exact ⟨rfl, FP6, C6, by rw [dirTo_one hdn' HN.out]; exact h6, HS5'.out.trans s6⟩
    case neg =>
      have hto : ∀ j : Nat, isTo (takeS S k fr).K k fr j = decide ((j : Int) ≠ k) := fun j => by
        unfold isTo
        rw [EY0.out, hd]
        have hnd : (d < 0 ∨ (a0 : Int) = 255) := by omega
        simp [hnd]
      have HTO := hid hto
      have hd0 : d < 0 := by omega
      clear hto hd hD
      have h55 : (((a0 : Int) == 255) = true ∧ ((a0 : Int) != 255) = false) ∨ (((a0 : Int) == 255) = false ∧ ((a0 : Int) != 255) = true) := by
        by_cases h : (a0 : Int) = 255 <;> simp [h]
      rcases h55 with ⟨ht0, ht0'⟩ | ⟨ht0, ht0'⟩
      all_goals
        go_wp2
        go_loopw [9] (fun i wr => ∃ (j : Nat) (FPj : List Nat) (Cj : Nat → Option Addr × Nat), j ≤ S.n ∧ i = .int .i64 j ∧ Hid (RC wr q rp (some ⟨g, offA, none⟩) ac FPj Cj (dirTo (takeS S k fr) k fr j)) ∧ Hid (Step w wr FP FPj)) (fun i _ => S.n - (intOf i).toNat)
        case atStart => exact ⟨0, FP, C, Nat.zero_le _, rfl, by rw [dirTo_zero]; exact H5.out, HS5'.out⟩
        case round =>
          clear c0 c1 k0 ka0 H5 HS5 HS5' HA5
          obtain ⟨j, FPj, Cj, hj, rfl, hb, hs⟩ := hrel
          have c0 : wr.cell? ⟨q, 0, none⟩ = some (.slice (some ⟨rp, 0, none⟩) S.n S.n) := hb.out.c0
          by_cases hlt : j < S.n
          case neg =>
            have hjn : j = S.n := by omega
            have HE := hid (show RC wr q rp (some ⟨g, offA, none⟩) ac FPj Cj (dirTo (takeS S k fr) k fr S.n) by rw [← hjn]; exact hb.out)
            clear hjn
            go_wp2
            go_ret
            exact ⟨rfl, FPj, Cj, HE.out, hs.out⟩
          case pos =>
            by_cases hjk : j = k
            case pos =>
              have ht1 : ((j : Int) == (k : Int)) = true := by simp [hjk]
              have ht2 : ((j : Int) != (k : Int)) = false := by simp [hjk]
              have HE := hid (show dirTo (takeS S k fr) k fr (j + 1) = dirTo (takeS S k fr) k fr j from dirTo_skip (by rw [HTO.out, hjk]; simp))
              clear hjk
              go_wp2
              go_roundw
              case rel => exact ⟨j + 1, FPj, Cj, by omega, by go_num, by rw [HE.out]; exact hb.out, hs.out⟩
              case measure => simp [intOf]; omega
            case neg =>
              have ht1 : ((j : Int) == (k : Int)) = false := by simp; omega
              have ht2 : ((j : Int) != (k : Int)) = true := by simp [bne, ht1]
              have HE := hid (show dirTo (takeS S k fr) k fr (j + 1) = onP (dirTo (takeS S k fr) k fr j) j (fun P => dirP P fr) from dirTo_go (by rw [HTO.out]; simp; omega))
              have HL := hid (show (dirTo (takeS S k fr) k fr j).L j = S.L j by rw [dirTo_at]; simp [takeS, onP, P14.upd, hjk])
              have HB4 := hid (show 0 ≤ ((dirTo (takeS S k fr) k fr j).L j).c 4 ∧ ((dirTo (takeS S k fr) k fr j).L j).c 4 ≤ M by rw [HL.out]; exact ⟨HG.out.lo j 4 hlt, HG.out.hi j 4 hlt⟩)
              have HB8 := hid (show 0 ≤ ((dirTo (takeS S k fr) k fr j).L j).c 8 ∧ ((dirTo (takeS S k fr) k fr j).L j).c 8 ≤ M by rw [HL.out]; exact ⟨HG.out.lo j 8 hlt, HG.out.hi j 8 hlt⟩)
              have HAj := hid (HA.out.step hs.out (by omega))
              clear hjk
              go_wp2_with (go_at_call 39; refine (rdirect_f (k := j) hb.out (by omega) hlt HB4.out HB8.out HAj.out hl2 hl3).mono ?_; rintro e w6 ⟨rfl, h6⟩; have H6 := hid h6; clear h6)
              obtain ⟨FP6, C6, h6, s6⟩ := H6.out
              have HR6 := hid h6
              have HS6 := hid s6
              clear h6 s6 H6
              go_roundw
              case rel => exact ⟨j + 1, FP6, C6, by omega, by go_num, by rw [HE.out]; exact HR6.out, hs.out.trans HS6.out⟩
              case measure => simp [intOf]; omega
end

end Go.Proofs.Ytkdhkloabbcipaa
