/-
  Layer 14, bridge.Bridge: Send of a frame that is forwarded.
-/
import Derived.Test.YtfolppcadckmaaaGreatEa
set_option maxRecDepth 100000
namespace Go.Proofs.YtfolppcadckmaaaGreat.Br
open Go.RowKit Go.Tn Go.Tn.P14
attribute [local go_sem] look57 nilM len57 upd57

section
variable {w w' : World} {p bp bk : Nat} {FP FP' : List Nat} {C : Nat → Option Addr × Nat} {S : St} {A : Option Addr} {cf : Nat} {fr : List Int}

def headF (fr : List Int) (P : Po) : Po := ((P.inc 0).set 9 (P.c 9 - fr.length)).inc 1

set_option maxRecDepth 100000 in
set_option maxHeartbeats 4000000 in
/-- A frame that is forwarded. -/
theorem send_on (h : BM w p bp bk FP C S) {M : Int} (G : Ok S M) (hM : M ≤ 1152921504606846976) (hA : Arg w A fr FP) {k : Nat} (hk : k < S.n) (hl2 : 2 ≤ fr.length) (hl3 : fr.length ≤ 128) (h255 : fAt fr 1 ≠ 255) (hcr : (fr.length : Int) ≤ (S.L k).c 9) :
    Calls Tryz.prog 69 #[.pointer (some ⟨p, 0, none⟩), .int .i64 k, .slice A fr.length cf] w fun e w' => e = .returned (.int .i64 0) ∧ Aft w w' p bp bk FP (dirTo (takeS S k fr) k fr S.n) := by
  have d0 := h.num hk (show 0 < 12 by decide)
  have d1 := h.num hk (show 1 < 12 by decide)
  have d9 := h.num hk (show 9 < 12 by decide)
  have f0 := h.rows.free (k * 13 + 0)
  have f1 := h.rows.free (k * 13 + 1)
  have f9 := h.rows.free (k * 13 + 9)
  have hn8 := G.n8
  have l0 := G.lo k 0 hk
  have m0 := G.hi k 0 hk
  have l1 := G.lo k 1 hk
  have m1 := G.hi k 1 hk
  have l9 := G.lo k 9 hk
  have m9 := G.cr k 9 hk (by decide)
  obtain ⟨x0, e0⟩ : ∃ x, (S.L k).c 0 = x := ⟨_, rfl⟩
  obtain ⟨x1, e1⟩ : ∃ x, (S.L k).c 1 = x := ⟨_, rfl⟩
  obtain ⟨x9, e9⟩ : ∃ x, (S.L k).c 9 = x := ⟨_, rfl⟩
  rw [e0] at d0 l0 m0
  rw [e1] at d1 l1 m1
  rw [e9] at d9 l9 m9 hcr
  simp only [Nat.add_zero] at d0 f0
  obtain ⟨fb, off, rfl, hfb, hcs⟩ := hA.by_.2 (by omega)
  have g0 := hcs 0 _ (fAt_get (by omega))
  have g1 := hcs 1 _ (fAt_get (by omega))
  have r0 := fAt_rng hA.by_.1 (i := 0) (by omega)
  have r1 := fAt_rng hA.by_.1 (i := 1) (by omega)
  obtain ⟨y0, ey0⟩ : ∃ y, fAt fr 0 = y := ⟨_, rfl⟩
  obtain ⟨y1, ey1⟩ : ∃ y, fAt fr 1 = y := ⟨_, rfl⟩
  rw [ey0] at g0 r0
  rw [ey1] at g1 r1 h255
  obtain ⟨r0, r0'⟩ := r0
  obtain ⟨r1, r1'⟩ := r1
  simp only [Nat.add_zero] at g0
  have hne : ¬ fb = bp := fun e => hA.out fb (by simp [blkOf]) (e ▸ h.rows.bpF)
  have ht : (y1 == 255) = false := by simpa using h255
  have HT := hid h255
  have H3 : Hid (BM (((w.setCell ⟨bp, k * 13, none⟩ (.int .i64 (x0 + 1))).setCell ⟨bp, k * 13 + 9, none⟩ (.int .i64 (x9 - fr.length))).setCell ⟨bp, k * 13 + 1, none⟩ (.int .i64 (x1 + 1))) p bp bk FP C (onP S k (headF fr))) := by
    have h1 := h.onp hk (show 0 < 12 by decide) (x0 + 1) (fun P => P.inc 0) (by unfold Po.inc; rw [e0])
    have h2 := h1.onp (i := k) hk (show 9 < 12 by decide) (x9 - fr.length) (fun P => P.set 9 (P.c 9 - fr.length)) (by rw [onP_L]; simp only [inc_c]; rw [if_neg (by decide), e9])
    have h3 := h2.onp (i := k) hk (show 1 < 12 by decide) (x1 + 1) (fun P => P.inc 1) (by rw [onP_L, onP_L]; simp [Po.inc, Po.set, e1])
    rw [onP_onP, onP_onP] at h3
    exact h3
  have HM3 : Hid (Mod [bp] w (((w.setCell ⟨bp, k * 13, none⟩ (.int .i64 (x0 + 1))).setCell ⟨bp, k * 13 + 9, none⟩ (.int .i64 (x9 - fr.length))).setCell ⟨bp, k * 13 + 1, none⟩ (.int .i64 (x1 + 1)))) :=
    (((Mod.refl _ _).setCell (.inl (by simp)) _).setCell (.inl (by simp)) _).setCell (.inl (by simp)) _
  have HCS := hid hcs
  have HG0 := hid g0
  have hT5 : ∀ a, 0 ≤ (takeS S k fr).K a → 0 ≤ a ∧ a < 255 := fun a ha => by
    have e : (takeS S k fr).K = learn S.K y1 k := by simp only [takeS]; rw [ey1]
    rw [e] at ha
    by_cases hl : 0 ≤ S.K y1 ∨ cnt S.K < 64
    · rw [learn_yes hl] at ha
      by_cases hay : a = y1
      · omega
      · simp only [hay, if_false] at ha
        exact G.k255 a ha
    · rw [learn_no hl] at ha
      exact G.k255 a ha
  have HT5 := hid hT5
  clear hT5
  have EY0 := hid ey0
  have EY1 := hid ey1
  have H := hid h
  have HG := hid G
  have HA := hid hA
  have hfl := hA.len
  clear e0 e1 e9 hcs ey0 ey1 h G hA h255
  obtain ⟨i5, hi5, hz0, hz1, hz2⟩ := info_parts info5
  go_enter Tryz.func69, Tryz.ntmps69
  go_wp2
  go_step3
  go_wp2_with (go_at_call 37; refine (at_in H.out hk).mono ?_; rintro e w' ⟨rfl, rfl⟩)
  generalize (((w.setCell ⟨bp, k * 13, none⟩ (.int .i64 (x0 + 1))).setCell ⟨bp, k * 13 + 9, none⟩ (.int .i64 (x9 - fr.length))).setCell ⟨bp, k * 13 + 1, none⟩ (.int .i64 (x1 + 1))) = w3 at *
  have hbp : bp ∈ FP := H.out.rows.bpF
  have c0 : w3.cell? ⟨p, 0, none⟩ = some (.slice (some ⟨bp, 0, none⟩) S.n S.n) := H3.out.c0
  have c1 := H3.out.c1
  have k0 : w3.cell? ⟨fb, off, none⟩ = some (.int .u8 y0) := (HM3.out.cell hfb (by simpa using hne)).trans g0
  have k1 : w3.cell? ⟨fb, off + 1, none⟩ = some (.int .u8 y1) := (HM3.out.cell hfb (by simpa using hne)).trans g1
  have km := H3.out.isM
  have kl := H3.out.len
  have kg := hid H3.out.get
  clear d0 d1 d9 f0 f1 f9 g0 g1 hbp
  have hcase : (0 ≤ S.K y1) ∨ (S.K y1 < 0 ∧ cnt S.K < 64) ∨ (S.K y1 < 0 ∧ 64 ≤ cnt S.K) := by omega
  have hTK : (takeS S k fr).K = learn S.K y1 k := by simp only [takeS]; rw [EY1.out]
  have hT0 : { onP S (k : Int) (headF fr) with K := learn (onP S (k : Int) (headF fr)).K y1 k } = takeS S k fr := by simp only [takeS]; rw [EY1.out]; rfl
  have HT0 := hid hT0
  clear hT0
  rcases hcase with hK | ⟨hK, hK2⟩ | ⟨hK, hK2⟩
  case' inl =>
    have km1 : mget w3 bk y1 = some (.int .i64 (S.K y1)) := by rw [kg.out]; exact if_pos hK
    have HK := hid (show 0 ≤ S.K y1 ∨ cnt S.K < 64 from .inl hK)
    go_quiet (fail)
    go_wp2
  case' inr.inl =>
    have km1 : mget w3 bk y1 = none := by rw [kg.out]; exact if_neg (by have : (onP S (k : Int) (headF fr)).K y1 = S.K y1 := rfl; omega)
    have HK := hid (show 0 ≤ S.K y1 ∨ cnt S.K < 64 from .inr hK2)
    have kl' : (mlen w3 bk : Int) < 64 := by rw [kl]; exact_mod_cast hK2
    go_quiet (fail)
    go_wp2
  case' inr.inr =>
    have km1 : mget w3 bk y1 = none := by rw [kg.out]; exact if_neg (by have : (onP S (k : Int) (headF fr)).K y1 = S.K y1 := rfl; omega)
    have kl' : 64 ≤ (mlen w3 bk : Int) := by rw [kl]; exact_mod_cast hK2
    have HK := hid (show ¬ (0 ≤ S.K y1 ∨ cnt S.K < 64) by omega)
    go_quiet (fail)
    go_wp2
    obtain ⟨w5, hw5, H5, HS5⟩ : ∃ w5, w5 = w3.drewN nq ∧ Hid (BM w5 p bp bk FP C (takeS S k fr)) ∧ Hid (Mod FP w w5) := by
      refine ⟨_, rfl, ?_, ?_⟩
      · have := H3.out.drewN nq
        have e : learn (onP S (k : Int) (headF fr)).K y1 k = (onP S (k : Int) (headF fr)).K := learn_no HK.out
        rw [← HT0.out, e]
        exact this
      · exact (HM3.out.drewN nq).mono fun t ht => .inl (by simp at ht; subst ht; exact H.out.rows.bpF)
    rw [← hw5]
    clear hw5 km1 kl'
  case' inl | inr.inl =>
    obtain ⟨w4, hw4, k0, k1, c0, c1, km⟩ : ∃ w4, w4 = w3.drewN nq ∧ w4.cell? ⟨fb, off, none⟩ = some (.int .u8 y0) ∧ w4.cell? ⟨fb, off + 1, none⟩ = some (.int .u8 y1) ∧ w4.cell? ⟨p, 0, none⟩ = some (.slice (some ⟨bp, 0, none⟩) S.n S.n) ∧ w4.cell? ⟨p, 1, none⟩ = some (.map (some bk)) ∧ IsM w4 bk := ⟨_, rfl, k0, k1, c0, c1, isM_drewN _ _ _ |>.2 km⟩
    rw [← hw4]
    have HW4 := hid hw4
    clear hw4
    go_still_tail 9, (by kernel_rfl)
    change wpList _ _ _ _ _ w4.drew
    go_wp2
    obtain ⟨w5, hw5, H5, HS5⟩ : ∃ w5, w5 = (mput w4 bk y1 (.int .i64 k)).drew ∧ Hid (BM w5 p bp bk FP C (takeS S k fr)) ∧ Hid (Mod FP w w5) := by
      refine ⟨_, rfl, ?_, ?_⟩
      · have := (H3.out.drewN nq).kput (y := y1) (v := k) HK.out r1 (by omega) (by omega)
        rw [HT0.out, ← HW4.out] at this
        exact this.drew
      · have := ((HM3.out.drewN nq).mono (T := FP) fun t ht => .inl (by simp at ht; subst ht; exact H.out.rows.bpF)).mput (.inl H.out.kF) y1 (.int .i64 k)
        rw [← HW4.out] at this
        exact this.drew
    rw [← hw5]
    clear hw5 km1 w4 k0 k1 c0 c1 km HW4
  case' inl => clear hK
  case' inr.inl => clear kl' hK hK2
  case' inr.inr => clear c0 c1 k0 k1 km hK hK2
  all_goals
    clear kl kg H3 HM3 HT0 HK hTK
    have c0 : w5.cell? ⟨p, 0, none⟩ = some (.slice (some ⟨bp, 0, none⟩) S.n S.n) := H5.out.c0
    have c1 := H5.out.c1
    have km := H5.out.isM
    have k0 : w5.cell? ⟨fb, off, none⟩ = some (.int .u8 y0) := (HS5.out.cell hfb (HA.out.out fb (by simp [blkOf]))).trans HG0.out
    obtain ⟨d, hd⟩ : ∃ d, (takeS S k fr).K y0 = d := ⟨_, rfl⟩
    by_cases hD : 0 ≤ d
    case pos =>
      have km1 : mget w5 bk y0 = some (.int .i64 d) := by rw [H5.out.get, hd, if_pos hD]
      have h0 := HT5.out y0 (by rw [hd]; exact hD)
      have ht0 : (y0 == 255) = false := by simp; omega
      have ht0' : (y0 != 255) = true := by simp [bne, ht0]
      have hto : ∀ j : Nat, isTo (takeS S k fr).K k fr j = (decide ((j : Int) ≠ k) && decide (d = (j : Int))) := fun j => by
        unfold isTo
        rw [EY0.out, hd]
        have hnd : ¬ (d < 0 ∨ y0 = 255) := by omega
        simp [hnd]
      have HTO := hid hto
      clear hto hd hD h0
      go_quiet (fail)
      go_wp2
      go_step3
      go_wp2
      go_loopw [146] (fun i wr => ∃ (j : Nat) (FPj : List Nat) (Cj : Nat → Option Addr × Nat), j ≤ S.n ∧ i = .int .i64 j ∧ Hid (BM wr p bp bk FPj Cj (dirTo (takeS S k fr) k fr j)) ∧ Hid (Step w wr FP FPj)) (fun i _ => S.n - (intOf i).toNat)
      case atStart => exact ⟨0, FP, C, Nat.zero_le _, rfl, by rw [dirTo_zero]; exact H5.out.drewN _, Step.of_mod (HS5.out.drewN _)⟩
      case round =>
        clear c0 c1 k0 km km1 H5 HS5 w5
        obtain ⟨j, FPj, Cj, hj, rfl, hb, hs⟩ := hrel
        have c0 : wr.cell? ⟨p, 0, none⟩ = some (.slice (some ⟨bp, 0, none⟩) S.n S.n) := hb.out.c0
        by_cases hlt : j < S.n
        case neg =>
          have hjn : j = S.n := by omega
          have HE := hid (show BM wr p bp bk FPj Cj (dirTo (takeS S k fr) k fr S.n) by rw [← hjn]; exact hb.out)
          clear hjn
          go_wp2
          try rw [Exit.noGoto_ret]
          go_ret
          exact ⟨rfl, _, _, HE.out, hs.out⟩
        case pos =>
          by_cases hjk : j = k
          case pos =>
            have ht1 : ((j : Int) == (k : Int)) = true := by simp [hjk]
            have HE := hid (show dirTo (takeS S k fr) k fr (j + 1) = dirTo (takeS S k fr) k fr j from dirTo_skip (by rw [HTO.out, hjk]; simp))
            clear hjk
            go_wp2
            go_roundw
            case rel => exact ⟨j + 1, FPj, Cj, by omega, by go_num, by rw [HE.out]; exact hb.out, hs.out⟩
            case measure => simp [intOf]; omega
          case neg =>
            have ht1 : ((j : Int) == (k : Int)) = false := by simp; omega
            by_cases hjd : d = (j : Int)
            case neg =>
              have ht2 : ((j : Int) == d) = false := by simp; omega
              have ht3 : ((j : Int) != d) = true := by simp [bne, ht2]
              have HE := hid (show dirTo (takeS S k fr) k fr (j + 1) = dirTo (takeS S k fr) k fr j from dirTo_skip (by rw [HTO.out]; simp [hjd]))
              clear hjk hjd
              go_wp2
              go_roundw
              case rel => exact ⟨j + 1, FPj, Cj, by omega, by go_num, by rw [HE.out]; exact hb.out, hs.out⟩
              case measure => simp [intOf]; omega
            case pos =>
              have ht2 : ((j : Int) == d) = true := by simp; omega
              have ht3 : ((j : Int) != d) = false := by simp [bne, ht2]
              have HE := hid (show dirTo (takeS S k fr) k fr (j + 1) = onP (dirTo (takeS S k fr) k fr j) j (fun P => dirP P fr) from dirTo_go (by rw [HTO.out]; simp [hjd]; omega))
              clear hjd
              have hne2 : (takeS S k fr).L j = S.L j := upd_ne _ _ (by simpa using hjk)
              obtain ⟨x4, e4⟩ : ∃ x, (S.L j).c 4 = x := ⟨_, rfl⟩
              obtain ⟨x8, e8⟩ : ∃ x, (S.L j).c 8 = x := ⟨_, rfl⟩
              obtain ⟨qn, hqn⟩ : ∃ n, (S.L j).q.length = n := ⟨_, rfl⟩
              have hat : (dirTo (takeS S k fr) k fr j).L j = S.L j := (dirTo_at _ _ _ _).trans hne2
              have d4 : wr.cell? ⟨bp, j * 13 + 4, none⟩ = some (.int .i64 x4) := by
                have := hb.out.num (i := j) hlt (show 4 < 12 by decide)
                rw [hat, e4] at this
                exact this
              have f4 := hb.out.rows.free (j * 13 + 4)
              have b4 := HG.out.hi j 4 hlt
              have a4 := HG.out.lo j 4 hlt
              have b8 := HG.out.hi j 8 hlt
              have a8 := HG.out.lo j 8 hlt
              rw [e4] at a4 b4
              rw [e8] at a8 b8
              have E4 := hid e4
              have E8 := hid e8
              have HQN := hid hqn
              have HAT := hid hat
              clear hjk e4 e8 hqn hat hne2
              go_wp2_with fail
              obtain ⟨w7, hw7, H7, HS7, HN⟩ : ∃ w7, w7 = wr.setCell ⟨bp, j * 13 + 4, none⟩ (.int .i64 (x4 + 1)) ∧ Hid (BM w7 p bp bk FPj Cj (onP (dirTo (takeS S k fr) k fr j) j (fun P => P.inc 4))) ∧ Hid (Step w w7 FP FPj) ∧
                  Hid (∀ w' : World, w'.heap = w7.heap → ∀ i u, (bytesV fr)[i]? = some u → w'.cell? ((⟨fb, off, none⟩ : Addr).add i) = some u) := by
                refine ⟨_, rfl, hb.out.onp (i := j) hlt (show 4 < 12 by decide) (x4 + 1) (fun P => P.inc 4) (by unfold Po.inc; rw [HAT.out, E4.out]), hs.out.trans (Step.of_mod ((Mod.refl _ _).setCell (.inl hb.out.rows.bpF) _)), fun w' hw' i u hu => ?_⟩
                have hnf := HA.out.out fb (by simp [blkOf])
                have hfw : fb < wr.heap.size := Nat.lt_of_lt_of_le hfb hs.out.mod.size
                obtain ⟨y, hy, rfl⟩ : ∃ y, fr[i]? = some y ∧ u = .int .u8 y := by
                  simp only [bytesV, List.getElem?_map, Option.map_eq_some_iff] at hu
                  obtain ⟨y, hy, e⟩ := hu
                  exact ⟨y, hy, e.symm⟩
                rw [add_none]
                have h1 := HCS.out i y hy
                have h2 : wr.cell? ⟨fb, off + i, none⟩ = some (.int .u8 y) := (hs.out.mod.cell hfb hnf).trans h1
                have h3 : (wr.setCell ⟨bp, j * 13 + 4, none⟩ (.int .i64 (x4 + 1))).cell? ⟨fb, off + i, none⟩ = some (.int .u8 y) := by
                  rw [World.cell?_of_block (w := wr) (Below.heap_setCell wr _ _ fb hne)]
                  exact h2
                rw [← h3]
                simp only [World.cell?, hw']
              rw [← hw7]
              clear hw7 d4 f4
              by_cases hq4 : 4 ≤ qn
              case' pos =>
                have hres := hid (show decide (((onP (dirTo (takeS S k fr) k fr j) j (fun P => P.inc 4)).L j).q.length < 4) = false by rw [onP_L, inc_q, HAT.out, HQN.out]; simp; omega)
                have hif := hid (show 4 ≤ ((onP (dirTo (takeS S k fr) k fr j) j (fun P => P.inc 4)).L j).q.length by rw [onP_L, inc_q, HAT.out, HQN.out]; omega)
              case' neg =>
                have hres := hid (show decide (((onP (dirTo (takeS S k fr) k fr j) j (fun P => P.inc 4)).L j).q.length < 4) = true by rw [onP_L, inc_q, HAT.out, HQN.out]; simp; omega)
                have hif := hid (show ¬ 4 ≤ ((onP (dirTo (takeS S k fr) k fr j) j (fun P => P.inc 4)).L j).q.length by rw [onP_L, inc_q, HAT.out, HQN.out]; omega)
              all_goals
                go_region_held3 (fun _ => True) (trivial) (first
                  | (refine step_append_lies _ (by rfl) _ _ _ (by rfl) 0 5 i5 _ 1 1 Tryz.underlying22 hi5 hz0 hz1 hz2 rfl (by omega) (.slice none 0 0) 0 [] (by rfl) (World.ownsRow_nil _ 0 5 1) ⟨fb, off, none⟩ fr.length cf (bytesV fr) (by rfl) (by simp [bytesV_len]) (HN.out _ rfl) (bytesV_one fr) (by omega) (by unfold maxLen; omega) (by omega) (by simp) w7.heap.size (by rfl) ?_
                     intro g8 cap8 w8 hown8 hgrow8 hat8 hlt8
                     have h8 := new_frame (fr := fr) H7.out.drew (by simpa using hown8) hgrow8 hat8 hlt8
                     obtain ⟨h8a, ⟨cs8, h8b, h8c⟩, h8d⟩ := h8
                     have H8 := hid h8a
                     have HB8 := hid h8b
                     have HC8 := hid h8c
                     have HS8 := hid h8d
                     clear h8a h8b h8c h8d hown8 hgrow8 hat8 hlt8)
                  | (go_at_call 81; refine (put_f H8.out hlt (fr := fr) List.mem_cons_self HB8.out HC8.out).mono ?_; rintro e w9 ⟨rfl, h9⟩; rw [hres.out]; have H9 := hid h9; clear h9))
              case' pos =>
                obtain ⟨FP9, C9, h9, s9⟩ := H9.out
                rw [if_pos hif.out] at h9
                have d8 : w9.cell? ⟨bp, j * 13 + 8, none⟩ = some (.int .i64 x8) := by
                  have := h9.num (i := j) hlt (show 8 < 12 by decide)
                  rw [onP_L, inc_c, if_neg (by decide), HAT.out, E8.out] at this
                  exact this
                have f8 := h9.rows.free (j * 13 + 8)
                have HX := hid (show BM (w9.setCell ⟨bp, j * 13 + 8, none⟩ (.int .i64 (x8 + 1))) p bp bk FP9 C9 (dirTo (takeS S k fr) k fr (j + 1)) by
                  have := h9.onp (i := j) hlt (show 8 < 12 by decide) (x8 + 1) (fun P => P.inc 8) (by rw [onP_L, HAT.out]; unfold Po.inc; simp only [set_c]; rw [if_neg (by decide), E8.out])
                  rw [onP_onP] at this
                  rw [HE.out, onP_congr (g := fun P => (P.inc 4).inc 8) (by rw [HAT.out]; unfold dirP; rw [if_pos (by rw [HQN.out]; exact hq4)])]
                  exact this)
                have HS := hid (((HS7.out.trans (Step.of_mod (Mod.refl _ w7).drew)).trans (HS8.out.trans s9)).trans (Step.of_mod ((Mod.refl FP9 w9).setCell (p := ⟨bp, j * 13 + 8, none⟩) (.inl h9.rows.bpF) (.int .i64 (x8 + 1)))))
                clear h9 s9 H9
                go_wp2
                go_roundw
                case' rel => exact ⟨j + 1, FP9, C9, by omega, by go_num, HX, HS⟩
                case' measure => simp [intOf]; omega
              case' neg =>
                obtain ⟨FP9, C9, h9, s9⟩ := H9.out
                rw [if_neg hif.out] at h9
                have HX := hid (show BM w9 p bp bk FP9 C9 (dirTo (takeS S k fr) k fr (j + 1)) by
                  rw [onP_onP] at h9
                  rw [HE.out, onP_congr (g := fun P => (P.inc 4).setq (P.q ++ [fr])) (by rw [HAT.out]; unfold dirP; rw [if_neg (by rw [HQN.out]; exact hq4)])]
                  exact h9)
                have HS := hid ((HS7.out.trans (Step.of_mod (Mod.refl _ w7).drew)).trans (HS8.out.trans s9))
                clear h9 s9 H9
                go_wp2
                go_roundw
                case' rel => exact ⟨j + 1, FP9, C9, by omega, by go_num, HX, HS⟩
                case' measure => simp [intOf]; omega
    case neg =>
      have km1 : mget w5 bk y0 = none := by rw [H5.out.get, hd, if_neg hD]
      have hto : ∀ j : Nat, isTo (takeS S k fr).K k fr j = decide ((j : Int) ≠ k) := fun j => by
        unfold isTo
        rw [EY0.out, hd]
        have hnd : (d < 0 ∨ y0 = 255) := by omega
        simp [hnd]
      have HTO := hid hto
      clear hto hd hD
      go_quiet (fail)
      go_wp2
      go_step3
      go_wp2
      go_loopw [146] (fun i wr => ∃ (j : Nat) (FPj : List Nat) (Cj : Nat → Option Addr × Nat), j ≤ S.n ∧ i = .int .i64 j ∧ Hid (BM wr p bp bk FPj Cj (dirTo (takeS S k fr) k fr j)) ∧ Hid (Step w wr FP FPj)) (fun i _ => S.n - (intOf i).toNat)
      case atStart => exact ⟨0, FP, C, Nat.zero_le _, rfl, by rw [dirTo_zero]; exact H5.out.drewN _, Step.of_mod (HS5.out.drewN _)⟩
      case round =>
        clear c0 c1 k0 km km1 H5 HS5 w5
        obtain ⟨j, FPj, Cj, hj, rfl, hb, hs⟩ := hrel
        have c0 : wr.cell? ⟨p, 0, none⟩ = some (.slice (some ⟨bp, 0, none⟩) S.n S.n) := hb.out.c0
        by_cases hlt : j < S.n
        case neg =>
          have hjn : j = S.n := by omega
          have HE := hid (show BM wr p bp bk FPj Cj (dirTo (takeS S k fr) k fr S.n) by rw [← hjn]; exact hb.out)
          clear hjn
          go_wp2
          try rw [Exit.noGoto_ret]
          go_ret
          exact ⟨rfl, _, _, HE.out, hs.out⟩
        case pos =>
          by_cases hjk : j = k
          case pos =>
            have ht1 : ((j : Int) == (k : Int)) = true := by simp [hjk]
            have HE := hid (show dirTo (takeS S k fr) k fr (j + 1) = dirTo (takeS S k fr) k fr j from dirTo_skip (by rw [HTO.out, hjk]; simp))
            clear hjk
            go_wp2
            go_roundw
            case rel => exact ⟨j + 1, FPj, Cj, by omega, by go_num, by rw [HE.out]; exact hb.out, hs.out⟩
            case measure => simp [intOf]; omega
          case neg =>
            have ht1 : ((j : Int) == (k : Int)) = false := by simp; omega
            have HE := hid (show dirTo (takeS S k fr) k fr (j + 1) = onP (dirTo (takeS S k fr) k fr j) j (fun P => dirP P fr) from dirTo_go (by rw [HTO.out]; simp; omega))

            have hne2 : (takeS S k fr).L j = S.L j := upd_ne _ _ (by simpa using hjk)
            obtain ⟨x4, e4⟩ : ∃ x, (S.L j).c 4 = x := ⟨_, rfl⟩
            obtain ⟨x8, e8⟩ : ∃ x, (S.L j).c 8 = x := ⟨_, rfl⟩
            obtain ⟨qn, hqn⟩ : ∃ n, (S.L j).q.length = n := ⟨_, rfl⟩
            have hat : (dirTo (takeS S k fr) k fr j).L j = S.L j := (dirTo_at _ _ _ _).trans hne2
            have d4 : wr.cell? ⟨bp, j * 13 + 4, none⟩ = some (.int .i64 x4) := by
              have := hb.out.num (i := j) hlt (show 4 < 12 by decide)
              rw [hat, e4] at this
              exact this
            have f4 := hb.out.rows.free (j * 13 + 4)
            have b4 := HG.out.hi j 4 hlt
            have a4 := HG.out.lo j 4 hlt
            have b8 := HG.out.hi j 8 hlt
            have a8 := HG.out.lo j 8 hlt
            rw [e4] at a4 b4
            rw [e8] at a8 b8
            have E4 := hid e4
            have E8 := hid e8
            have HQN := hid hqn
            have HAT := hid hat
            clear hjk e4 e8 hqn hat hne2
            go_wp2_with fail
            obtain ⟨w7, hw7, H7, HS7, HN⟩ : ∃ w7, w7 = wr.setCell ⟨bp, j * 13 + 4, none⟩ (.int .i64 (x4 + 1)) ∧ Hid (BM w7 p bp bk FPj Cj (onP (dirTo (takeS S k fr) k fr j) j (fun P => P.inc 4))) ∧ Hid (Step w w7 FP FPj) ∧
                Hid (∀ w' : World, w'.heap = w7.heap → ∀ i u, (bytesV fr)[i]? = some u → w'.cell? ((⟨fb, off, none⟩ : Addr).add i) = some u) := by
              refine ⟨_, rfl, hb.out.onp (i := j) hlt (show 4 < 12 by decide) (x4 + 1) (fun P => P.inc 4) (by unfold Po.inc; rw [HAT.out, E4.out]), hs.out.trans (Step.of_mod ((Mod.refl _ _).setCell (.inl hb.out.rows.bpF) _)), fun w' hw' i u hu => ?_⟩
              have hnf := HA.out.out fb (by simp [blkOf])
              have hfw : fb < wr.heap.size := Nat.lt_of_lt_of_le hfb hs.out.mod.size
              obtain ⟨y, hy, rfl⟩ : ∃ y, fr[i]? = some y ∧ u = .int .u8 y := by
                simp only [bytesV, List.getElem?_map, Option.map_eq_some_iff] at hu
                obtain ⟨y, hy, e⟩ := hu
                exact ⟨y, hy, e.symm⟩
              rw [add_none]
              have h1 := HCS.out i y hy
              have h2 : wr.cell? ⟨fb, off + i, none⟩ = some (.int .u8 y) := (hs.out.mod.cell hfb hnf).trans h1
              have h3 : (wr.setCell ⟨bp, j * 13 + 4, none⟩ (.int .i64 (x4 + 1))).cell? ⟨fb, off + i, none⟩ = some (.int .u8 y) := by
                rw [World.cell?_of_block (w := wr) (Below.heap_setCell wr _ _ fb hne)]
                exact h2
              rw [← h3]
              simp only [World.cell?, hw']
            rw [← hw7]
            clear hw7 d4 f4
            by_cases hq4 : 4 ≤ qn
            case' pos =>
              have hres := hid (show decide (((onP (dirTo (takeS S k fr) k fr j) j (fun P => P.inc 4)).L j).q.length < 4) = false by rw [onP_L, inc_q, HAT.out, HQN.out]; simp; omega)
              have hif := hid (show 4 ≤ ((onP (dirTo (takeS S k fr) k fr j) j (fun P => P.inc 4)).L j).q.length by rw [onP_L, inc_q, HAT.out, HQN.out]; omega)
            case' neg =>
              have hres := hid (show decide (((onP (dirTo (takeS S k fr) k fr j) j (fun P => P.inc 4)).L j).q.length < 4) = true by rw [onP_L, inc_q, HAT.out, HQN.out]; simp; omega)
              have hif := hid (show ¬ 4 ≤ ((onP (dirTo (takeS S k fr) k fr j) j (fun P => P.inc 4)).L j).q.length by rw [onP_L, inc_q, HAT.out, HQN.out]; omega)
            all_goals
              go_region_held3 (fun _ => True) (trivial) (first
                | (refine step_append_lies _ (by rfl) _ _ _ (by rfl) 0 5 i5 _ 1 1 Tryz.underlying22 hi5 hz0 hz1 hz2 rfl (by omega) (.slice none 0 0) 0 [] (by rfl) (World.ownsRow_nil _ 0 5 1) ⟨fb, off, none⟩ fr.length cf (bytesV fr) (by rfl) (by simp [bytesV_len]) (HN.out _ rfl) (bytesV_one fr) (by omega) (by unfold maxLen; omega) (by omega) (by simp) w7.heap.size (by rfl) ?_
                   intro g8 cap8 w8 hown8 hgrow8 hat8 hlt8
                   have h8 := new_frame (fr := fr) H7.out.drew (by simpa using hown8) hgrow8 hat8 hlt8
                   obtain ⟨h8a, ⟨cs8, h8b, h8c⟩, h8d⟩ := h8
                   have H8 := hid h8a
                   have HB8 := hid h8b
                   have HC8 := hid h8c
                   have HS8 := hid h8d
                   clear h8a h8b h8c h8d hown8 hgrow8 hat8 hlt8)
                | (go_at_call 81; refine (put_f H8.out hlt (fr := fr) List.mem_cons_self HB8.out HC8.out).mono ?_; rintro e w9 ⟨rfl, h9⟩; rw [hres.out]; have H9 := hid h9; clear h9))
            case' pos =>
              obtain ⟨FP9, C9, h9, s9⟩ := H9.out
              rw [if_pos hif.out] at h9
              have d8 : w9.cell? ⟨bp, j * 13 + 8, none⟩ = some (.int .i64 x8) := by
                have := h9.num (i := j) hlt (show 8 < 12 by decide)
                rw [onP_L, inc_c, if_neg (by decide), HAT.out, E8.out] at this
                exact this
              have f8 := h9.rows.free (j * 13 + 8)
              have HX := hid (show BM (w9.setCell ⟨bp, j * 13 + 8, none⟩ (.int .i64 (x8 + 1))) p bp bk FP9 C9 (dirTo (takeS S k fr) k fr (j + 1)) by
                have := h9.onp (i := j) hlt (show 8 < 12 by decide) (x8 + 1) (fun P => P.inc 8) (by rw [onP_L, HAT.out]; unfold Po.inc; simp only [set_c]; rw [if_neg (by decide), E8.out])
                rw [onP_onP] at this
                rw [HE.out, onP_congr (g := fun P => (P.inc 4).inc 8) (by rw [HAT.out]; unfold dirP; rw [if_pos (by rw [HQN.out]; exact hq4)])]
                exact this)
              have HS := hid (((HS7.out.trans (Step.of_mod (Mod.refl _ w7).drew)).trans (HS8.out.trans s9)).trans (Step.of_mod ((Mod.refl FP9 w9).setCell (p := ⟨bp, j * 13 + 8, none⟩) (.inl h9.rows.bpF) (.int .i64 (x8 + 1)))))
              clear h9 s9 H9
              go_wp2
              go_roundw
              case' rel => exact ⟨j + 1, FP9, C9, by omega, by go_num, HX, HS⟩
              case' measure => simp [intOf]; omega
            case' neg =>
              obtain ⟨FP9, C9, h9, s9⟩ := H9.out
              rw [if_neg hif.out] at h9
              have HX := hid (show BM w9 p bp bk FP9 C9 (dirTo (takeS S k fr) k fr (j + 1)) by
                rw [onP_onP] at h9
                rw [HE.out, onP_congr (g := fun P => (P.inc 4).setq (P.q ++ [fr])) (by rw [HAT.out]; unfold dirP; rw [if_neg (by rw [HQN.out]; exact hq4)])]
                exact h9)
              have HS := hid ((HS7.out.trans (Step.of_mod (Mod.refl _ w7).drew)).trans (HS8.out.trans s9))
              clear h9 s9 H9
              go_wp2
              go_roundw
              case' rel => exact ⟨j + 1, FP9, C9, by omega, by go_num, HX, HS⟩
              case' measure => simp [intOf]; omega
end

end Go.Proofs.YtfolppcadckmaaaGreat.Br
