/-
  Layer 14: BridgeLearns: the walk.
-/
import Derived.Test.YtkdhkloabbcipaaI
import Derived.Test.YtkdhkloabbcipaaE
import Derived.Test.YtkdhkloabbcipaaLr
namespace Go.Proofs.Ytkdhkloabbcipaa
open Go.RowKit Go.Tn Go.Tn.P14

/-- A frame of two bytes is sent. -/
theorem send2_f {w : World} {p bp bk g : Nat} {FP : List Nat} {C : Nat → Option Addr × Nat} {S : St} (h : BM w p bp bk FP C S) {M : Int} (G : Ok S M) (hM : M ≤ 1152921504606846976) (k : Int) {a b : Int} (ha : 0 ≤ a ∧ a ≤ 255) (hb : 0 ≤ b ∧ b ≤ 255) (hg : Blk w g 5 #[.int .u8 a, .int .u8 b]) (hF : g ∉ FP) :
    Calls Try.prog 11 #[.pointer (some ⟨p, 0, none⟩), .int .i64 k, .slice (some ⟨g, 0, none⟩) 2 2] w fun e w' => e = .returned (.int .i64 (sendE S k [a, b])) ∧ Aft w w' p bp bk FP (sendS S k [a, b]) ∧ Ok (sendS S k [a, b]) (M + 1) := by
  have hby : ∀ y, y ∈ [a, b] → 0 ≤ y ∧ y ≤ 255 := fun y hy => by
    simp at hy
    rcases hy with rfl | rfl
    · exact ha
    · exact hb
  have hA : Arg w (some ⟨g, 0, none⟩) [a, b] FP := by
    refine ⟨⟨hby, fun _ => ⟨g, 0, rfl, hg.lt, fun j y hj => ?_⟩⟩, fun b' hb' => by simp [blkOf] at hb'; rw [hb']; exact hF, by simp⟩
    rw [Nat.zero_add, hg.cell]
    match j, hj with
    | 0, hj => simp at hj; subst hj; rfl
    | 1, hj => simp at hj; subst hj; rfl
    | j + 2, hj => simp at hj
  have hs := send_f (cf := 2) h G hM hA k
  exact hs.mono fun e w' ⟨h1, h2⟩ => ⟨h1, h2, ok_send G k hby⟩

/-- Five numbers, of which the first k are laid. -/
def dA (c : Nat → Int) (k : Nat) : Array Value := Array.ofFn fun i : Fin 5 => .int .i64 (if i.1 < k then c i.1 else 0)
theorem dA_get (c : Nat → Int) (k : Nat) {i : Nat} (hi : i < 5) : (dA c k)[i]? = some (.int .i64 (if i < k then c i else 0)) := by
  simp [dA, Array.getElem?_ofFn, hi]
theorem dA_zero (c : Nat → Int) : dA c 0 = #[.int .i64 0, .int .i64 0, .int .i64 0, .int .i64 0, .int .i64 0] := by
  apply Array.ext_getElem?
  intro i
  by_cases hi : i < 5
  · rw [dA_get c 0 hi]
    match i, hi with
    | 0, _ | 1, _ | 2, _ | 3, _ | 4, _ => rfl
  · rw [Array.getElem?_eq_none (by simp [dA]; omega), Array.getElem?_eq_none (by simp; omega)]
theorem dA_set (c : Nat → Int) {k : Nat} (hk : k < 5) : (dA c k).setIfInBounds k (.int .i64 (c k)) = dA c (k + 1) := by
  apply Array.ext_getElem?
  intro i
  rw [Array.getElem?_setIfInBounds]
  by_cases hi : i < 5
  · rw [dA_get c (k + 1) hi]
    by_cases e : k = i
    · subst e; simp [dA, hk]
    · rw [if_neg e, dA_get c k hi]
      by_cases h : i < k
      · simp [h, show i < k + 1 by omega]
      · simp [h, show ¬ i < k + 1 by omega]
  · have h5 : (dA c k).size = 5 := by simp [dA]
    have h6 : (dA c (k + 1)).size = 5 := by simp [dA]
    rw [if_neg (by omega), Array.getElem?_eq_none (by omega), Array.getElem?_eq_none (by omega)]

set_option maxRecDepth 100000 in
set_option maxHeartbeats 4000000 in
theorem learns_walk (ad : Int) (wad : (Lit.int .u8 ad).wf = true) (ot : Int) (wot : (Lit.int .u8 ot).wf = true) (a1 : Int) (w1 : (Lit.int .u8 a1).wf = true) (a2 : Int) (w2 : (Lit.int .u8 a2).wf = true) (a3 : Int) (w3 : (Lit.int .u8 a3).wf = true) (w : World) :
    Calls Try.prog 4 #[.int .u8 ad, .int .u8 ot, .int .u8 a1, .int .u8 a2, .int .u8 a3] w fun e w' => e = .returned (.bool true) ∧ Below w.heap.size w w' := by
  have had := bounds_u8 wad
  have hot := bounds_u8 wot
  have h1 := bounds_u8 w1
  have h2 := bounds_u8 w2
  have h3 := bounds_u8 w3
  obtain ⟨f, hf⟩ : ∃ f : Nat, a1 % 5 = (f : Int) := ⟨(a1 % 5).toNat, by omega⟩
  obtain ⟨l, hl⟩ : ∃ l : Nat, a2 % 5 = (l : Int) := ⟨(a2 % 5).toNat, by omega⟩
  obtain ⟨q, hq⟩ : ∃ q : Nat, a3 % 5 = (q : Int) := ⟨(a3 % 5).toNat, by omega⟩
  have hf5 : f < 5 := by omega
  have hl5 : l < 5 := by omega
  have hq5 : q < 5 := by omega
  have HAD := hid had
  have HOT := hid hot
  clear wad wot w1 w2 w3
  go_enter Try.func4, Try.ntmps4
  go_wp2_with (go_at_call 9; refine (new_ok 5 w (by decide) (by decide)).mono ?_; rintro e wa ⟨rfl, ha1, ham⟩; have HA := hid ha1; have HAM := hid ham; clear ha1 ham)
  clear hf hl hq h1 h2 h3 had hot
  go_loopw [16] (fun i wr => ∃ (k : Nat) (S : St) (FP : List Nat) (C : Nat → Option Addr × Nat), k ≤ 5 ∧ i = .int .i64 k ∧ Hid (BM wr (w.heap.size + 2) w.heap.size (w.heap.size + 1) FP C S) ∧ Hid (Ok S 65536) ∧ Hid (S.n = 5 ∧ S.K = (fun _ => -1) ∧ ∀ j, j < k → (S.L j).c 9 = 100) ∧ Hid (∀ b, b ∈ FP → w.heap.size ≤ b) ∧ Hid (Mod [] w wr)) (fun i _ => 5 - (intOf i).toNat)
  case atStart =>
    refine ⟨0, _, _, _, by decide, rfl, HA.out, (ok_new (by decide) (by decide)).mono (by decide), ⟨rfl, rfl, fun j hj => absurd hj (by omega)⟩, fun b hb => ?_, HAM.out⟩
    simp at hb; omega
  case round =>
    obtain ⟨k, S, FP, C, hk, rfl, hb, hg, hs, hF, hm⟩ := hrel
    by_cases hlt : k < 5
    case pos =>
      go_wp2_with (go_at_call 10; refine (rate_f hb.out (k : Int) 100 0).mono ?_; rintro e wb ⟨rfl, hr, hrm⟩; have HR := hid hr; have HRM := hid hrm; clear hr hrm)
      go_roundw
      case rel =>
        obtain ⟨hn, hK, hc⟩ := hs.out
        have hst : rateS S (k : Int) 100 0 = onP S k fun P => ((P.set 9 100).set 10 100).set 11 0 := by
          unfold rateS
          have : isP S (k : Int) = true := isP_nat.2 (by omega)
          simp [this, okC]
        refine ⟨k + 1, _, FP, C, by omega, by go_num, HR.out, ok_rate hg.out (by decide) _ _ _, ⟨?_, ?_, fun j hj => ?_⟩, hF.out, hm.out.trans HRM.out (fun t ht => .inr (by simp at ht; omega))⟩
        · rw [hst]; exact hn
        · rw [hst]; exact hK
        · rw [hst]
          by_cases hjk : j = k
          · subst hjk; rw [onP_L]; simp [set_c]
          · have := hc j (by omega)
            simp only [onP, Int.toNat_natCast]
            rw [upd_ne _ _ hjk]
            exact this
      case measure => simp [intOf]; omega
    case neg =>
      have hk5 : k = 5 := by omega
      subst hk5
      obtain ⟨hn, hK, hc⟩ := hs.out
      have h5 : C5 S 100 0 := ⟨hn, fun i hi => by rw [hc i hi]; exact Int.le_refl _, by rw [hK, cnt_none]; exact Nat.le_refl _⟩
      have H5 := hid h5
      clear hn hK hc h5 hs hlt HA HAM
      by_cases hbad : ad = 255 ∨ ot = 255 ∨ ad = ot
      case pos =>
        have hts : ((ad == 255) = true) ∨ ((ad == 255) = false ∧ (ot == 255) = true) ∨ ((ad == 255) = false ∧ (ot == 255) = false ∧ (ad == ot) = true) := by
          simp
          omega
        clear hbad
        rcases hts with t1 | ⟨t1, t2⟩ | ⟨t1, t2, t3⟩
        all_goals
          go_wp2_with fail
          refine (send2_f (hb.out.newer ((Mod.refl [] wr).alloc (.cells #[.int .u8 0, .int .u8 255] 5))) hg.out (by decide) (f : Int) (by decide) (by decide) (Blk.new wr 5 #[.int .u8 0, .int .u8 255]) (fun h => by have := hb.out.rows.old _ h; omega)).mono ?_
          rintro e wz ⟨rfl, ⟨FP2, C2, h2, s2⟩, g2⟩
          have HS := hid s2
          clear h2 s2 g2
          have HE := hid (send_bad2 (S := S) (k := f) (by rw [H5.out.n]; exact hf5))
          rw [HE.out]
          go_wp2
          go_ret
          exact ⟨rfl, ((hm.out.alloc _).trans HS.out.mod (fun t ht => .inr (hF.out t ht))).below (Nat.le_refl _) (by simp)⟩
      case neg =>
        have hts : (ad == 255) = false ∧ (ot == 255) = false ∧ (ad == ot) = false := by
          simp
          omega
        obtain ⟨t1, t2, t3⟩ := hts
        have HB := hid hbad
        clear hbad
        have hr1 : 0 ≤ ad ∧ ad < 255 := by have := HAD.out; have := HB.out; omega
        have hr2 : 0 ≤ ot ∧ ot < 255 := by have := HOT.out; have := HB.out; omega
        obtain ⟨e1, v1, k1⟩ := H5.out.send (a := 255) (b := ad) hf5 hr1.1 hr1.2 (by decide) (by decide)
        obtain ⟨e2, v2, k2⟩ := v1.send (a := 255) (b := ad) hl5 hr1.1 hr1.2 (by decide) (by decide)
        obtain ⟨e3, v3, k3⟩ := v2.send (a := ad) (b := ot) hq5 hr2.1 hr2.2 (by decide) (by decide)
        have hdir := fun i (hi : i < 5) => directed v2 (k := q) (last := l) (i := i) (a := ad) (b := ot) hq5 hi hr1.1 hr1.2 hr2.1 hr2.2 (by have := HB.out; omega) (by decide) (by decide) (by rw [k2]; simp)
        have hK : (sendS (sendS (sendS S f [255, ad]) l [255, ad]) q [ad, ot]).K ad = (l : Int) := by
          rw [k3, k2]
          have : ¬ ad = ot := by have := HB.out; omega
          simp [this]
        have E1 := hid e1
        have E2 := hid e2
        have E3 := hid e3
        have V3 := hid v3
        have V2' := hid v2
        have HDIR := hid hdir
        have HKL := hid hK
        have R1 := hid hr1
        have R2 := hid hr2
        clear e1 v1 k1 e2 v2 k2 e3 v3 k3 hdir hK hr1 hr2
        go_wp2_with fail
        refine (send2_f (hb.out.newer ((Mod.refl [] wr).alloc (.cells #[.int .u8 255, .int .u8 ad] 5))) hg.out (by decide) (f : Int) (by decide) HAD.out (Blk.new wr 5 #[.int .u8 255, .int .u8 ad]) (fun h => by have := hb.out.rows.old _ h; omega)).mono ?_
        rintro e wx ⟨rfl, ⟨FP1, C1, h1, s1⟩, g1⟩
        have B1 := hid h1
        have G1 := hid g1
        have F1 := hid (show ∀ b, b ∈ FP1 → w.heap.size ≤ b from fun b hb' => by
          rcases s1.new b hb' with h | h
          · exact hF.out b h
          · have := hm.out.size; simp at h; omega)
        have M1 := hid ((hm.out.alloc (.cells #[.int .u8 255, .int .u8 ad] 5)).trans s1.mod (fun t ht => .inr (hF.out t ht)))
        clear h1 s1 g1
        rw [E1.out]
        go_wp2_with fail
        refine (send2_f (B1.out.newer ((Mod.refl [] wx).alloc (.cells #[.int .u8 255, .int .u8 ad] 5))) G1.out (by decide) (l : Int) (by decide) HAD.out (Blk.new wx 5 #[.int .u8 255, .int .u8 ad]) (fun h => by have := B1.out.rows.old _ h; omega)).mono ?_
        rintro e wy ⟨rfl, ⟨FP2, C2, h1, s1⟩, g1⟩
        have B2 := hid h1
        have G2 := hid g1
        have F2 := hid (show ∀ b, b ∈ FP2 → w.heap.size ≤ b from fun b hb' => by
          rcases s1.new b hb' with h | h
          · exact F1.out b h
          · have := M1.out.size; simp at h; omega)
        have M2 := hid ((M1.out.alloc (.cells #[.int .u8 255, .int .u8 ad] 5)).trans s1.mod (fun t ht => .inr (F1.out t ht)))
        clear h1 s1 g1
        rw [E2.out]
        go_wp2_with fail
        generalize sendS (sendS S ↑f [255, ad]) ↑l [255, ad] = T at *
        obtain ⟨c, hc⟩ : ∃ c : Nat → Int, c = fun i => (T.L i).c 4 := ⟨_, rfl⟩
        have HC := hid hc
        have hyw := M2.out.size
        clear hc E1 E2 B1 G1 F1 M1 H5 hb hg hF hm
        go_loopw [18] (fun i wz => ∃ (k : Nat), k ≤ 5 ∧ i = .int .i64 k ∧ Hid (Blk wz wy.heap.size 34 (dA c k)) ∧ Hid (BM wz (w.heap.size + 2) w.heap.size (w.heap.size + 1) FP2 C2 T) ∧ Hid (Mod [] w wz)) (fun i _ => 5 - (intOf i).toNat)
        case atStart => exact ⟨0, by decide, rfl, by rw [dA_zero]; exact Blk.new wy 34 _, B2.out.newer ((Mod.refl [] wy).alloc _), M2.out.alloc _⟩
        case round =>
          obtain ⟨k, hk, rfl, hd, hb, hm⟩ := hrel
          by_cases hlt : k < 5
          case pos =>
            have hcv : countV T (k : Int) 4 = c k := by
              have : isP T (k : Int) = true := isP_nat.2 (by rw [V2'.out.n]; exact hlt)
              rw [HC.out]
              simp [countV, this, count]
            have HCV := hid hcv
            clear hcv
            go_wp2_with (go_at_call 14; refine (counts_f hb.out (k : Int)).mono ?_; rintro e wv ⟨rfl, hv⟩; simp only [cntA]; rw [HCV.out]; have HV := hid hv; have HD2 := hid (hd.out.mod hv (by simp)); have g1 := (HD2.out.cell k).trans (dA_get c k hlt); have g2 := HD2.out.frozen k; have g3 := HD2.out.lt; clear hv)
            go_roundw
            case rel =>
              have hfp : wy.heap.size ∉ FP2 := fun h => by have := B2.out.rows.old _ h; omega
              have hset := (Mod.refl [wy.heap.size] wv).setCell (p := ⟨wy.heap.size, k, none⟩) (.inl (by simp)) (.int .i64 (c k))
              have h1 := HD2.out.set_ k (.int .i64 (c k))
              rw [dA_set c hlt] at h1
              refine ⟨k + 1, by omega, by go_num, h1.mod ((Mod.refl [] _).alloc _) (by simp), ?_, ?_⟩
              · exact ((hb.out.newer HV.out).same hset (fun b hb' e => by simp at e; subst e; exact hfp hb')).newer ((Mod.refl [] _).alloc _)
              · exact ((hm.out.trans HV.out (by simp)).trans hset (fun t ht => .inr (by simp at ht; omega))).alloc _
            case measure => simp [intOf]; omega
          case neg =>
            have hk5 : k = 5 := by omega
            subst hk5
            clear hlt
            go_wp2_with fail
            refine (send2_f (hb.out.newer ((Mod.refl [] wr).alloc (.cells #[.int .u8 ad, .int .u8 ot] 5))) G2.out (by decide) (q : Int) HAD.out HOT.out (Blk.new wr 5 #[.int .u8 ad, .int .u8 ot]) (fun h => by have := hb.out.rows.old _ h; omega)).mono ?_
            rintro e wz ⟨rfl, ⟨FP3, C3, h1, s1⟩, g1⟩
            have hfp : wy.heap.size ∉ FP2 := fun h => by have := B2.out.rows.old _ h; omega
            have B3 := hid h1
            have G3 := hid g1
            have F3 := hid (show ∀ b, b ∈ FP3 → w.heap.size ≤ b from fun b hb' => by
              rcases s1.new b hb' with h | h
              · exact F2.out b h
              · have := hm.out.size; simp at h; omega)
            have M3 := hid ((hm.out.alloc (.cells #[.int .u8 ad, .int .u8 ot] 5)).trans s1.mod (fun t ht => .inr (F2.out t ht)))
            have D3 := hid ((hd.out.mod ((Mod.refl [] wr).alloc (.cells #[.int .u8 ad, .int .u8 ot] 5)) (by simp)).mod s1.mod hfp)
            clear h1 s1 g1 hb hd hm B2 M2 hfp
            rw [E3.out]
            go_wp2_with fail
            generalize sendS T ↑q [ad, ot] = U at *
            go_loopw [21] (fun i wv => ∃ (k : Nat), k ≤ 5 ∧ i = .int .i64 k ∧ Hid (Blk wv wy.heap.size 34 (dA c 5)) ∧ Hid (BM wv (w.heap.size + 2) w.heap.size (w.heap.size + 1) FP3 C3 U) ∧ Hid (Mod [] w wv)) (fun i _ => 5 - (intOf i).toNat)
            case atStart => exact ⟨0, by decide, rfl, D3.out, B3.out, M3.out⟩
            case round =>
              obtain ⟨k, hk, rfl, hd, hb, hm⟩ := hrel
              by_cases hlt : k < 5
              case pos =>
                have hcv : countV U (k : Int) 4 = c k + if k = l ∧ k ≠ q then 1 else 0 := by
                  have : isP U (k : Int) = true := isP_nat.2 (by rw [V3.out.n]; exact hlt)
                  rw [HC.out]
                  simp only [countV, this, if_true, count, Int.toNat_natCast, HDIR.out k hlt]
                  simp
                have hlo : 0 ≤ c k := by rw [HC.out]; exact G2.out.lo k 4 (by rw [V2'.out.n]; exact hlt)
                have hhi : c k ≤ 65538 := by rw [HC.out]; exact G2.out.hi k 4 (by rw [V2'.out.n]; exact hlt)
                obtain ⟨d, hd2⟩ : ∃ d, c k = d := ⟨_, rfl⟩
                have hdk := (dA_get c 5 hlt)
                rw [if_pos hlt, hd2] at hdk
                rw [hd2] at hcv hlo hhi
                have HDK := hid hdk
                clear hd2 hdk
                have hcase : (k = l ∧ k ≠ q) ∨ (k = l ∧ k = q) ∨ k ≠ l := by omega
                rcases hcase with ⟨q1, q2⟩ | ⟨q1, q2⟩ | q1
                case' inl =>
                  rw [if_pos ⟨q1, q2⟩] at hcv
                  have t4 : ((k : Int) == (l : Int)) = true := by simp; omega
                  have t5 : ((k : Int) == (q : Int)) = false := by simp; omega
                  have t6 : ((k : Int) != (q : Int)) = true := by simp [bne, t5]
                  clear q1 q2
                case' inr.inl =>
                  rw [if_neg (fun h => h.2 q2)] at hcv
                  have t4 : ((k : Int) == (l : Int)) = true := by simp; omega
                  have t5 : ((k : Int) == (q : Int)) = true := by simp; omega
                  have t6 : ((k : Int) != (q : Int)) = false := by simp [bne, t5]
                  clear q1 q2
                case' inr.inr =>
                  rw [if_neg (fun h => q1 h.1)] at hcv
                  have t4 : ((k : Int) == (l : Int)) = false := by simp; omega
                  clear q1
                all_goals
                  have HCV := hid hcv
                  clear hcv
                  go_wp2_with (go_at_call 14; refine (counts_f hb.out (k : Int)).mono ?_; rintro e wv2 ⟨rfl, hv⟩; simp only [cntA]; rw [HCV.out]; have HV := hid hv; have HD2 := hid (hd.out.mod hv (by simp)); have g1 := (HD2.out.cell k).trans HDK.out; have g3 := HD2.out.lt; clear hv)
                  go_quiet (fail)
                  go_wp2
                  go_roundw
                  case' rel =>
                    refine ⟨k + 1, by omega, by go_num, ?_, ?_, ?_⟩
                    · exact (HD2.out.mod ((Mod.refl [] _).alloc _) (by simp)).mod ((Mod.refl [] _).drewN _) (by simp)
                    · exact ((hb.out.newer HV.out).newer ((Mod.refl [] _).alloc _)).drewN _
                    · exact ((hm.out.trans HV.out (by simp)).alloc _).drewN _
                  case' measure => simp [intOf]; omega
              case neg =>
                have hk5 : k = 5 := by omega
                subst hk5
                clear hlt
                have HEK := hid (show isE U (l : Int) = 0 by unfold isE; rw [if_pos (isP_nat.2 (by rw [V3.out.n]; exact hl5))])
                have HKN := hid (show knownE (downS U (l : Int)) ad = 6 by
                  have hp : isP U (l : Int) = true := isP_nat.2 (by rw [V3.out.n]; exact hl5)
                  have hr := R1.out
                  have : (downS U (l : Int)).K ad = -1 := by simp [downS, hp, forget, HKL.out]
                  unfold knownE
                  rw [if_neg (by omega), this]
                  decide)
                have r1 := R1.out.1
                have r2 := R1.out.2
                go_wp2_with fail
                refine (down_f hb.out G3.out (by decide) (l : Int)).mono ?_
                rintro e wd ⟨rfl, FP4, C4, h1, s1⟩
                rw [HEK.out]
                have B4 := hid h1
                have M4 := hid (hm.out.trans s1.mod (fun t ht => .inr (F3.out t ht)))
                clear h1 s1
                go_wp2_with fail
                refine (known_f B4.out ad).mono ?_
                rintro e wk ⟨rfl, rfl⟩
                rw [HKN.out]
                go_wp2
                go_ret
                exact ⟨rfl, M4.out.below (Nat.le_refl _) (by simp)⟩

end Go.Proofs.Ytkdhkloabbcipaa
