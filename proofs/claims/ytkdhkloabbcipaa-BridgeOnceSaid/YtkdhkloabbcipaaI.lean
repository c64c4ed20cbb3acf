/-
  Layer 14, bridge.Bridge: Down.
-/
import Derived.Test.YtkdhkloabbcipaaH
import Derived.Test.YtkdhkloabbcipaaRng
namespace Go.Proofs.Ytkdhkloabbcipaa
open Go.RowKit Go.Tn Go.Tn.P14

theorem Rng_left {w : World} {b r : Nat} {left : Int → Bool} {cnt : Nat} (h : Rng w b r left cnt) : w.rangeLeft b r = cnt := by
  obtain ⟨es, clock, since, seen, c0, hb, _, _, hr, _, hc, _⟩ := h
  simp only [World.rangeLeft, hb, hr]
  exact hc

section
variable {w w' : World} {p bp bk : Nat} {FP : List Nat} {C : Nat → Option Addr × Nat} {S : St}

theorem del57 {w : World} {b : Nat} (h : IsM w b) (n : Int) (ty : TypeId) : (Builtin.delete_ #[57, 3] ty #[.map (some b), .int .i64 n]).run Try.prog w = .ok (.tuple #[]) (mdel w b n) := h.delete Try.underlying57 Try.underlying3 n ty
attribute [local go_sem] look57 nilM del57

/-- An address goes. -/
theorem BM.kdel (h : BM w p bp bk FP C S) {y : Int} (h0 : 0 ≤ y) (h1 : y < 256) (hy : 0 ≤ S.K y) : BM (mdel w bk y) p bp bk FP C { S with K := fun m => if m = y then -1 else S.K m } := by
  have hm : Mod [bk] w (mdel w bk y) := (Mod.refl _ _).mdel (.inl (by simp)) _
  refine ⟨h.hd.mod hm (by simpa using h.kp.symm), h.rows.mapped h.isM hm, h.isM.mdel_same _, fun m => ?_, ?_, h.pF, h.kF⟩
  · rw [mget_mdel_same h.isM]
    by_cases hmy : m = y
    · simp [hmy]
    · simp only [hmy, if_false]; exact h.get m
  · rw [mlen_mdel_same h.isM, h.get, h.len, if_pos hy]
    simp only [Option.isSome_some, if_true]
    rw [cnt_del S.K h0 h1 hy]

def lenAt (w : World) (bp k : Nat) : Nat := match w.cell? ⟨bp, k * 13 + 12, none⟩ with | some (.slice _ n _) => n | _ => 0

theorem ok_forget {M : Int} (G : Ok S M) (x : Int) : Ok { S with K := forget S.K x } M := by
  refine ⟨G.n1, G.n8, G.lo, G.hi, G.cr, G.q4, G.fr, fun a => ?_, fun a ha => ?_⟩
  · have := G.kr a
    have hn := G.n1
    simp only [forget]
    split
    · exact ⟨Int.le_refl _, by show (-1 : Int) < S.n; omega⟩
    · exact this
  · simp only [forget] at ha
    split at ha
    · omega
    · exact G.k255 a ha
theorem doneS_in {k : Nat} (hk : k < S.n) (hq : (S.L k).q ≠ []) (on : Bool) : doneS S k on = onP S k fun P => doneP P on := by
  have he : headE S k = 0 := by
    unfold headE
    rw [if_neg (by simp [isP_nat.2 hk]), Int.toNat_natCast, if_neg hq]
  simp [doneS, he]

set_option maxHeartbeats 2000000 in
/-- 'Down'. -/
theorem down_f (h : BM w p bp bk FP C S) {M : Int} (G : Ok S M) (hM : M ≤ 1152921504606846000) (x : Int) : Calls Try.prog 15 #[.pointer (some ⟨p, 0, none⟩), .int .i64 x] w fun e w' =>
    e = .returned (.int .i64 (isE S x)) ∧ Aft w w' p bp bk FP (downS S x) := by
  unfold isE downS
  by_cases hp : isP S x = true
  case neg =>
    have hp' : isP S x = false := by simpa using hp
    simp only [hp', Bool.false_eq_true, if_false]
    have H := hid h
    have HP := hid hp'
    clear hp hp' h G
    go_enter Try.func15, Try.ntmps15
    go_wp2_with (go_at_call 27; refine (at_out H.out HP.out).mono ?_; rintro e w' ⟨rfl, rfl⟩)
    go_ret
    exact ⟨rfl, FP, C, H.out, Step.refl _ _⟩
  case pos =>
    obtain ⟨h0, h1⟩ := isP_iff.1 hp
    obtain ⟨k, rfl⟩ := Int.eq_ofNat_of_zero_le h0
    have hk : k < S.n := by omega
    simp only [hp, if_true]
    have c1 := h.c1
    have hm := h.isM
    have H := hid h
    have HG := hid G
    clear h G hp h0 h1
    go_enter Try.func15, Try.ntmps15
    go_wp2_with (first
      | (go_at_call 27; refine (at_in H.out hk).mono ?_; rintro e w' ⟨rfl, rfl⟩)
      | (at_range; refine wpList_range_rng _ rfl _ 57 rfl Try.underlying57 rfl hm ?_; intro w1 hr1 hm1))
    go_frame
    have HR1 := hid hr1
    have HM1 := hid hm1
    have hrF : w.heap.size ∉ FP := fun h => by have := H.out.rows.old _ h; omega
    have HRF := hid hrF
    clear hr1 hm1 c1 hm hrF
    go_loopw [7] (fun _ wr => ∃ left cnt, Hid (Rng wr bk w.heap.size left cnt) ∧ Hid (BM wr p bp bk FP C { S with K := keepK S.K k left }) ∧ Hid (Mod (w.heap.size :: FP) w1 wr)) (fun _ wr => wr.rangeLeft bk w.heap.size)
    case atStart =>
      refine ⟨_, _, HR1.out, ?_, Mod.refl _ _⟩
      rw [keepK_start (by omega) (fun m hm => by rw [H.out.get, if_pos hm]; rfl)]
      exact H.out.newer HM1.out
    case round =>
      obtain ⟨left, cnt, hr, hb, hmm⟩ := hrel
      have c1 := hb.out.c1
      have hmap := hb.out.isM
      go_wp2_with (at_next; refine wpList_next_rng _ rfl _ rfl rfl hr.out ?_ ?_)
      case refine_1 =>
        intro hl
        have hK := keepK_all (K := S.K) (x := (k : Int)) hl
        rw [hK] at hb
        have HB := hid hb.out
        clear hl hb c1 hmap hr hK
        have hG0 := hid (ok_forget HG.out (k : Int))
        obtain ⟨N, hN⟩ : ∃ N, (S.L k).q.length = N := ⟨_, rfl⟩
        have HN := hid hN
        have hN4 : N ≤ 4 := by rw [← hN]; exact HG.out.q4 k hk
        have HS0 := hid (Step.of_mod (FP := FP) ((HM1.out.mono (T := FP) (by simp)).trans hmm.out (fun t ht => by
          rcases List.mem_cons.1 ht with rfl | ht
          · exact .inr (Nat.le_refl _)
          · exact .inl ht)))
        clear hN hmm
        go_wp2_with fail
        obtain ⟨wo, rfl⟩ : ∃ wo : World, wo = wr := ⟨_, rfl⟩
        go_loopw [36] (fun _ wz => ∃ (j : Nat) (FPj : List Nat) (Cj : Nat → Option Addr × Nat), j ≤ N ∧ Hid (BM wz p bp bk FPj Cj (onP { S with K := forget S.K (k : Int) } k (dropN j))) ∧ Hid (Step w wz FP FPj) ∧ Hid (Ok (onP { S with K := forget S.K (k : Int) } k (dropN j)) (M + j))) (fun _ wz => lenAt wz bp k)
        case atStart =>
          have e : onP { S with K := forget S.K (k : Int) } k (dropN 0) = { S with K := forget S.K (k : Int) } := by
            rw [onP_congr (g := fun P => P) (dropN_zero _)]
            simp only [onP, upd_same]
          exact ⟨0, FP, C, Nat.zero_le _, by rw [e]; exact HB.out, HS0.out, by rw [e]; exact hG0.out.mono (by omega)⟩
        case round =>
          obtain ⟨j, FPj, Cj, hj, hb, hs, hg⟩ := hrel
          have hq := hb.out.que (i := k) hk
          rw [onP_L, dropN_q, List.length_drop, HN.out] at hq
          have hl : lenAt wr bp k = N - j := by unfold lenAt; rw [hq]
          by_cases hjN : j < N
          case neg =>
            have hj2 : j = N := by omega
            subst hj2
            have h00 : j - j = 0 := by omega
            rw [h00] at hq
            have HX := hid hb.out
            clear hl h00 hjN
            go_wp2
            go_ret
            refine ⟨rfl, FPj, Cj, ?_, hs.out⟩
            have e : onP { S with K := forget S.K (k : Int) } k (dropN j) = { onP S (k : Int) dropAll with K := forget S.K (k : Int) } := by
              rw [onP_congr (g := dropAll) (by rw [← HN.out]; exact dropN_all _)]
              rfl
            rw [← e]
            exact HX.out
          case pos =>
            obtain ⟨d, hd⟩ : ∃ d, N - j = d + 1 := ⟨N - j - 1, by omega⟩
            rw [hd] at hq
            have HL := hid hl
            have hne : ((onP { S with K := forget S.K (k : Int) } k (dropN j)).L k).q ≠ [] := by
              rw [onP_L, dropN_q]
              intro e
              have := congrArg List.length e
              rw [List.length_drop, HN.out] at this
              simp at this
              omega
            have HNE := hid hne
            have HD := hid (doneS_in (S := onP { S with K := forget S.K (k : Int) } k (dropN j)) (k := k) hk hne false)
            have hgt : (0 : Int) < ((d + 1 : Nat) : Int) := by omega
            clear hl hne
            go_wp2_with (go_at_call 24; refine (done_f hb.out hg.out (by omega) (k : Int) false).mono ?_; rintro e wz2 ⟨rfl, FP2, C2, h2, s2⟩; rw [HD.out, onP_onP] at h2; have H2 := hid h2; have S2 := hid s2; clear h2 s2)
            go_roundw
            case rel =>
              have e : (onP { S with K := forget S.K (k : Int) } k fun P => doneP (dropN j P) false) = onP { S with K := forget S.K (k : Int) } k (dropN (j + 1)) := onP_congr (dropN_succ _ _)
              refine ⟨j + 1, FP2, C2, by omega, by rw [← e]; exact H2.out, hs.out.trans S2.out, ?_⟩
              have := ok_done hg.out (k : Int) false
              rw [HD.out, onP_onP, e] at this
              exact this.mono (by omega)
            case measure =>
              have e : (onP { S with K := forget S.K (k : Int) } k fun P => doneP (dropN j P) false) = onP { S with K := forget S.K (k : Int) } k (dropN (j + 1)) := onP_congr (dropN_succ _ _)
              have h3 := H2.out
              rw [e] at h3
              have hq3 := h3.que (i := k) hk
              rw [onP_L, dropN_q, List.length_drop, HN.out] at hq3
              rw [HL.out]
              unfold lenAt
              rw [hq3]
              show N - (j + 1) < N - j
              omega
      case refine_2 =>
        intro n v w2 cnt2 hln hgv hrg hlt2 hm2 hen
        have hgn := hb.out.get n
        rw [hgv] at hgn
        simp only at hgn
        have hkn : keepK S.K k left n = S.K n := by unfold keepK; rw [if_neg (fun h => by rw [hln] at h; cases h.2)]
        rw [hkn] at hgn
        have hn0 : 0 ≤ S.K n := by
          by_cases h : 0 ≤ S.K n
          · exact h
          · rw [if_neg h] at hgn; cases hgn
        rw [if_pos hn0] at hgn
        injection hgn with hgn
        subst hgn
        obtain ⟨n0, n255⟩ := HG.out.k255 n hn0
        have hB2 := hid (hb.out.same hm2 (fun b hb' e => by simp at e; subst e; exact HRF.out hb'))
        have c1' := hB2.out.c1
        have hmap' := hB2.out.isM
        have hMM2 := hid (hmm.out.trans hm2 (fun t ht => .inl (by simp at ht; subst ht; simp)))
        have HRG := hid hrg
        have HLT := hid hlt2
        have HRO := hid hr.out
        have HLN := hid hln
        obtain ⟨d, hd⟩ : ∃ d, S.K n = d := ⟨_, rfl⟩
        rw [hd] at hen
        have HD := hid hd
        clear hgv hb c1 hmap hmm hrg hlt2 hm2 hr hkn hln hn0 hd
        by_cases hdk : d = (k : Int)
        case pos =>
          have ht : (d == (k : Int)) = true := by simpa using hdk
          have HDK := hid hdk
          clear hdk
          go_wp2
          go_roundw
          case rel =>
            obtain ⟨cnt3, hr3, hle3⟩ := HRG.out.drop n
            have e : (fun m => (left m && !(m == n)) && !(m == n)) = fun m => left m && !(m == n) := by funext m; cases left m <;> cases (m == n) <;> rfl
            rw [e] at hr3
            refine ⟨_, _, hr3, ?_, hMM2.out.mdel (.inl (List.mem_cons_of_mem _ H.out.kF)) _⟩
            rw [keepK_hit (by rw [HD.out]; exact HDK.out)]
            have hkn : keepK S.K k left n = S.K n := by unfold keepK; rw [if_neg (fun h => by rw [HLN.out] at h; cases h.2)]
            exact hB2.out.kdel n0 (by omega) (by show 0 ≤ keepK S.K k left n; rw [hkn, HD.out, HDK.out]; omega)
          case measure =>
            obtain ⟨cnt3, hr3, hle3⟩ := HRG.out.drop n
            rw [Rng_left hr3, Rng_left HRO.out]
            have := HLT.out
            omega
        case neg =>
          have ht : (d == (k : Int)) = false := by simpa using hdk
          have HDK := hid hdk
          clear hdk
          go_wp2
          go_roundw
          case rel =>
            refine ⟨_, _, HRG.out, ?_, hMM2.out⟩
            rw [keepK_miss (by rw [HD.out]; exact HDK.out)]
            exact hB2.out
          case measure =>
            rw [Rng_left HRG.out, Rng_left HRO.out]
            exact HLT.out
end

end Go.Proofs.Ytkdhkloabbcipaa
