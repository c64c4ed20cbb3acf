/-
  Layer 14, the reference: Down.
-/
import Derived.Test.YtkdhkloabbcipaaM
namespace Go.Proofs.Ytkdhkloabbcipaa
open Go.RowKit Go.Tn Go.Tn.P14

/-- The addresses below k of a port go. -/
def forgTo (K : Int → Int) (p : Int) (k : Nat) : Int → Int := fun x => if 0 ≤ x ∧ x < k ∧ K x = p then -1 else K x
theorem forgTo_zero (K : Int → Int) (p : Int) : forgTo K p 0 = K := by
  funext x
  unfold forgTo
  rw [if_neg (by omega)]
theorem forgTo_at (K : Int → Int) (p : Int) (k : Nat) : forgTo K p k k = K k := by
  unfold forgTo
  rw [if_neg (by omega)]
theorem forgTo_hit {K : Int → Int} {p : Int} {k : Nat} (h : K k = p) : forgTo K p (k + 1) = fun x => if x = (k : Int) then -1 else forgTo K p k x := by
  funext x
  unfold forgTo
  by_cases hx : x = k
  · subst hx; rw [if_pos ⟨by omega, by omega, h⟩, if_pos rfl]
  · rw [if_neg hx]
    by_cases h2 : 0 ≤ x ∧ x < k ∧ K x = p
    · rw [if_pos h2, if_pos ⟨h2.1, by omega, h2.2.2⟩]
    · rw [if_neg h2, if_neg (fun h3 => h2 ⟨h3.1, by omega, h3.2.2⟩)]
theorem forgTo_miss {K : Int → Int} {p : Int} {k : Nat} (h : K k ≠ p) : forgTo K p (k + 1) = forgTo K p k := by
  funext x
  unfold forgTo
  by_cases h2 : 0 ≤ x ∧ x < k ∧ K x = p
  · rw [if_pos h2, if_pos ⟨h2.1, by omega, h2.2.2⟩]
  · rw [if_neg h2, if_neg (fun h3 => h2 ⟨h3.1, by
      by_cases hx : x = k
      · subst hx; exact absurd h3.2.2 h
      · omega, h3.2.2⟩)]
theorem forgTo_all {K : Int → Int} {p : Int} (hp : 0 ≤ p) (h : ∀ a, 0 ≤ K a → 0 ≤ a ∧ a < 255) : forgTo K p 256 = forget K p := by
  funext x
  unfold forgTo forget
  by_cases hx : K x = p
  · have := h x (by omega)
    rw [if_pos ⟨by omega, by omega, hx⟩, if_pos hx]
  · rw [if_neg (fun h => hx h.2.2), if_neg hx]

def lenR (w : World) (rp k : Nat) : Nat := match w.cell? ⟨rp, k * 13 + 3, none⟩ with | some (.slice _ n _) => n | _ => 0

section
variable {w w' : World} {q rp ac : Nat} {A : Option Addr} {FP FP' : List Nat} {C : Nat → Option Addr × Nat} {S : St}

set_option maxRecDepth 100000 in
set_option maxHeartbeats 2000000 in
/-- 'Down'. -/
theorem rdown_f (h : RC w q rp A ac FP C S) {M : Int} (G : Ok S M) (hM : M ≤ 1152921504606846000) (x : Int) : Calls Try.prog 19 #[.pointer (some ⟨q, 0, none⟩), .int .i64 x] w fun e w' =>
    e = .returned (.int .i64 (isE S x)) ∧ AftR w w' q rp A ac FP (downS S x) := by
  unfold isE downS
  by_cases hp : isP S x = true
  case neg =>
    have hp' : isP S x = false := by simpa using hp
    simp only [hp', Bool.false_eq_true, if_false]
    have H := hid h
    have HP := hid hp'
    clear hp hp' h G
    go_enter Try.func19, Try.ntmps19
    go_wp2_with (go_at_call 37; refine (is_out H.out HP.out).mono ?_; rintro e w' ⟨rfl, rfl⟩)
    go_ret
    exact ⟨rfl, FP, C, H.out, Step.refl _ _⟩
  case pos =>
    obtain ⟨h0, h1⟩ := isP_iff.1 hp
    obtain ⟨k, rfl⟩ := Int.eq_ofNat_of_zero_le h0
    have hk : k < S.n := by omega
    simp only [hp, if_true]
    obtain ⟨g, off, rfl⟩ := h.addr
    have hgF : g ∈ FP := h.aF g (by simp [blkOf])
    have H := hid h
    have HG := hid G
    clear h G hp h0 h1
    go_enter Try.func19, Try.ntmps19
    go_wp2_with (go_at_call 37; refine (is_in H.out hk).mono ?_; rintro e w' ⟨rfl, rfl⟩)
    go_loopw [5] (fun i wr => ∃ j : Nat, j ≤ 256 ∧ i = .int .i64 j ∧ Hid (RC wr q rp (some ⟨g, off, none⟩) ac FP C { S with K := forgTo S.K k j }) ∧ Hid (Mod FP w wr)) (fun i _ => 256 - (intOf i).toNat)
    case atStart => exact ⟨0, by decide, rfl, by rw [forgTo_zero]; exact H.out, Mod.refl _ _⟩
    case round =>
      obtain ⟨j, hj, rfl, hb, hm⟩ := hrel
      have c1 := hb.out.c1
      by_cases hlt : j < 256
      case pos =>
        have hc := hb.out.at_ hlt
        simp only [forgTo_at] at hc
        have hf := QRow.free hb.out.adr (off + j)
        obtain ⟨d, hd⟩ : ∃ d, S.K j = d := ⟨_, rfl⟩
        rw [hd] at hc
        have HD := hid hd
        clear hd
        by_cases hdk : d = (k : Int)
        case pos =>
          have ht : (d == (k : Int)) = true := by simpa using hdk
          have HDK := hid hdk
          clear hdk
          go_wp2
          go_roundw
          case rel =>
            refine ⟨j + 1, by omega, by go_num, ?_, hm.out.setCell (.inl hgF) _⟩
            rw [forgTo_hit (by rw [HD.out]; exact HDK.out)]
            exact hb.out.kput hlt (-1)
          case measure => simp [intOf]; omega
        case neg =>
          have ht : (d == (k : Int)) = false := by simpa using hdk
          have HDK := hid hdk
          clear hdk
          go_wp2
          go_roundw
          case rel =>
            refine ⟨j + 1, by omega, by go_num, ?_, hm.out⟩
            rw [forgTo_miss (by rw [HD.out]; exact HDK.out)]
            exact hb.out
          case measure => simp [intOf]; omega
      case neg =>
        have hj2 : j = 256 := by omega
        rw [hj2, forgTo_all (by omega) HG.out.k255] at hb
        clear hj2
        have HB := hid hb.out
        have c0 : wr.cell? ⟨q, 0, none⟩ = some (.slice (some ⟨rp, 0, none⟩) S.n S.n) := HB.out.c0
        have hG0 := hid (ok_forget HG.out (k : Int))
        obtain ⟨N, hN⟩ : ∃ N, (S.L k).q.length = N := ⟨_, rfl⟩
        have HN := hid hN
        have hN4 : N ≤ 4 := by rw [← hN]; exact HG.out.q4 k hk
        have HS0 := hid (Step.of_mod hm.out)
        clear hN hm hb
        go_wp2_with fail
        clear c0 c1 hlt hj
        obtain ⟨wo, rfl⟩ : ∃ wo : World, wo = wr := ⟨_, rfl⟩
        go_loopw [34] (fun _ wz => ∃ (j : Nat) (FPj : List Nat) (Cj : Nat → Option Addr × Nat), j ≤ N ∧ Hid (RC wz q rp (some ⟨g, off, none⟩) ac FPj Cj (onP { S with K := forget S.K (k : Int) } k (dropN j))) ∧ Hid (Step w wz FP FPj) ∧ Hid (Ok (onP { S with K := forget S.K (k : Int) } k (dropN j)) (M + j))) (fun _ wz => lenR wz rp k)
        case atStart =>
          have e : onP { S with K := forget S.K (k : Int) } k (dropN 0) = { S with K := forget S.K (k : Int) } := by
            rw [onP_congr (g := fun P => P) (dropN_zero _)]
            simp only [onP, upd_same]
          exact ⟨0, FP, C, Nat.zero_le _, by rw [e]; exact HB.out, HS0.out, by rw [e]; exact hG0.out.mono (by omega)⟩
        case round =>
          obtain ⟨j, FPj, Cj, hj, hb, hs, hg⟩ := hrel
          have c0 : wr.cell? ⟨q, 0, none⟩ = some (.slice (some ⟨rp, 0, none⟩) S.n S.n) := hb.out.c0
          have hq := hb.out.que (i := k) hk
          rw [onP_L, dropN_q, List.length_drop, HN.out] at hq
          have hl : lenR wr rp k = N - j := by unfold lenR; rw [hq]
          by_cases hjN : j < N
          case neg =>
            have hj2 : j = N := by omega
            subst hj2
            have h00 : j - j = 0 := by omega
            rw [h00] at hq
            have HX := hid hb.out
            clear hl h00 hjN
            go_wp2
            go_ret
            refine ⟨rfl, FPj, Cj, ?_, hs.out⟩
            have e : onP { S with K := forget S.K (k : Int) } k (dropN j) = { onP S (k : Int) dropAll with K := forget S.K (k : Int) } := by
              rw [onP_congr (g := dropAll) (by rw [← HN.out]; exact dropN_all _)]
              rfl
            rw [← e]
            exact HX.out
          case pos =>
            obtain ⟨d, hd⟩ : ∃ d, N - j = d + 1 := ⟨N - j - 1, by omega⟩
            rw [hd] at hq
            have HL := hid hl
            have hne : ((onP { S with K := forget S.K (k : Int) } k (dropN j)).L k).q ≠ [] := by
              rw [onP_L, dropN_q]
              intro e
              have := congrArg List.length e
              rw [List.length_drop, HN.out] at this
              simp at this
              omega
            have HNE := hid hne
            have HD := hid (doneS_in (S := onP { S with K := forget S.K (k : Int) } k (dropN j)) (k := k) hk hne false)
            have hgt : (0 : Int) < ((d + 1 : Nat) : Int) := by omega
            clear hl hne
            go_wp2_with (go_at_call 34; refine (rdone_f hb.out hg.out (by omega) (k : Int) false).mono ?_; rintro e wz2 ⟨rfl, FP2, C2, h2, s2⟩; rw [HD.out, onP_onP] at h2; have H2 := hid h2; have S2 := hid s2; clear h2 s2)
            go_roundw
            case rel =>
              have e : (onP { S with K := forget S.K (k : Int) } k fun P => doneP (dropN j P) false) = onP { S with K := forget S.K (k : Int) } k (dropN (j + 1)) := onP_congr (dropN_succ _ _)
              refine ⟨j + 1, FP2, C2, by omega, by rw [← e]; exact H2.out, hs.out.trans S2.out, ?_⟩
              have := ok_done hg.out (k : Int) false
              rw [HD.out, onP_onP, e] at this
              exact this.mono (by omega)
            case measure =>
              have e : (onP { S with K := forget S.K (k : Int) } k fun P => doneP (dropN j P) false) = onP { S with K := forget S.K (k : Int) } k (dropN (j + 1)) := onP_congr (dropN_succ _ _)
              have h3 := H2.out
              rw [e] at h3
              have hq3 := h3.que (i := k) hk
              rw [onP_L, dropN_q, List.length_drop, HN.out] at hq3
              rw [HL.out]
              unfold lenR
              rw [hq3]
              show N - (j + 1) < N - j
              omega
end

end Go.Proofs.Ytkdhkloabbcipaa
