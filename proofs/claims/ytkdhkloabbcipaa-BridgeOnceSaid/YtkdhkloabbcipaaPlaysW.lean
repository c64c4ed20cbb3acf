/-
  Layer 14: BridgePlays: the walk.
-/
import Derived.Test.YtkdhkloabbcipaaSa
namespace Go.Proofs.Ytkdhkloabbcipaa
open Go.RowKit Go.Tn Go.Tn.P14

theorem scr_at {w : World} {a : Option Addr} {len : Nat} (h : IsScr w a len) {k : Nat} (hk : k < len) : ∃ b off, a = some ⟨b, off, none⟩ ∧ b < w.heap.size ∧ ∃ o : OpV,
    w.cell? ⟨b, off + k * 6, none⟩ = some (.int .i64 o.x) ∧ w.cell? ⟨b, off + k * 6 + 1, none⟩ = some (.int .i64 o.y) ∧ w.cell? ⟨b, off + k * 6 + 2, none⟩ = some (.int .i64 o.z) ∧ w.cell? ⟨b, off + k * 6 + 3, none⟩ = some (.int .i64 o.u) ∧
    w.cell? ⟨b, off + k * 6 + 4, none⟩ = some (.bool o.n) ∧ w.cell? ⟨b, off + k * 6 + 5, none⟩ = some (.slice o.F o.fr.length o.cf) ∧ Hid (Bytes w o.F o.fr) ∧ Hid (o.fr.length ≤ 140737488351232) := by
  obtain ⟨b, off, ha, hb, X, Y, Z, U, N, F, cf, fr, hx⟩ := h.2 (by omega)
  obtain ⟨h0, h1, h2, h3, h4, h5, h6, h7⟩ := hx k hk
  exact ⟨b, off, ha, hb, ⟨X k, Y k, Z k, U k, N k, F k, cf k, fr k⟩, h0, h1, h2, h3, h4, h5, h6, h7⟩

/-- Both switches, new. -/
theorem two_new {w0 w1 w2 : World} {p bp bk q rp ac : Nat} {A : Option Addr} {FP FQ : List Nat} {C D : Nat → Option Addr × Nat} {S : St} (h1 : BM w1 p bp bk FP C S) (hm1 : Mod [] w0 w1) (hP : ∀ b, b ∈ FP → w0.heap.size ≤ b)
    (h2 : RC w2 q rp A ac FQ D S) (hm2 : Mod [] w1 w2) (hQ : ∀ b, b ∈ FQ → w1.heap.size ≤ b) : Two w0 w2 [] p bp bk q rp A ac S S := by
  have hs := hm1.size
  refine ⟨FP, FQ, C, D, h1.newer hm2, h2, fun b hb hb' => ?_, hP, fun b hb => by have := hQ b hb; omega, hm1.trans hm2 (by simp), fun b o hk => by simp at hk⟩
  have := h1.rows.old b hb
  have := hQ b hb'
  omega

set_option maxRecDepth 100000 in
set_option maxHeartbeats 4000000 in
theorem plays_ok (m : Nat) (h1 : 1 ≤ m) (h8 : m ≤ 8) (a : Option Addr) (len cap : Nat) (w : World) (ho : IsScr w a len) :
    Calls Try.prog 7 #[.int .i64 m, .slice a len cap] w fun e w' => e = .returned (.bool true) ∧ Below w.heap.size w w' := by
  have hlen := ho.1
  have HO := hid ho
  clear ho
  go_enter Try.func7, Try.ntmps7
  go_wp2_with (first
    | (go_at_call 9; refine (new_ok m w h1 h8).mono ?_; rintro e w1 ⟨rfl, hb1, hm1⟩; have HB1 := hid hb1; have HM1 := hid hm1; clear hb1 hm1)
    | (go_at_call 17; refine (rnew_ok m _ h1 h8).mono ?_; rintro e w2 ⟨rfl, ⟨A, ac, FQ, hr2, hq2⟩, hm2⟩; have H2 := hid (two_new HB1.out HM1.out (fun b hb => by simp at hb; omega) hr2 hm2 hq2); clear hr2 hq2 hm2))
  have HW1 := hid HM1.out.size
  go_loopw [9] (fun i wr => ∃ (k : Nat) (S : St), k ≤ len ∧ i = .int .i64 k ∧ Hid (Two w wr [] (w.heap.size + 2) w.heap.size (w.heap.size + 1) (w1.heap.size + 1) w1.heap.size A ac S S) ∧ Hid (Ok S (65536 + 4 * k))) (fun i _ => len - (intOf i).toNat)
  case atStart => exact ⟨0, newS m, Nat.zero_le _, rfl, H2.out, (ok_new h1 h8).mono (by omega)⟩
  case round =>
    obtain ⟨k, S, hk, rfl, hT, hG⟩ := hrel
    by_cases hlt : k < len
    case neg =>
      have hke : k = len := by omega
      clear hlt
      go_wp2_with (go_at_call 21; refine (awake_f _).mono ?_; rintro e w5 ⟨rfl, hm5⟩; have HM5 := hid hm5; clear hm5)
      go_ret
      exact ⟨rfl, (hT.out.mod.trans HM5.out (by simp)).below (Nat.le_refl _) (by simp)⟩
    case pos =>
      obtain ⟨b, off, rfl, hbB, o, x0, x1, x2, x3, x4, x5, hF, hl⟩ := scr_at HO.out hlt
      have y0 : wr.cell? ⟨b, off + k * 6, none⟩ = some (.int .i64 o.x) := (hT.out.mod.cell hbB (by simp)).trans x0
      have y1 : wr.cell? ⟨b, off + k * 6 + 1, none⟩ = some (.int .i64 o.y) := (hT.out.mod.cell hbB (by simp)).trans x1
      have y2 : wr.cell? ⟨b, off + k * 6 + 2, none⟩ = some (.int .i64 o.z) := (hT.out.mod.cell hbB (by simp)).trans x2
      have y3 : wr.cell? ⟨b, off + k * 6 + 3, none⟩ = some (.int .i64 o.u) := (hT.out.mod.cell hbB (by simp)).trans x3
      have y4 : wr.cell? ⟨b, off + k * 6 + 4, none⟩ = some (.bool o.n) := (hT.out.mod.cell hbB (by simp)).trans x4
      have y5 : wr.cell? ⟨b, off + k * 6 + 5, none⟩ = some (.slice o.F o.fr.length o.cf) := (hT.out.mod.cell hbB (by simp)).trans x5
      clear x0 x1 x2 x3 x4 x5 hbB
      have HG2 := hid (ok_play hG.out (by omega) o hF.out.1)
      go_wp2_with (first
        | (go_at_call 18; refine (play_f hT.out hG.out (by omega) o hF.out hl.out).mono ?_; rintro e w3 ⟨rfl, h3⟩; have H3 := hid h3; clear h3)
        | (go_at_call 26; refine (same_f H3.out HG2.out).mono ?_; rintro e w4 ⟨rfl, hm4⟩; have H4 := hid (H3.out.newer hm4); clear hm4))
      go_roundw
      case rel => exact ⟨k + 1, playS S o, by omega, by go_num, H4.out, HG2.out.mono (by omega)⟩
      case measure => simp [intOf]; omega

set_option maxRecDepth 100000 in
set_option maxHeartbeats 1000000 in
theorem plays_bad (n : Int) (a : Option Addr) (len cap : Nat) (w : World) (hn : n < 1 ∨ 8 < n) :
    Calls Try.prog 7 #[.int .i64 n, .slice a len cap] w fun e w' => e = .returned (.bool true) ∧ Below w.heap.size w w' := by
  have HN := hid hn
  clear hn
  go_enter Try.func7, Try.ntmps7
  go_wp2_with (first
      | (go_at_call 9; refine (new_bad n _ HN.out).mono ?_; rintro e w' ⟨rfl, rfl⟩)
      | (go_at_call 17; refine (rnew_bad n _ HN.out).mono ?_; rintro e w' ⟨rfl, rfl⟩))
  refine wp_loop_rounds 1 ?_
  rw [rounds_succ]
  go_wp2_with (go_at_call 21; refine (awake_f _).mono ?_; rintro e w5 ⟨rfl, hm5⟩; have HM5 := hid hm5; clear hm5)
  go_ret
  exact ⟨rfl, HM5.out.below (Nat.le_refl _) (by simp)⟩

theorem plays_walk (n : Int) (_ : (Lit.int .i64 n).wf = true) (a : Option Addr) (len cap : Nat) (w : World) (ho : IsScr w a len) :
    Calls Try.prog 7 #[.int .i64 n, .slice a len cap] w fun e w' => e = .returned (.bool true) ∧ Below w.heap.size w w' := by
  by_cases h : 1 ≤ n ∧ n ≤ 8
  · obtain ⟨m, rfl⟩ := Int.eq_ofNat_of_zero_le (show 0 ≤ n by omega)
    exact plays_ok m (by omega) (by omega) a len cap w ho
  · exact plays_bad n a len cap w (by omega)

end Go.Proofs.Ytkdhkloabbcipaa
