/-
  Layer 3: PmapPlays: the walk.
-/
import Derived.Test.YtgpmaljekfbchaaRf
import Derived.Test.YtgpmaljekfbchaaBackE
namespace Go.Proofs.Ytgpmaljekfbchaa
open Go.RowKit Go.Tn Go.Tn.P3

/-- A map and the reference's, both made by this call (blocks from B on), that read alike. -/
structure Both (B : Nat) (w : World) (p bf bp q cap : Nat) (A : Option Addr) (L : List Int) : Prop where
  pm : PM w p bf bp L
  rm : RM w q A cap L
  hp : B ≤ p
  hf : B ≤ bf
  hb : B ≤ bp
  hq : B ≤ q
  hA : ∀ b, b ∈ rowB A → B ≤ b

theorem Both.play {B : Nat} {w : World} {p bf bp q cap : Nat} {A : Option Addr} {L : List Int} (h : Both B w p bf bp q cap A L) (x y z : Int) :
    Calls Try.prog 18 #[.pointer (some ⟨p, 0, none⟩), .pointer (some ⟨q, 0, none⟩), .agg #[.int .i64 x, .int .i64 y, .int .i64 z]] w fun e w' => e = .returned (.bool true) ∧
      Both B w' p bf bp q cap A (playL L x y z) ∧ ∃ S : List Nat, Mod S w w' ∧ ∀ b, b ∈ S → B ≤ b := by
  refine (play_f h.pm h.rm x y z).mono ?_
  rintro e w' ⟨rfl, h1, h2, hm⟩
  refine ⟨rfl, ⟨h1, h2, h.hp, h.hf, h.hb, h.hq, h.hA⟩, _, hm, fun b hb => ?_⟩
  simp only [List.mem_append, List.mem_cons, List.not_mem_nil, or_false] at hb
  rcases hb with (rfl | rfl) | hb
  · exact h.hf
  · exact h.hb
  · exact h.hA b hb

theorem Both.mod {B : Nat} {w w' : World} {p bf bp q cap : Nat} {A : Option Addr} {L : List Int} (h : Both B w p bf bp q cap A L) (hm : Mod [] w w') : Both B w' p bf bp q cap A L :=
  ⟨h.pm.mod hm (by simp) (by simp) (by simp), h.rm.mod hm (by simp) (by simp), h.hp, h.hf, h.hb, h.hq, h.hA⟩

/-- What a copy makes: a new pair of blocks for the map, the elder one is cleared at y. -/
theorem Both.turn {B : Nat} {w w1 w2 : World} {p bf bp q cap p' bf' bp' : Nat} {A : Option Addr} {L L2 : List Int} (h : Both B w p bf bp q cap A L) (hw : B ≤ w.heap.size)
    (h1 : PM w1 p' bf' bp' L) (hm1 : Mod [] w w1) (g0 : w.heap.size ≤ p') (g1 : w.heap.size ≤ bf') (g2 : w.heap.size ≤ bp') (_ : PM w2 p bf bp L2) (hm2 : Mod [bf, bp] w1 w2) :
    Both B w2 p' bf' bp' q cap A L := by
  have e1 := h.pm.mf.lt
  have e2 := h.pm.mp.lt
  have hr := h.rm.mod hm1 (by simp) (by simp)
  have hp := h.pm.mod hm1 (by simp) (by simp) (by simp)
  refine ⟨h1.mod hm2 (by simp; omega) (by simp; omega) (by simp; omega), hr.over hp hm2, by omega, by omega, by omega, h.hq, h.hA⟩

set_option maxRecDepth 100000 in
set_option maxHeartbeats 4000000 in
theorem plays_ok (m : Nat) (a : Option Addr) (len cap : Nat) (w : World) (hm : m ≤ 48) (ho : IsOps w a len) :
    Calls Try.prog 5 #[.int .i64 m, .slice a len cap] w fun e w' => e = .returned (.bool true) ∧ Below w.heap.size w w' := by
  have hlen := ho.1
  have HO := hid ho
  clear ho
  go_enter Try.func5, Try.ntmps5
  go_wp2_with (first
      | (go_at_call 8; refine (new_ok m _ hm).mono ?_; rintro e w1 ⟨rfl, hq, hm1⟩; have HQ := hid hq; have HM1 := hid hm1; have hs1 := hm1.size; clear hq hm1)
      | (go_at_call 16; refine (rnew_ok m _ hm).mono ?_; rintro e w2 ⟨A, rcap, rfl, hr, hm2, hA⟩; have HR := hid hr; have HM2 := hid hm2; have HA := hid hA; clear hr hm2 hA))
  go_loopw [5, 9] (fun pv i wr => ∃ (k p bf bp : Nat) (L : List Int), k ≤ len ∧ i = .int .i64 k ∧ pv = .pointer (some ⟨p, 0, none⟩) ∧ Hid (Both w.heap.size wr p bf bp w1.heap.size rcap A L) ∧ Hid (Mod [] w wr)) (fun _ i _ => len - (intOf i).toNat)
  case atStart =>
    refine ⟨0, _, w.heap.size, w.heap.size + 1, _, Nat.zero_le _, rfl, rfl, ⟨HQ.out.mod HM2.out (by simp) (by simp) (by simp), HR.out, by omega, by omega, by omega, by omega, fun b hb => ?_⟩, HM1.out.trans HM2.out (by simp)⟩
    have := HA.out b hb
    omega
  case round =>
    obtain ⟨k, p, bf, bp, L, hk, rfl, rfl, hb, hmr⟩ := hrel
    by_cases hlt : k < len
    · obtain ⟨b, off, rfl, hbB, X, Y, Z, hx⟩ := HO.out.2 (by omega)
      obtain ⟨x0, x1, x2⟩ := hx k hlt
      have y0 : wr.cell? ⟨b, off + k * 3, none⟩ = some (.int .i64 (X k)) := (hmr.out.cell hbB (by simp)).trans x0
      have y1 : wr.cell? ⟨b, off + k * 3 + 1, none⟩ = some (.int .i64 (Y k)) := (hmr.out.cell hbB (by simp)).trans x1
      have y2 : wr.cell? ⟨b, off + k * 3 + 2, none⟩ = some (.int .i64 (Z k)) := (hmr.out.cell hbB (by simp)).trans x2
      have hbr : b < wr.heap.size := Nat.lt_of_lt_of_le hbB hmr.out.size
      clear x0 x1 x2 hx
      have hwr := hmr.out.size
      by_cases hX : X k = 4
      · have hX' : (X k == 4) = true := by simpa using hX
        clear hX
        go_wp2_with (first
          | (go_at_call 17; refine (copy_f hb.out.pm).mono ?_; rintro e w3 ⟨p', bf', bp', rfl, hp3, hm3, g0, g1, g2⟩; have HP3 := hid hp3; have HM3 := hid hm3; have HPo := hid (hb.out.pm.mod hm3 (by simp) (by simp) (by simp)); have z1 : w3.cell? ⟨b, off + k * 3 + 1, none⟩ = some (.int .i64 (Y k)) := (hm3.cell hbr (by simp)).trans y1; clear hp3 hm3)
          | (go_at_call 12; refine (clear_f HPo.out (Y k)).mono ?_; rintro e w4 ⟨rfl, hp4, hm4⟩; have HB4 := hid (hb.out.turn hwr HP3.out HM3.out g0 g1 g2 hp4 hm4); have HM4 := hid hm4; clear hp4 hm4)
          | (go_at_call 19; refine (told_f HB4.out.pm HB4.out.rm).mono ?_; rintro e w5 ⟨rfl, hm5⟩; have HM5 := hid hm5; clear hm5))
        go_roundw
        case rel =>
          refine ⟨k + 1, p', bf', bp', L, by omega, by go_num, rfl, HB4.out.mod HM5.out, ((hmr.out.trans HM3.out (by simp)).trans HM4.out ?_).trans HM5.out (by simp)⟩
          intro t ht
          simp only [List.mem_cons, List.not_mem_nil, or_false] at ht
          rcases ht with rfl | rfl
          · exact .inr hb.out.hf
          · exact .inr hb.out.hb
        case measure => simp [intOf]; omega
      · have hX' : (X k == 4) = false := by simpa using hX
        clear hX
        go_wp2_with (first
          | (go_at_call 18; refine (hb.out.play (X k) (Y k) (Z k)).mono ?_; rintro e w3 ⟨rfl, hb3, S, hm3, hS⟩; have HB3 := hid hb3; have HM3 := hid hm3; have HS := hid hS; clear hb3 hm3 hS)
          | (go_at_call 19; refine (told_f HB3.out.pm HB3.out.rm).mono ?_; rintro e w5 ⟨rfl, hm5⟩; have HM5 := hid hm5; clear hm5))
        go_roundw
        case rel => exact ⟨k + 1, p, bf, bp, _, by omega, by go_num, rfl, HB3.out.mod HM5.out, (hmr.out.trans HM3.out (fun t ht => .inr (HS.out t ht))).trans HM5.out (by simp)⟩
        case measure => simp [intOf]; omega
    · have hke : k = len := by omega
      subst hke
      go_wp2_with (go_at_call 20; refine (awake_f _).mono ?_; rintro e w5 ⟨rfl, hm5⟩; have HM5 := hid hm5; clear hm5)
      go_ret
      exact ⟨rfl, (hmr.out.trans HM5.out (by simp)).below (Nat.le_refl _) (by simp)⟩

set_option maxRecDepth 100000 in
set_option maxHeartbeats 1000000 in
theorem plays_bad (n : Int) (a : Option Addr) (len cap : Nat) (w : World) (hn : n < 0 ∨ 48 < n) :
    Calls Try.prog 5 #[.int .i64 n, .slice a len cap] w fun e w' => e = .returned (.bool true) ∧ Below w.heap.size w w' := by
  have HN := hid hn
  clear hn
  go_enter Try.func5, Try.ntmps5
  go_wp2_with (first
      | (go_at_call 8; refine (new_bad n _ HN.out).mono ?_; rintro e w' ⟨rfl, rfl⟩)
      | (go_at_call 16; refine (rnew_bad n _ HN.out).mono ?_; rintro e w' ⟨rfl, rfl⟩))
  refine wp_loop_rounds 1 ?_
  rw [rounds_succ]
  go_wp2_with (go_at_call 20; refine (awake_f _).mono ?_; rintro e w5 ⟨rfl, hm5⟩; have HM5 := hid hm5; clear hm5)
  go_ret
  exact ⟨rfl, HM5.out.below (Nat.le_refl _) (by simp)⟩

theorem plays_row (n : Int) (_ : (Lit.int .i64 n).wf = true) (a : Option Addr) (len cap : Nat) (w : World) (ho : IsOps w a len) :
    Calls Try.prog 5 #[.int .i64 n, .slice a len cap] w fun e w' => e = .returned (.bool true) ∧ Below w.heap.size w w' := by
  by_cases h : 0 ≤ n ∧ n ≤ 48
  · obtain ⟨m, rfl⟩ := Int.eq_ofNat_of_zero_le h.1
    exact plays_ok m a len cap w (by omega) ho
  · exact plays_bad n a len cap w (by omega)

end Go.Proofs.Ytgpmaljekfbchaa
