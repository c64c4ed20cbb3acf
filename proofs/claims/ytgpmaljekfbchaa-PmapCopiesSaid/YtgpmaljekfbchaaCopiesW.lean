/-
  Layer 3: PmapCopies: the walk.
-/
import Derived.Test.YtgpmaljekfbchaaPlaysW
namespace Go.Proofs.Ytgpmaljekfbchaa
open Go.RowKit Go.Tn Go.Tn.P3

/-- A pair's blocks lie below C. -/
structure Under (C p bf bp q : Nat) (A : Option Addr) : Prop where
  hp : p < C
  hf : bf < C
  hb : bp < C
  hq : q < C
  hA : ∀ b, b ∈ rowB A → b < C

theorem Both.under {B : Nat} {w : World} {p bf bp q cap : Nat} {A : Option Addr} {L : List Int} (h : Both B w p bf bp q cap A L) : Under w.heap.size p bf bp q A :=
  ⟨h.pm.blk.lt, h.pm.mf.lt, h.pm.mp.lt, h.rm.blk.lt, fun _ hb => h.rm.lt hb⟩

/-- Turned blocks from C on leave what lies below C alone. -/
theorem Both.low {B C : Nat} {w w' : World} {p bf bp q cap : Nat} {A : Option Addr} {L : List Int} {S : List Nat} (h : Both B w p bf bp q cap A L) (u : Under C p bf bp q A) (hm : Mod S w w') (hS : ∀ b, b ∈ S → C ≤ b) : Both B w' p bf bp q cap A L := by
  have nin : ∀ b, b < C → b ∉ S := fun b hb hs => by have := hS b hs; omega
  exact ⟨h.pm.mod hm (nin _ u.hp) (nin _ u.hf) (nin _ u.hb), h.rm.mod hm (nin _ u.hq) (fun b hb => nin b (u.hA b hb)), h.hp, h.hf, h.hb, h.hq, h.hA⟩
/-- Turned blocks below C leave what lies from C on alone. -/
theorem Both.high {C : Nat} {w w' : World} {p bf bp q cap : Nat} {A : Option Addr} {L : List Int} {S : List Nat} (h : Both C w p bf bp q cap A L) (hm : Mod S w w') (hS : ∀ b, b ∈ S → b < C) : Both C w' p bf bp q cap A L := by
  have nin : ∀ b, C ≤ b → b ∉ S := fun b hb hs => by have := hS b hs; omega
  exact ⟨h.pm.mod hm (nin _ h.hp) (nin _ h.hf) (nin _ h.hb), h.rm.mod hm (nin _ h.hq) (fun b hb => nin b (h.hA b hb)), h.hp, h.hf, h.hb, h.hq, h.hA⟩

theorem Both.play_low {B C : Nat} {w : World} {p bf bp q cap : Nat} {A : Option Addr} {L : List Int} (h : Both B w p bf bp q cap A L) (u : Under C p bf bp q A) (x y z : Int) :
    Calls Try.prog 18 #[.pointer (some ⟨p, 0, none⟩), .pointer (some ⟨q, 0, none⟩), .agg #[.int .i64 x, .int .i64 y, .int .i64 z]] w fun e w' => e = .returned (.bool true) ∧
      Both B w' p bf bp q cap A (playL L x y z) ∧ ∃ S : List Nat, Mod S w w' ∧ (∀ b, b ∈ S → B ≤ b) ∧ ∀ b, b ∈ S → b < C := by
  refine (play_f h.pm h.rm x y z).mono ?_
  rintro e w' ⟨rfl, h1, h2, hm⟩
  refine ⟨rfl, ⟨h1, h2, h.hp, h.hf, h.hb, h.hq, h.hA⟩, _, hm, fun b hb => ?_, fun b hb => ?_⟩
  · simp only [List.mem_append, List.mem_cons, List.not_mem_nil, or_false] at hb
    rcases hb with (rfl | rfl) | hb
    · exact h.hf
    · exact h.hb
    · exact h.hA b hb
  · simp only [List.mem_append, List.mem_cons, List.not_mem_nil, or_false] at hb
    rcases hb with (rfl | rfl) | hb
    · exact u.hf
    · exact u.hb
    · exact u.hA b hb

set_option maxRecDepth 100000 in
set_option maxHeartbeats 4000000 in
theorem copies_walk (n : Int) (a : Option Addr) (len cap : Nat) (a' : Option Addr) (len' cap' : Nat) (w : World) (hn : 0 ≤ n) (hn' : n ≤ 255) (ho : IsOps w a len) (ho' : IsOps w a' len') :
    Calls Try.prog 7 #[.int .u8 n, .slice a len cap, .slice a' len' cap'] w fun e w' => e = .returned (.bool true) ∧ Below w.heap.size w w' := by
  obtain ⟨m, hm⟩ : ∃ m : Nat, n % 49 = (m : Int) := ⟨(n % 49).toNat, by omega⟩
  have hm48 : m ≤ 48 := by omega
  have hlen := ho.1
  have hlen' := ho'.1
  have HO := hid ho
  have HO' := hid ho'
  clear ho ho'
  go_enter Try.func7, Try.ntmps7
  go_wp2_with (first
      | (go_at_call 8; refine (new_ok m _ hm48).mono ?_; rintro e w1 ⟨rfl, hq, hm1⟩; have HQ := hid hq; have HM1 := hid hm1; have hs1 := hm1.size; clear hq hm1)
      | (go_at_call 16; refine (rnew_ok m _ hm48).mono ?_; rintro e w2 ⟨A, rcap, rfl, hr, hm2, hA⟩; have HR := hid hr; have HM2 := hid hm2; have HA := hid hA; clear hr hm2 hA hm))
  go_loopw [12] (fun i wr => ∃ (k : Nat) (L : List Int), k ≤ len ∧ i = .int .i64 k ∧ Hid (Both w.heap.size wr (w.heap.size + 2) w.heap.size (w.heap.size + 1) w1.heap.size rcap A L) ∧ Hid (Mod [] w wr)) (fun i _ => len - (intOf i).toNat)
  case atStart =>
    refine ⟨0, _, Nat.zero_le _, rfl, ⟨HQ.out.mod HM2.out (by simp) (by simp) (by simp), HR.out, by omega, by omega, by omega, by omega, fun b hb => ?_⟩, HM1.out.trans HM2.out (by simp)⟩
    have := HA.out b hb
    omega
  case round =>
    obtain ⟨k, L, hk, rfl, hb, hmr⟩ := hrel
    by_cases hlt : k < len
    · obtain ⟨b, off, rfl, hbB, X, Y, Z, hx⟩ := HO.out.2 (by omega)
      obtain ⟨x0, x1, x2⟩ := hx k hlt
      have y0 : wr.cell? ⟨b, off + k * 3, none⟩ = some (.int .i64 (X k)) := (hmr.out.cell hbB (by simp)).trans x0
      have y1 : wr.cell? ⟨b, off + k * 3 + 1, none⟩ = some (.int .i64 (Y k)) := (hmr.out.cell hbB (by simp)).trans x1
      have y2 : wr.cell? ⟨b, off + k * 3 + 2, none⟩ = some (.int .i64 (Z k)) := (hmr.out.cell hbB (by simp)).trans x2
      clear x0 x1 x2 hx
      go_wp2_with (first
        | (go_at_call 18; refine (hb.out.play (X k) (Y k) (Z k)).mono ?_; rintro e w3 ⟨rfl, hb3, S, hm3, hS⟩; have HB3 := hid hb3; have HM3 := hid hm3; have HS := hid hS; clear hb3 hm3 hS))
      go_roundw
      case rel => exact ⟨k + 1, _, by omega, by go_num, HB3.out, hmr.out.trans HM3.out (fun t ht => .inr (HS.out t ht))⟩
      case measure => simp [intOf]; omega
    · have hke : k = len := by omega
      subst hke
      obtain ⟨wo, rfl⟩ : ∃ wo : World, wo = wr := ⟨_, rfl⟩
      have hwr := hmr.out.size
      go_wp2_with (first
        | (go_at_call 17; refine (copy_f hb.out.pm).mono ?_; rintro e w3 ⟨p', bf', bp', rfl, hp3, hm3, g0, g1, g2⟩; have HP3 := hid hp3; have HM3 := hid hm3; have HB3 := hid (hb.out.mod hm3); have hs3 := hm3.size; clear hp3 hm3)
        | (go_at_call 21; refine (rcopy_f HB3.out.rm).mono ?_; rintro e w4 ⟨q', A', rcap', rfl, hr4, hm4, g3, g4⟩; have HB4 := hid (HB3.out.mod hm4); have HM4 := hid hm4; have HN := hid (show Both wo.heap.size w4 p' bf' bp' q' rcap' A' L from ⟨HP3.out.mod hm4 (by simp) (by simp) (by simp), hr4, g0, g1, g2, by omega, fun b hb => by have := g4 b hb; omega⟩); clear hr4 hm4 g4))
      have HU := hid hb.out.under
      have HM := hid ((hmr.out.trans HM3.out (by simp)).trans HM4.out (by simp))
      go_loopw [15] (fun i wz => ∃ (k : Nat) (L1 L2 : List Int), k ≤ len' ∧ i = .int .i64 k ∧ Hid (Both w.heap.size wz (w.heap.size + 2) w.heap.size (w.heap.size + 1) w1.heap.size rcap A L1) ∧ Hid (Both wo.heap.size wz p' bf' bp' q' rcap' A' L2) ∧ Hid (Mod [] w wz)) (fun i _ => len' - (intOf i).toNat)
      case atStart => exact ⟨0, _, _, Nat.zero_le _, rfl, HB4.out, HN.out, HM.out⟩
      case round =>
        obtain ⟨j, L1, L2, hj, rfl, hb1, hb2, hmz⟩ := hrel
        by_cases hlt' : j < len'
        · obtain ⟨b, off, rfl, hbB, X, Y, Z, hx⟩ := HO'.out.2 (by omega)
          obtain ⟨x0, x1, x2⟩ := hx j hlt'
          have y0 : wr.cell? ⟨b, off + j * 3, none⟩ = some (.int .i64 (X j)) := (hmz.out.cell hbB (by simp)).trans x0
          have y1 : wr.cell? ⟨b, off + j * 3 + 1, none⟩ = some (.int .i64 (Y j)) := (hmz.out.cell hbB (by simp)).trans x1
          have y2 : wr.cell? ⟨b, off + j * 3 + 2, none⟩ = some (.int .i64 (Z j)) := (hmz.out.cell hbB (by simp)).trans x2
          clear x0 x1 x2 hx
          by_cases hev : j % 2 = 0
          · have hev' : (((j : Int) % 2) == 0) = true := by simp; omega
            clear hev
            go_wp2_with (first
              | (go_at_call 18; refine (hb2.out.play (X j) (Y j) (Z j)).mono ?_; rintro e w5 ⟨rfl, hb5, S, hm5, hS⟩; have HB5 := hid hb5; have HM5 := hid hm5; have HS := hid hS; clear hb5 hm5 hS))
            go_roundw
            case rel => exact ⟨j + 1, _, _, by omega, by go_num, hb1.out.low HU.out HM5.out HS.out, HB5.out, hmz.out.trans HM5.out (fun t ht => .inr (by have := HS.out t ht; omega))⟩
            case measure => simp [intOf]; omega
          · have hev' : (((j : Int) % 2) == 0) = false := by simp; omega
            clear hev
            go_wp2_with (first
              | (go_at_call 18; refine (hb1.out.play_low HU.out (X j) (Y j) (Z j)).mono ?_; rintro e w5 ⟨rfl, hb5, S, hm5, hS, hC⟩; have HB5 := hid hb5; have HM5 := hid hm5; have HS := hid hS; have HC := hid hC; clear hb5 hm5 hS hC))
            go_roundw
            case rel => exact ⟨j + 1, _, _, by omega, by go_num, HB5.out, hb2.out.high HM5.out HC.out, hmz.out.trans HM5.out (fun t ht => .inr (HS.out t ht))⟩
            case measure => simp [intOf]; omega
        · have hje : j = len' := by omega
          subst hje
          go_wp2_with fail
          refine (told_f hb1.out.pm hb1.out.rm).mono ?_
          rintro e w5 ⟨rfl, hm5⟩
          have HM5 := hid hm5
          have HB6 := hid (hb2.out.mod hm5)
          clear hm5
          go_wp2_with fail
          refine (told_f HB6.out.pm HB6.out.rm).mono ?_
          rintro e w6 ⟨rfl, hm6⟩
          have HM6 := hid hm6
          clear hm6
          go_wp2_with (go_at_call 20; refine (awake_f _).mono ?_; rintro e w7 ⟨rfl, hm7⟩; have HM7 := hid hm7; clear hm7)
          go_ret
          exact ⟨rfl, (((hmz.out.trans HM5.out (by simp)).trans HM6.out (by simp)).trans HM7.out (by simp)).below (Nat.le_refl _) (by simp)⟩

theorem copies_row (n : Int) (hn : (Lit.int .u8 n).wf = true) (a : Option Addr) (len cap : Nat) (a' : Option Addr) (len' cap' : Nat) (w : World) (ho : IsOps w a len) (ho' : IsOps w a' len') :
    Calls Try.prog 7 #[.int .u8 n, .slice a len cap, .slice a' len' cap'] w fun e w' => e = .returned (.bool true) ∧ Below w.heap.size w w' :=
  copies_walk n a len cap a' len' cap' w (bounds_u8 hn).1 (bounds_u8 hn).2 ho ho'

end Go.Proofs.Ytgpmaljekfbchaa
