/-
  Layer 12: ImageTrims: the walks joined.
-/
import Derived.Test.YtpabfghpfigoaaaTrimsW
import Derived.Test.YtpabfghpfigoaaaArgc
namespace Go.Proofs.Ytpabfghpfigoaaa
open Go.RowKit Go.Tn Go.Shelf
open Go.Proofs

theorem u8s_bys {w : World} {a : Option Addr} {len : Nat} (h : IsU8s w a len) : ∃ g : Nat → Int, Bys w a len g ∧ (∀ j, j < len → 0 ≤ g j ∧ g j ≤ 255) := by
  by_cases h0 : 0 < len
  · obtain ⟨b, off, rfl, hb, Y, hY⟩ := h.2 h0
    exact ⟨Y, fun _ => ⟨b, off, rfl, hb, fun j hj => (hY j hj).1⟩, fun j hj => (hY j hj).2⟩
  · exact ⟨fun _ => 0, fun h => absurd h h0, fun j hj => by omega⟩

theorem trims_walk (a : Option Addr) (len cap : Nat) (bl : Int) (wb : (Lit.int .u8 bl).wf = true) (x : Int) (_ : (Lit.int .i64 x).wf = true) (fl : Int) (_ : (Lit.int .u8 fl).wf = true) (w : World) (ho : IsU8s w a len ∧ len ≤ cap) :
    Calls Try.prog 6 #[.slice a len cap, .int .u8 bl, .int .i64 x, .int .u8 fl] w fun e w' => e = .returned (.bool true) ∧ Below w.heap.size w w' := by
  obtain ⟨ho, hcap⟩ := ho
  obtain ⟨g, hb, _⟩ := u8s_bys ho
  have hl := ho.1
  have h1 := bounds_u8 wb
  obtain ⟨bl, rfl⟩ := Int.eq_ofNat_of_zero_le h1.1
  by_cases h : len ≤ 16384
  case neg => exact trims_long a len cap g bl (by omega) x fl w hb hl (by omega)
  by_cases h64 : len % 64 = 0
  case neg => exact trims_arg a len cap g bl (by omega) x fl w hb hl h h64
  by_cases hx : 0 ≤ x ∧ x < ((len / 64 : Nat) : Int)
  case neg => exact trims_out a len cap g bl (by omega) x fl w hb hl h h64 hx
  by_cases hn : bl % 9 = 0
  · exact trims_full a len cap g bl (by omega) x fl w hb hl h h64 hx hn
  · obtain ⟨X, rfl⟩ := Int.eq_ofNat_of_zero_le hx.1
    obtain ⟨b, off, rfl, _⟩ := hb (by omega)
    exact trims_ok b off len cap g bl (by omega) X fl w hb hl hcap h h64 (by omega) hn
end Go.Proofs.Ytpabfghpfigoaaa
