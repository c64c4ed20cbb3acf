/-
  Layer 12: ImageBase: the walks joined.
-/
import Derived.Test.YtpabfghpfigoaaaBaseW
import Derived.Test.YtpabfghpfigoaaaTrimsJ
namespace Go.Proofs.Ytpabfghpfigoaaa
open Go.RowKit Go.Tn Go.Shelf
open Go.Proofs

theorem base_walk (a : Option Addr) (len cap : Nat) (m : Int) (_ : (Lit.int .i64 m).wf = true) (a2 : Option Addr) (len2 cap2 : Nat) (w : World) (hu : IsU8s w a len ∧ len ≤ cap) (ho : ∃ O, IsScr w a2 len2 O) :
    Calls Try.prog 5 #[.slice a len cap, .int .i64 m, .slice a2 len2 cap2] w fun e w' => e = .returned (.bool true) ∧ Below w.heap.size w w' := by
  obtain ⟨hu, hcap⟩ := hu
  obtain ⟨O, ho⟩ := ho
  obtain ⟨g, hb, _⟩ := u8s_bys hu
  by_cases h : len ≤ 16384
  case neg => exact base_long a len cap g m _ w hb hu.1 (by omega)
  by_cases hbad : len % 64 = 0 ∧ 0 ≤ m ∧ m ≤ 256
  case neg => exact base_arg a len cap g m _ w hb hu.1 h hbad
  obtain ⟨M, rfl⟩ := Int.eq_ofNat_of_zero_le hbad.2.1
  obtain ⟨k, rfl⟩ : ∃ k, len = 64 * k := ⟨len / 64, by omega⟩
  exact base_ok a k cap M g a2 len2 cap2 O w hb (by omega) (by omega) hcap ho
end Go.Proofs.Ytpabfghpfigoaaa
