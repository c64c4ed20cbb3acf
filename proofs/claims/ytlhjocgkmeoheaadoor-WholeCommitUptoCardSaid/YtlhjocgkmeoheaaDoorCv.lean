/-
  Commit: a value as a string.
-/
import Derived.Test.YtlhjocgkmeoheaaDoorWv
namespace Go.Proofs.YtlhjocgkmeoheaaDoor
open Go.RowKit Go.Tn
open Go.Proofs
theorem conv29 {w : World} {v : Value} {o : Option Int} (h : NV w v o) : ∃ s, ∀ W, Tn.Mod [] w W → ∀ v', NV W v' o → (convert 29 9 v').run Tryd.prog W = .ok (.string s) W := by
  cases o with
  | none =>
    refine ⟨⟨#[]⟩, fun W hm v' hv => ?_⟩
    obtain rfl : v' = .slice none 0 0 := hv
    simp [convert, run_underlying Tryd.underlying29, run_underlying Tryd.underlying9, run_underlying Tryd.underlying5, Conv.bytesToString]
    rfl
  | some z =>
    refine ⟨⟨#[UInt8.ofNat z.toNat]⟩, fun W hm v' hv => ?_⟩
    obtain ⟨b, c, rfl, cs, hb, h0⟩ := hv
    have hc := hb.cell 0
    rw [h0] at hc
    have hl := run_loadCells_list (P := Tryd.prog) (w := W) ⟨b, 0, none⟩ [.int .u8 z] (fun j v hj => by
      match j, hj with
      | 0, hj => simp at hj; subst hj; simpa [Addr.add] using hc)
    simp only [List.length_cons, List.length_nil, Nat.zero_add] at hl
    simp [convert, run_underlying Tryd.underlying29, run_underlying Tryd.underlying9, run_underlying Tryd.underlying5, Conv.bytesToString, hl, Result.andThen]
    rfl
end Go.Proofs.YtlhjocgkmeoheaaDoor
