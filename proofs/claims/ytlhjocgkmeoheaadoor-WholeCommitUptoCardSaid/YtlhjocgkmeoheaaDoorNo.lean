/-
  Commit: Nodes.
-/
import Derived.Test.YtlhjocgkmeoheaaDoorOr
namespace Go.Proofs.YtlhjocgkmeoheaaDoor
open Go.RowKit Go.Tn Go.MapKept
open Go.Proofs
set_option maxRecDepth 100000 in
theorem nodes_f {w : World} {sb mt mo g : Nat} {A : Tree} {op : Option Nat} (h : SH w sb mt mo A g op) (G : GT A) {mx : Int} (hm : w.cell? ⟨0, 0, none⟩ = some (.int .i64 mx)) :
    Calls Tryd.prog 8 #[.pointer (some ⟨sb, 0, none⟩)] w fun e w' => ∃ q cap, e = .returned (.slice (some ⟨q, 0, none⟩) A.length cap) ∧ RowS w' q (ordr A) ∧ Tn.Mod [] w w' := by
  have c0 := h.c0
  have HN := hid (none_f h)
  have HO := hid (order_f h.th G hm)
  clear h
  go_enter Tryd.func8, Tryd.ntmps8
  go_wp2_with (first
    | (go_at_call 16; refine HN.out.mono ?_; rintro e w' ⟨rfl, rfl⟩)
    | (go_at_call 17; refine HO.out.mono ?_; rintro e w2 ⟨q, cap, rfl, hr, hm2⟩; replace hr := hid hr; replace hm2 := hid hm2))
  go_ret
  exact ⟨q, cap, rfl, hr.out, hm2.out⟩
end Go.Proofs.YtlhjocgkmeoheaaDoor
