/-
  Layer 3, p2m.Map: what the small methods answer, of a map that New made (its two Go maps, by blocks).
-/
import Derived.Test.YtgpmaljekfbchaaRows
import Derived.WalkKit
import Derived.WalkLawsBesides
import Derived.WalkSpells
import Derived.Deep.QuietTactic
import Derived.BigQuiet
import Derived.BigRegion
import Derived.Test.YtgpmaljekfbchaaBase
namespace Go.Proofs.Ytgpmaljekfbchaa
open Go.RowKit Go.Tn

theorem zero3 (w : World) : (zeroValue 3).run Try.prog w = .ok (.int .i64 0) w := by kernel_rfl

theorem look48 {w : World} {b : Nat} (h : IsM w b) (n : Int) : (Instr.lookup 48 (.map (some b)) (.int .i64 n) true).run Try.prog w = .ok (.tuple #[(mget w b n).getD (.int .i64 0), .bool (mget w b n).isSome]) w := by
  rw [h.look Try.underlying48 Try.underlying3 zero3 n true]; rfl
theorem del48 {w : World} {b : Nat} (h : IsM w b) (n : Int) (ty : TypeId) : (Builtin.delete_ #[48, 3] ty #[.map (some b), .int .i64 n]).run Try.prog w = .ok (.tuple #[]) (mdel w b n) := h.delete Try.underlying48 Try.underlying3 n ty
theorem nilM (w : World) (r : Option Nat) : (binOp .eql 48 (.map r) (.map none)).run Try.prog w = .ok (.bool r.isNone) w := run_eql_map_nil w _ _ _ r Try.underlying48
attribute [local go_sem] look48 del48 nilM

/-- 'none' of a map that was made. -/
theorem none_f (p bf : Nat) (w : World) (c0 : w.cell? ⟨p, 0, none⟩ = some (.map (some bf))) :
    Calls Try.prog 22 #[.pointer (some ⟨p, 0, none⟩)] w fun e w' => e = .returned (.bool false) ∧ w = w' := by
  go_enter Try.func22, Try.ntmps22
  go_wp2
  go_ret
  exact ⟨rfl, rfl⟩

/-- 'place': 0, or ErrArg. -/
theorem place_ok (p bf : Nat) (n g : Int) (w : World) (c0 : w.cell? ⟨p, 0, none⟩ = some (.map (some bf))) (c2 : w.cell? ⟨p, 2, none⟩ = some (.int .i64 n)) (h0 : 0 ≤ g) (h1 : g < n) :
    Calls Try.prog 23 #[.pointer (some ⟨p, 0, none⟩), .int .i64 g] w fun e w' => e = .returned (.int .i64 0) ∧ w = w' := by
  go_enter Try.func23, Try.ntmps23
  go_wp2
  go_ret
  exact ⟨rfl, rfl⟩

theorem size_ok (p bf : Nat) (n : Int) (w : World) (c0 : w.cell? ⟨p, 0, none⟩ = some (.map (some bf))) (c2 : w.cell? ⟨p, 2, none⟩ = some (.int .i64 n)) :
    Calls Try.prog 15 #[.pointer (some ⟨p, 0, none⟩)] w fun e w' => e = .returned (.int .i64 n) ∧ w = w' := by
  go_enter Try.func15, Try.ntmps15
  go_wp2
  go_ret
  exact ⟨rfl, rfl⟩

theorem get_some (p bf : Nat) (n g m : Int) (w : World) (c0 : w.cell? ⟨p, 0, none⟩ = some (.map (some bf))) (c2 : w.cell? ⟨p, 2, none⟩ = some (.int .i64 n)) (hb : IsM w bf) (h0 : 0 ≤ g) (h1 : g < n)
    (hg : mget w bf g = some (.int .i64 m)) :
    Calls Try.prog 13 #[.pointer (some ⟨p, 0, none⟩), .int .i64 g] w fun e w' => e = .returned (.tuple #[.int .i64 m, .int .i64 0]) ∧ w = w' := by
  go_enter Try.func13, Try.ntmps13
  go_wp2
  go_ret2
  exact ⟨rfl, rfl⟩

end Go.Proofs.Ytgpmaljekfbchaa
