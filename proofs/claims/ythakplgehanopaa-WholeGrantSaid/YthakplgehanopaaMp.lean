/-
  Whole: grants: maps by keys of two numbers; Maps, held.
-/
import Derived.Test.YthakplgehanopaaPu
import Derived.LoopTactic
namespace Go.Proofs.Ythakplgehanopaa
open Go.RowKit Go.Tn Go.MapKept
open Go.Proofs

def key0 (h : Int) : Value := .agg #[.int .i64 0, .int .i64 h]
theorem zero104 (w : World) : (zeroValue 104).run Try.prog w = .ok (.agg #[.int .i64 0, .int .i64 0, .int .i64 0, .int .i64 0, .int .i64 0, .bool false]) w := by kernel_rfl
theorem check106 (em : Bool) (h : Int) (w : World) : (Instr.checkKey em 10000 106 (.agg #[.int .i64 0, .int .i64 h])).run Try.prog w = .ok () w := by cases em <;> kernel_rfl
theorem find106n (h : Int) (w : World) : (Instr.findKey 106 (.agg #[.int .i64 0, .int .i64 h]) []).run Try.prog w = .ok none w := by kernel_rfl
theorem find106y (v : Value) (k : Nat) (w : World) : (Instr.findKey 106 (.agg #[.int .i64 0, .int .i64 0]) [{ key := .agg #[.int .i64 0, .int .i64 0], val := v, born := k }]).run Try.prog w = .ok (some (0, v)) w := by kernel_rfl
/-- At b a map lies: empty, or with the one key. -/
def KMn (w : World) (b : Nat) : Prop := ∃ c, w.heap[b]? = some (.map #[] c)
def KMy (w : World) (b : Nat) : Prop := ∃ v k c, w.heap[b]? = some (.map #[{ key := .agg #[.int .i64 0, .int .i64 0], val := v, born := k }] c)
def mval (w : World) (b : Nat) : Value := match w.heap[b]? with | some (.map es _) => ((es[0]?).map (·.val)).getD undef | _ => undef
/-- The world with another object at b. -/
def putM (w : World) (b : Nat) (o : Obj) : World := { w with heap := w.heap.setIfInBounds b o }
def putK (w : World) (b : Nat) (v : Value) : World := putM w b (match w.heap[b]? with | some (.map _ c) => .map #[{ key := .agg #[.int .i64 0, .int .i64 0], val := v, born := c }] (c + 1) | some o => o | none => .map #[] 0)
def delK (w : World) (b : Nat) : World := putM w b (match w.heap[b]? with | some (.map _ c) => .map #[] c | some o => o | none => .map #[] 0)
theorem look70n {w : World} {b : Nat} (h : KMn w b) (n : Int) : (Instr.lookup 70 (.map (some b)) (.agg #[.int .i64 0, .int .i64 n]) true).run Try.prog w = .ok (.tuple #[.agg #[.int .i64 0, .int .i64 0, .int .i64 0, .int .i64 0, .int .i64 0, .bool false], .bool false]) w := by
  obtain ⟨c, h⟩ := h
  simp [Instr.lookup, run_underlying Try.underlying70, MapKept.run_getObj_map h, check106, find106n, zero104, Result.andThen]
theorem look70y {w : World} {b : Nat} (h : KMy w b) : (Instr.lookup 70 (.map (some b)) (.agg #[.int .i64 0, .int .i64 0]) true).run Try.prog w = .ok (.tuple #[mval w b, .bool true]) w := by
  obtain ⟨v, k, c, h⟩ := h
  simp [Instr.lookup, run_underlying Try.underlying70, MapKept.run_getObj_map h, check106, find106y, Result.andThen, mval, h]
theorem store70 {w : World} {b : Nat} (h : KMn w b) (v : Value) : (Instr.mapUpdate 70 (.map (some b)) (.agg #[.int .i64 0, .int .i64 0]) v).run Try.prog w = .ok () (putK w b v) := by
  obtain ⟨c, h⟩ := h
  simp [Instr.mapUpdate, run_underlying Try.underlying70, MapKept.run_getObj_map h, check106, find106n, run_setObj_map _ h, Result.andThen, putM, putK, h]
theorem del70 {w : World} {b : Nat} (h : KMy w b) (ty : TypeId) : (Builtin.delete_ #[70, 106] ty #[.map (some b), .agg #[.int .i64 0, .int .i64 0]]).run Try.prog w = .ok (.tuple #[]) (delK w b) := by
  obtain ⟨v, k, c, h⟩ := h
  simp [Builtin.delete_, run_underlying Try.underlying70, MapKept.run_getObj_map h, check106, find106y, run_setObj_map _ h, Result.andThen, putM, delK, h]
theorem putM_mod (w : World) (b : Nat) (o : Obj) : Tn.Mod [b] w (putM w b o) := ⟨rfl, rfl, rfl, by simp [putM], fun i hi hS => by
  have : b ≠ i := by simpa [eq_comm] using hS
  simp [putM, Array.getElem?_setIfInBounds, this]⟩
theorem putM_at (w : World) (b : Nat) (o : Obj) (hb : b < w.heap.size) : (putM w b o).heap[b]? = some o := by simp [putM, hb]
theorem putK_at {w : World} {b c : Nat} (h : w.heap[b]? = some (.map #[] c)) (v : Value) : (putK w b v).heap[b]? = some (.map #[{ key := .agg #[.int .i64 0, .int .i64 0], val := v, born := c }] (c + 1)) := by
  unfold putK
  rw [h]
  exact putM_at w b _ (Array.getElem?_eq_some_iff.1 h).1
theorem KMn.alloc {w : World} {b : Nat} (h : KMn w b) (o : Obj) : KMn (w.alloc o) b := by
  obtain ⟨c, h⟩ := h
  exact ⟨c, (MapKept.heap_alloc w o).2 b (Array.getElem?_eq_some_iff.1 h).1 ▸ h⟩
attribute [local go_sem] look70n look70y store70 del70

section
variable {w w' : World} {m fb x mb kb p1 bf bp v db r : Nat} {F F' : Nat → Nat → Int} {f : Int → Option Value} {es : Array MapEntry} {c : Nat}

set_option maxRecDepth 100000 in
set_option maxHeartbeats 1000000 in
theorem maps_f (g : GH w x m mb kb f #[] c) : Calls Try.prog 36 #[.pointer (some ⟨x, 0, none⟩), .int .i64 0] w fun e w' => e = .returned (.slice none 0 0) ∧ Tn.Mod [] w w' := by
  have HN := hid (gnone_f g)
  have HG := hid g
  clear g
  go_enter Try.func36, Try.ntmps36
  go_wp2_with (go_at_call 23; refine HN.out.mono ?_; rintro e w' ⟨rfl, rfl⟩)
  go_loopw [5, 11] (fun l i wr => ∃ j : Nat, j ≤ 16 ∧ l = .slice none 0 0 ∧ i = .int .i64 (j : Nat) ∧ Hid (Tn.Mod [] w wr)) (fun _ i _ => 16 - (intOf i).toNat)
  case atStart => exact ⟨0, by omega, rfl, rfl, hid (Mod.refl _ _)⟩
  case round =>
    obtain ⟨j, hj, rfl, rfl, hM⟩ := hrel
    by_cases hlt : j < 16
    · have hG := HG.out.mod0 hM.out
      have c2 := hG.c2
      have km : KMn wr kb := ⟨_, hG.km⟩
      have hltI : (j : Int) < 16 := by omega
      clear hG
      go_wp2
      go_roundw
      case rel => exact ⟨j + 1, by omega, rfl, by go_num, hid (hM.out.alloc _)⟩
      case measure => simp [intOf]; omega
    · obtain rfl : j = 16 := by omega
      clear hlt
      go_wp2
      go_ret
      exact ⟨rfl, hM.out⟩

theorem size104 : (Try.prog.info? 104).map (·.size) = some 6 := by kernel_rfl
end
end Go.Proofs.Ythakplgehanopaa
