/-
  Layer 7: event channels in the heap; arrays of ports as one value.
-/
import Derived.Test.YtcgeeepjpodopaaRows
import Derived.WalkKit
import Derived.WalkMore
import Derived.WalkLawsBesides
import Derived.WalkSpells
import Derived.OpenShut
import Derived.Below
import Derived.Laws.ResultCell
import Derived.Laws.Rows
import Derived.Laws.Tables
import Derived.Deep.MidRow
import Derived.Deep.AppendLies
import Derived.StillTailTactics
import Derived.Deep.QuietTactic
import Derived.BigQuiet
import Derived.Deep.Cut
import Derived.Test.YtcgeeepjpodopaaBase
namespace Go.Proofs.Ytcgeeepjpodopaa
open Go.RowKit Go.Tn

structure Pt where
  k : Int
  r : Int
  p : Int
  v : Int
  pe : Bool
  ma : Bool

def Pt.zero : Pt := ⟨0, 0, 0, 0, false, false⟩
def Pt.val (P : Pt) : Value := .agg #[.int .i64 P.k, .int .i64 P.r, .int .i64 P.p, .int .i64 P.v, .bool P.pe, .bool P.ma]

/-- A port's six cells. -/
structure PC (cs : Array Value) (o : Nat) (P : Pt) : Prop where
  k : cs[o]? = some (.int .i64 P.k)
  r : cs[o + 1]? = some (.int .i64 P.r)
  p : cs[o + 2]? = some (.int .i64 P.p)
  v : cs[o + 3]? = some (.int .i64 P.v)
  pe : cs[o + 4]? = some (.bool P.pe)
  ma : cs[o + 5]? = some (.bool P.ma)

def isI0 (x : Option Value) : Bool := match x with | some (.int .i64 n) => n == 0 | _ => false
def isB0 (x : Option Value) : Bool := match x with | some (.bool b) => !b | _ => false
theorem isI0_eq {x : Option Value} (h : isI0 x = true) : x = some (.int .i64 0) := by
  unfold isI0 at h
  split at h
  · simp at h; rw [h]
  · cases h
theorem isB0_eq {x : Option Value} (h : isB0 x = true) : x = some (.bool false) := by
  unfold isB0 at h
  split at h
  · simp at h; rw [h]
  · cases h
def zeroAt (cs : Array Value) (o : Nat) : Bool := isI0 cs[o]? && isI0 cs[o + 1]? && isI0 cs[o + 2]? && isI0 cs[o + 3]? && isB0 cs[o + 4]? && isB0 cs[o + 5]?
theorem zeroAt_pc {cs : Array Value} {o : Nat} (h : zeroAt cs o = true) : PC cs o Pt.zero := by
  unfold zeroAt at h
  simp only [Bool.and_eq_true] at h
  obtain ⟨⟨⟨⟨⟨h0, h1⟩, h2⟩, h3⟩, h4⟩, h5⟩ := h
  exact ⟨isI0_eq h0, isI0_eq h1, isI0_eq h2, isI0_eq h3, isB0_eq h4, isB0_eq h5⟩

def isB1 (x : Option Value) : Bool := match x with | some (.bool b) => b | _ => false
theorem isB1_eq {x : Option Value} (h : isB1 x = true) : x = some (.bool true) := by
  unfold isB1 at h
  split at h
  · subst h; rfl
  · cases h
def newGood (cs : Array Value) : Bool := cs.size == 1545 && isB1 cs[0]? && isB0 cs[193]? && ((List.range 32).all fun i => zeroAt cs (1 + 6 * i)) && zeroAt cs 194
theorem built_good : (match Try.prog.built 46 [(0, .bool true)] with | some cs => newGood cs | none => false) = true := by kernel_rfl
theorem built_ex : ∃ cs, Try.prog.built 46 [(0, .bool true)] = some cs ∧ newGood cs = true := by
  have h := built_good
  split at h
  · rename_i cs hcs
    exact ⟨cs, hcs, h⟩
  · cases h
theorem size39 : (Try.prog.info? 39).map (·.size) = some 192 := by kernel_rfl

theorem info38 : (Try.prog.info? 38).map (·.size) = some 6 := by kernel_rfl
/-- A port out of an array of ports. -/
theorem index39 (cs : Array Value) (w : World) {i : Nat} (hi : i < 32) : (Instr.index 39 (.agg cs) (.int .i64 i)).run Try.prog w = .ok (.agg (cs.extract (i * 6) (i * 6 + 6))) w := by
  have hI := info38
  cases h38 : Try.prog.info? 38 with
  | none => rw [h38] at hI; cases hI
  | some t =>
    rw [h38] at hI
    simp only [Option.map_some, Option.some.injEq] at hI
    simp [Instr.index, run_underlying Try.underlying39, asIntOf, part, isAgg, sizeOf, typeInfo, h38, hI, hi]
theorem extract_pc {cs : Array Value} {o : Nat} {P : Pt} (h : PC cs o P) : cs.extract o (o + 6) = #[.int .i64 P.k, .int .i64 P.r, .int .i64 P.p, .int .i64 P.v, .bool P.pe, .bool P.ma] := by
  have hs := (Array.getElem?_eq_some_iff.1 h.ma).1
  apply Array.ext_getElem?
  intro j
  by_cases hj : j < 6
  · rw [Array.getElem?_extract]
    match j, hj with
    | 0, _ => simp [h.k]; omega
    | 1, _ => simp [h.r]; omega
    | 2, _ => simp [h.p]; omega
    | 3, _ => simp [h.v]; omega
    | 4, _ => simp [h.pe]; omega
    | 5, _ => simp [h.ma]; omega
  · rw [Array.getElem?_eq_none (by simp; omega), Array.getElem?_eq_none (by simp; omega)]

theorem PC.other {cs : Array Value} {o k : Nat} {P : Pt} {v : Value} (h : PC cs o P) (hk : k < o ∨ o + 6 ≤ k) : PC (cs.setIfInBounds k v) o P := by
  refine ⟨?_, ?_, ?_, ?_, ?_, ?_⟩
  · rw [Array.getElem?_setIfInBounds, if_neg (by omega)]; exact h.k
  · rw [Array.getElem?_setIfInBounds, if_neg (by omega)]; exact h.r
  · rw [Array.getElem?_setIfInBounds, if_neg (by omega)]; exact h.p
  · rw [Array.getElem?_setIfInBounds, if_neg (by omega)]; exact h.v
  · rw [Array.getElem?_setIfInBounds, if_neg (by omega)]; exact h.pe
  · rw [Array.getElem?_setIfInBounds, if_neg (by omega)]; exact h.ma
theorem set_at {cs : Array Value} {k : Nat} {x v : Value} (h : cs[k]? = some x) : (cs.setIfInBounds k v)[k]? = some v := by
  have := (Array.getElem?_eq_some_iff.1 h).1
  rw [Array.getElem?_setIfInBounds, if_pos rfl, if_pos this]
theorem set_ne {cs : Array Value} {k j : Nat} {v : Value} (h : k ≠ j) : (cs.setIfInBounds k v)[j]? = cs[j]? := by
  rw [Array.getElem?_setIfInBounds, if_neg h]
theorem PC.setk {cs : Array Value} {o : Nat} {P : Pt} (h : PC cs o P) (n : Int) : PC (cs.setIfInBounds o (.int .i64 n)) o { P with k := n } :=
  ⟨set_at h.k, (set_ne (by omega)).trans h.r, (set_ne (by omega)).trans h.p, (set_ne (by omega)).trans h.v, (set_ne (by omega)).trans h.pe, (set_ne (by omega)).trans h.ma⟩
theorem PC.setr {cs : Array Value} {o : Nat} {P : Pt} (h : PC cs o P) (n : Int) : PC (cs.setIfInBounds (o + 1) (.int .i64 n)) o { P with r := n } :=
  ⟨(set_ne (by omega)).trans h.k, set_at h.r, (set_ne (by omega)).trans h.p, (set_ne (by omega)).trans h.v, (set_ne (by omega)).trans h.pe, (set_ne (by omega)).trans h.ma⟩
theorem PC.setp {cs : Array Value} {o : Nat} {P : Pt} (h : PC cs o P) (n : Int) : PC (cs.setIfInBounds (o + 2) (.int .i64 n)) o { P with p := n } :=
  ⟨(set_ne (by omega)).trans h.k, (set_ne (by omega)).trans h.r, set_at h.p, (set_ne (by omega)).trans h.v, (set_ne (by omega)).trans h.pe, (set_ne (by omega)).trans h.ma⟩
theorem PC.setv {cs : Array Value} {o : Nat} {P : Pt} (h : PC cs o P) (n : Int) : PC (cs.setIfInBounds (o + 3) (.int .i64 n)) o { P with v := n } :=
  ⟨(set_ne (by omega)).trans h.k, (set_ne (by omega)).trans h.r, (set_ne (by omega)).trans h.p, set_at h.v, (set_ne (by omega)).trans h.pe, (set_ne (by omega)).trans h.ma⟩
theorem PC.setpe {cs : Array Value} {o : Nat} {P : Pt} (h : PC cs o P) (n : Bool) : PC (cs.setIfInBounds (o + 4) (.bool n)) o { P with pe := n } :=
  ⟨(set_ne (by omega)).trans h.k, (set_ne (by omega)).trans h.r, (set_ne (by omega)).trans h.p, (set_ne (by omega)).trans h.v, set_at h.pe, (set_ne (by omega)).trans h.ma⟩
theorem PC.setma {cs : Array Value} {o : Nat} {P : Pt} (h : PC cs o P) (n : Bool) : PC (cs.setIfInBounds (o + 5) (.bool n)) o { P with ma := n } :=
  ⟨(set_ne (by omega)).trans h.k, (set_ne (by omega)).trans h.r, (set_ne (by omega)).trans h.p, (set_ne (by omega)).trans h.v, (set_ne (by omega)).trans h.pe, set_at h.ma⟩

/-- What the whole block of cells holds. -/
structure EvC (cs : Array Value) (P Q : Pt) (u : Bool) : Prop where
  s : cs.size = 1545
  made : cs[0]? = some (.bool true)
  p : PC cs 1 P
  q : PC cs 194 Q
  u : cs[193]? = some (.bool u)
  z : ∀ i, 1 ≤ i → i < 32 → PC cs (1 + 6 * i) Pt.zero
/-- The event channels in the heap. -/
def Ev (w : World) (x : Nat) (P Q : Pt) (u : Bool) : Prop := ∃ cs, Blk w x 46 cs ∧ EvC cs P Q u

theorem EvC.inP {cs : Array Value} {P P' Q : Pt} {u : Bool} (h : EvC cs P Q u) {k : Nat} {v : Value} (h1 : 1 ≤ k) (h2 : k < 7) (hp : PC (cs.setIfInBounds k v) 1 P') : EvC (cs.setIfInBounds k v) P' Q u :=
  ⟨by simpa using h.s, (set_ne (by omega)).trans h.made, hp, h.q.other (by omega), (set_ne (by omega)).trans h.u, fun i hi hi' => (h.z i hi hi').other (by omega)⟩
theorem EvC.inQ {cs : Array Value} {P Q Q' : Pt} {u : Bool} (h : EvC cs P Q u) {k : Nat} {v : Value} (h1 : 194 ≤ k) (h2 : k < 200) (hq : PC (cs.setIfInBounds k v) 194 Q') : EvC (cs.setIfInBounds k v) P Q' u :=
  ⟨by simpa using h.s, (set_ne (by omega)).trans h.made, h.p.other (by omega), hq, (set_ne (by omega)).trans h.u, fun i hi hi' => (h.z i hi hi').other (by omega)⟩
theorem EvC.inU {cs : Array Value} {P Q : Pt} {u : Bool} (h : EvC cs P Q u) (v : Bool) : EvC (cs.setIfInBounds 193 (.bool v)) P Q v :=
  ⟨by simpa using h.s, (set_ne (by omega)).trans h.made, h.p.other (by omega), h.q.other (by omega), set_at h.u, fun i hi hi' => (h.z i hi hi').other (by omega)⟩

theorem new_cells {cs : Array Value} (h : newGood cs = true) : EvC cs Pt.zero Pt.zero false := by
  unfold newGood at h
  simp only [Bool.and_eq_true, beq_iff_eq, List.all_eq_true, List.mem_range] at h
  obtain ⟨⟨⟨⟨h1, h2⟩, h3⟩, h4⟩, h5⟩ := h
  exact ⟨h1, isB1_eq h2, zeroAt_pc (h4 0 (by decide)), zeroAt_pc h5, isB0_eq h3, fun i _ hi => zeroAt_pc (h4 i hi)⟩

theorem wpList_build46 {ops : Array Oper} {rest : List Oper} {o : Oper} {a : Act} {w : World} {Q : Exit → Act → World → Prop} {cs : Array Value} (hcs : Try.prog.built 46 [(0, .bool true)] = some cs) (hgd : o.guard = none) (ho : o.op = .build 46 #[(0, .const (.bool true))])
    (hK : wpList Try.prog ops Q rest (a.put o.dst (.agg cs)) w) : wpList Try.prog ops Q (o :: rest) a w :=
  wpList_plain hgd fun _ hK' => by
    unfold Oper.wp execOp
    have hr := run_build (P := Try.prog) w 46 #[(0, .bool true)] cs hcs
    simp only [ho, Sem.run_bind, Sem.run_pure, Result.andThen_ok, List.map_toArray, List.map_cons, List.map_nil, Act.eval, hr]
    exact hK' _ _ hK

section
variable {w w' : World} {x : Nat} {P Q : Pt} {u : Bool}
theorem Ev.mod {S : List Nat} (h : Ev w x P Q u) (hm : Mod S w w') (hS : x ∉ S) : Ev w' x P Q u := by
  obtain ⟨cs, hb, hc⟩ := h
  exact ⟨cs, hb.mod hm hS, hc⟩
theorem Ev.lt (h : Ev w x P Q u) : x < w.heap.size := by
  obtain ⟨cs, hb, hc⟩ := h
  exact hb.lt

/-- 'New'. -/
theorem new_f (w : World) : Calls Try.prog 4 #[] w fun e w' => e = .returned (.pointer (some ⟨w.heap.size, 0, none⟩)) ∧ Ev w' w.heap.size Pt.zero Pt.zero false ∧ Mod [] w w' := by
  obtain ⟨cs, hcs, hg⟩ := built_ex
  have hgd := hid (new_cells hg)
  have HC := hid hcs
  clear hg hcs
  go_enter Try.func4, Try.ntmps4
  go_wp2_with (refine wpList_build46 HC.out rfl rfl ?_)
  go_ret
  exact ⟨rfl, ⟨cs, Blk.new w 46 cs, hgd.out⟩, (Mod.refl [] w).alloc _⟩

theorem none_f (c : w.cell? ⟨x, 0, none⟩ = some (.bool true)) : Calls Try.prog 20 #[.pointer (some ⟨x, 0, none⟩)] w fun e w' => e = .returned (.bool false) ∧ w = w' := by
  go_enter Try.func20, Try.ntmps20
  go_wp2
  go_ret
  exact ⟨rfl, rfl⟩
theorem Ev.made (h : Ev w x P Q u) : w.cell? ⟨x, 0, none⟩ = some (.bool true) := by
  obtain ⟨cs, hb, hc⟩ := h
  exact (hb.cell 0).trans hc.made
theorem side0 (c : w.cell? ⟨x, 0, none⟩ = some (.bool true)) : Calls Try.prog 14 #[.pointer (some ⟨x, 0, none⟩), .int .i64 0] w fun e w' => e = .returned (.tuple #[.pointer (some ⟨x, 1, none⟩), .int .i64 0]) ∧ w = w' := by
  have H := hid c
  clear c
  go_enter Try.func14, Try.ntmps14
  go_wp2_with (go_at_call 20; refine (none_f H.out).mono ?_; rintro e w' ⟨rfl, rfl⟩)
  go_ret2
  exact ⟨rfl, rfl⟩
theorem side1 (c : w.cell? ⟨x, 0, none⟩ = some (.bool true)) : Calls Try.prog 14 #[.pointer (some ⟨x, 0, none⟩), .int .i64 1] w fun e w' => e = .returned (.tuple #[.pointer (some ⟨x, 194, none⟩), .int .i64 0]) ∧ w = w' := by
  have H := hid c
  clear c
  go_enter Try.func14, Try.ntmps14
  go_wp2_with (go_at_call 20; refine (none_f H.out).mono ?_; rintro e w' ⟨rfl, rfl⟩)
  go_ret2
  exact ⟨rfl, rfl⟩
theorem there0 (c : w.cell? ⟨x, 0, none⟩ = some (.bool true)) : Calls Try.prog 16 #[.pointer (some ⟨x, 0, none⟩), .int .i64 0, .int .i64 0] w fun e w' => e = .returned (.tuple #[.pointer (some ⟨x, 1, none⟩), .int .i64 0]) ∧ w = w' := by
  have H := hid c
  clear c
  go_enter Try.func16, Try.ntmps16
  go_wp2_with (go_at_call 14; refine (side0 H.out).mono ?_; rintro e w' ⟨rfl, rfl⟩)
  go_ret2
  exact ⟨rfl, rfl⟩
theorem there1 (c : w.cell? ⟨x, 0, none⟩ = some (.bool true)) : Calls Try.prog 16 #[.pointer (some ⟨x, 0, none⟩), .int .i64 1, .int .i64 0] w fun e w' => e = .returned (.tuple #[.pointer (some ⟨x, 194, none⟩), .int .i64 0]) ∧ w = w' := by
  have H := hid c
  clear c
  go_enter Try.func16, Try.ntmps16
  go_wp2_with (go_at_call 14; refine (side1 H.out).mono ?_; rintro e w' ⟨rfl, rfl⟩)
  go_ret2
  exact ⟨rfl, rfl⟩
theorem taken0 (c : w.cell? ⟨x, 0, none⟩ = some (.bool true)) {k : Int} (hk : w.cell? ⟨x, 1, none⟩ = some (.int .i64 k)) (h0 : k ≠ 0) : Calls Try.prog 18 #[.pointer (some ⟨x, 0, none⟩), .int .i64 0, .int .i64 0] w fun e w' => e = .returned (.tuple #[.pointer (some ⟨x, 1, none⟩), .int .i64 0]) ∧ w = w' := by
  have H := hid c
  have ht : (k == 0) = false := by simpa using h0
  clear c h0
  go_enter Try.func18, Try.ntmps18
  go_wp2_with (go_at_call 16; refine (there0 H.out).mono ?_; rintro e w' ⟨rfl, rfl⟩)
  go_ret2
  exact ⟨rfl, rfl⟩
/-- 'is': is the port free? -/
theorem isfree (P : Pt) (w : World) : Calls Try.prog 22 #[P.val] w fun e w' => e = .returned (.bool (P.k == 0)) ∧ Mod [] w w' := by
  unfold Pt.val
  go_enter Try.func22, Try.ntmps22
  go_wp2
  go_ret
  exact ⟨rfl, (Mod.refl [] w).alloc _⟩
end

end Go.Proofs.Ytcgeeepjpodopaa
