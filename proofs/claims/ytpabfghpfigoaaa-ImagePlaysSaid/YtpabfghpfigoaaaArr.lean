/-
  Layer 12: arrays of 64 bytes as one value: made, built, stored and read whole.
-/
import Derived.Test.YtpabfghpfigoaaaRows
import Derived.WalkKit
import Derived.WalkMore
import Derived.WalkLawsBesides
import Derived.WalkSpells
import Derived.OpenShut
import Derived.Below
import Derived.Laws.ResultCell
import Derived.Laws.Rows
import Derived.Laws.Tables
import Derived.Deep.MidRow
import Derived.Test.YtpabfghpfigoaaaBase
namespace Go.Tn
theorem Mod.setRow {S : List Nat} {w w' : World} (h : Mod S w w') {g : Nat} (hg : g ∈ S ∨ w.heap.size ≤ g) (cs : Array Value) : Mod S w (w'.setRow g cs) :=
  ⟨h.os, h.tape, h.output, by simp; exact h.size, fun i hi hS => by
    rw [setRow_other w' g i cs (fun e => by subst e; rcases hg with hg | hg; exact hS hg; omega)]
    exact h.block i hi hS⟩
theorem Blk.setRow {w : World} {g : Nat} {t : TypeId} {old cs : Array Value} (h : Blk w g t old) : Blk (w.setRow g cs) g t cs := setRow_heap w g old cs t (0, 0) h
theorem Blk.range {w : World} {g : Nat} {t : TypeId} {cs : Array Value} (h : Blk w g t cs) : w.rangeAt g 0 cs.toList := fun j v hj => by
  rw [Nat.zero_add, h.cell]
  simpa using hj
end Go.Tn

namespace Go.Proofs.Ytpabfghpfigoaaa
open Go.RowKit Go.Tn

def z62 : Array Value := Array.replicate 64 (.int .u8 0)
theorem z62_size : z62.size = 64 := by simp [z62]
theorem z62_one : z62.all (·.oneCell') = true := by kernel_rfl
theorem size62 : (Try.prog.info? 62).map (·.size) = some 64 := by kernel_rfl

theorem zero62 (w : World) : (zeroValue 62).run Try.prog w = .ok (.agg z62) w := by kernel_rfl
theorem alloc62 (w : World) : (Instr.alloc 62 true (.tuple #[])).run Try.prog w = .ok (.pointer (some ⟨w.heap.size, 0, none⟩)) (w.alloc (.cells z62 62)) := by
  unfold Instr.alloc
  simp only [if_true, Sem.run_bind, zero62, Result.andThen_ok]
  simp [newVar, newRow, Value.cells]
theorem build62 (w : World) : (Instr.build 62 #[]).run Try.prog w = .ok (.agg z62) w := by kernel_rfl

section
variable {ops : Array Oper} {rest : List Oper} {o : Oper} {a : Act} {w : World} {Q : Exit → Act → World → Prop}
theorem wpList_alloc62 (hgd : o.guard = none) (ho : o.op = .alloc 62) (hK : wpList Try.prog ops Q rest (a.put o.dst (.pointer (some ⟨w.heap.size, 0, none⟩))) (w.alloc (.cells z62 62))) : wpList Try.prog ops Q (o :: rest) a w :=
  wpList_plain hgd fun _ hK' => by
    unfold Oper.wp execOp
    simp only [ho, Sem.run_bind, Sem.run_pure, Result.andThen_ok, alloc62]
    exact hK' _ _ hK
theorem wpList_build62 (hgd : o.guard = none) (ho : o.op = .build 62 #[]) (hK : wpList Try.prog ops Q rest (a.put o.dst (.agg z62)) w) : wpList Try.prog ops Q (o :: rest) a w :=
  wpList_plain hgd fun _ hK' => by
    unfold Oper.wp execOp
    simp only [ho, Sem.run_bind, Sem.run_pure, Result.andThen_ok, build62, List.map_toArray, List.map_nil]
    exact hK' _ _ hK
end

theorem load62 {w : World} {g : Nat} {t : TypeId} {cs : Array Value} (h : Blk w g t cs) (hs : cs.size = 64) : (loadVar 62 ⟨g, 0, none⟩).run Try.prog w = .ok (.agg cs) w := by
  have := run_loadVar_mid (P := Try.prog) w g 0 62 cs.toList _ h.range Try.underlying62 rfl (by rw [size62]; simp [hs])
  simpa using this

theorem results62 {fn : Func} {p u : Tmp} (h : fn.results = #[.cell p 62, .tmp u]) {tmps : Array Value} {w : World} {g : Nat} {t : TypeId} {cs : Array Value} (hp : tmps.getD p undef = .pointer (some ⟨g, 0, none⟩)) (hb : Blk w g t cs) (hs : cs.size = 64) :
    (results fn tmps).run Try.prog w = .ok (.tuple #[.agg cs, tmps.getD u undef]) w := by
  rw [results_cell_tmp h, hp]
  simp only [asAddr, Sem.run_pure, Result.andThen_ok, load62 hb hs]

end Go.Proofs.Ytpabfghpfigoaaa
