/-
  Frames: which blocks a call may have turned, over any program. Plain lemmas of this claim; no Go function is named here.
-/
import Derived.WalkKit
import Derived.Below
import Derived.Deep.Draws
import Derived.Test.YtfolppcadckmaaaGreatMap
namespace Go.Tn
open Go.RowKit

theorem hid {p : Prop} (h : p) : Hid p := h

/-- Of the blocks that lay in w only those of S may have turned in w'. -/
structure Mod (S : List Nat) (w w' : World) : Prop where
  os : w'.os = w.os
  tape : w'.tape = w.tape
  output : w'.output = w.output
  size : w.heap.size ≤ w'.heap.size
  block : ∀ k, k < w.heap.size → k ∉ S → w'.heap[k]? = w.heap[k]?

section
variable {S T : List Nat} {w w' w'' : World}

theorem Mod.refl (S : List Nat) (w : World) : Mod S w w := ⟨rfl, rfl, rfl, Nat.le_refl _, fun _ _ _ => rfl⟩

/-- Two steps; what the second one turned lies in S or is new. -/
theorem Mod.trans (h : Mod S w w') (k : Mod T w' w'') (hT : ∀ t, t ∈ T → t ∈ S ∨ w.heap.size ≤ t) : Mod S w w'' :=
  ⟨k.os.trans h.os, k.tape.trans h.tape, k.output.trans h.output, Nat.le_trans h.size k.size, fun i hi hS =>
    (k.block i (Nat.lt_of_lt_of_le hi h.size) (fun ht => by rcases hT i ht with h | h; exact hS h; omega)).trans (h.block i hi hS)⟩

theorem Mod.andThen (h : Mod S w w') (k : Mod S w' w'') : Mod S w w'' := h.trans k fun _ => .inl

theorem Mod.mono (h : Mod S w w') (hT : ∀ t, t ∈ S → t ∈ T ∨ w.heap.size ≤ t) : Mod T w w' := (Mod.refl T w).trans h hT

theorem Mod.alloc (h : Mod S w w') (o : Obj) : Mod S w (w'.alloc o) :=
  ⟨h.os, h.tape, h.output, by simp; have := h.size; omega, fun i hi hS => (Below.heap_alloc w' o i (Nat.lt_of_lt_of_le hi h.size)).trans (h.block i hi hS)⟩

theorem Mod.drew (h : Mod S w w') : Mod S w w'.drew := ⟨h.os, h.tape, h.output, h.size, h.block⟩
theorem Mod.drewN (h : Mod S w w') (n : Nat) : Mod S w (w'.drewN n) := ⟨h.os, h.tape, h.output, h.size, h.block⟩

theorem Mod.setCell (h : Mod S w w') {p : Addr} (hp : p.block ∈ S ∨ w.heap.size ≤ p.block) (u : Value) : Mod S w (w'.setCell p u) :=
  ⟨h.os, h.tape, h.output, by simp; exact h.size, fun i hi hS =>
    (Below.heap_setCell w' p u i (fun e => by rcases hp with hp | hp; exact hS (e ▸ hp); omega)).trans (h.block i hi hS)⟩

theorem Mod.mput (h : Mod S w w') {b : Nat} (hb : b ∈ S ∨ w.heap.size ≤ b) (n : Int) (v : Value) : Mod S w (Tn.mput w' b n v) :=
  ⟨h.os, h.tape, h.output, by simp; exact h.size, fun i hi hS =>
    (mput_heap_other w' b n v (fun e => by subst e; rcases hb with hb | hb; exact hS hb; omega)).trans (h.block i hi hS)⟩

theorem Mod.mdel (h : Mod S w w') {b : Nat} (hb : b ∈ S ∨ w.heap.size ≤ b) (n : Int) : Mod S w (Tn.mdel w' b n) :=
  ⟨h.os, h.tape, h.output, by simp; exact h.size, fun i hi hS =>
    (mdel_heap_other w' b n (fun e => by subst e; rcases hb with hb | hb; exact hS hb; omega)).trans (h.block i hi hS)⟩

theorem Mod.grown (h : Mod S w w') {row : Option Nat} (hg : w'.grownBy w'' row) (hr : ∀ k, row = some k → k ∈ S ∨ w.heap.size ≤ k) : Mod S w w'' :=
  ⟨hg.os.trans h.os, hg.tape.trans h.tape, hg.output.trans h.output, Nat.le_trans h.size hg.size, fun i hi hS =>
    (hg.block i (Nat.lt_of_lt_of_le hi h.size) (fun e => by rcases hr i e.symm with h | h; exact hS h; omega)).trans (h.block i hi hS)⟩

theorem Mod.below (h : Mod S w w') {B : Nat} (hB : B ≤ w.heap.size) (hS : ∀ s, s ∈ S → B ≤ s) : Below B w w' :=
  ⟨h.os, h.tape, h.output, h.size, fun k hk => h.block k (by omega) (fun hs => by have := hS k hs; omega)⟩

theorem Mod.of_below (h : Below w.heap.size w w') : Mod S w w' := ⟨h.os, h.tape, h.output, h.size, fun k hk _ => h.block k hk⟩

theorem Mod.cell (h : Mod S w w') {p : Addr} (hp : p.block < w.heap.size) (hS : p.block ∉ S) : w'.cell? p = w.cell? p :=
  World.cell?_of_block (w := w) (h.block p.block hp hS)
theorem Mod.frozen (h : Mod S w w') {p : Addr} (hp : p.block < w.heap.size) (hS : p.block ∉ S) : w'.frozen? p = w.frozen? p :=
  World.frozen?_of_block (w := w) (h.block p.block hp hS)

theorem IMap.mod {b : Nat} {f : Int → Option Value} (h : IMap w b f) (hm : Mod S w w') (hS : b ∉ S) : IMap w' b f := h.of_heap (hm.block b h.lt hS)

end

/-- Block g is just the cells cs of element type t, none frozen. -/
def Blk (w : World) (g : Nat) (t : TypeId) (cs : Array Value) : Prop := w.heap[g]? = some (.cells cs t (0, 0))

section
variable {w w' : World} {g : Nat} {t : TypeId} {cs : Array Value}
theorem Blk.lt (h : Blk w g t cs) : g < w.heap.size := (Array.getElem?_eq_some_iff.1 h).1
theorem Blk.cell (h : Blk w g t cs) (i : Nat) : w.cell? ⟨g, i, none⟩ = cs[i]? := cell_of_row w g i cs t (0, 0) h
theorem Blk.frozen (h : Blk w g t cs) (i : Nat) : w.frozen? ⟨g, i, none⟩ = false := by
  unfold Blk at h
  simp [World.frozen?, h]
theorem Blk.new (w : World) (t : TypeId) (cs : Array Value) : Blk (w.alloc (.cells cs t)) w.heap.size t cs := heap_alloc_new w _
theorem Blk.of_heap (h : Blk w g t cs) (hh : w'.heap[g]? = w.heap[g]?) : Blk w' g t cs := hh.trans h
theorem Blk.mod {S : List Nat} (h : Blk w g t cs) (hm : Mod S w w') (hS : g ∉ S) : Blk w' g t cs := h.of_heap (hm.block g h.lt hS)
theorem Blk.set_ (h : Blk w g t cs) (i : Nat) (u : Value) : Blk (w.setCell ⟨g, i, none⟩ u) g t (cs.setIfInBounds i u) := by
  unfold Blk at h ⊢
  simp [World.setCell, Array.getElem?_modify, h]
theorem Blk.ne_ {g' : Nat} {t' : TypeId} {cs' : Array Value} (h : Blk w g t cs) (h' : Blk w g' t' cs') (hne : t ≠ t') : g ≠ g' := by
  rintro rfl
  unfold Blk at h h'
  rw [h] at h'
  injection h' with h'
  injection h' with _ ht
  exact hne ht
theorem Blk.ne_map {b : Nat} {f : Int → Option Value} (h : Blk w g t cs) (h' : IMap w b f) : g ≠ b := by
  rintro rfl
  obtain ⟨es, c, hb, _⟩ := h'
  unfold Blk at h
  rw [h] at hb
  cases hb
end

end Go.Tn
