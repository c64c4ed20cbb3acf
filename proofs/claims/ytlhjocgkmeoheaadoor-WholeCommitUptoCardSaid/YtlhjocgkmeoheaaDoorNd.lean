/-
  Commit: a node in the heap; May, writes, reads, heirs.
-/
import Derived.Test.YtlhjocgkmeoheaaDoorRs
import Derived.Test.YtlhjocgkmeoheaaDoorProg
import Derived.LoopTactic
import Derived.Laws.ResultCell
namespace Go.Proofs.YtlhjocgkmeoheaaDoor
open Go.RowKit Go.Tn
open Go.Proofs

/-- Permissions: domain 0's alone. -/
def PB (w : World) (pb : Nat) : Prop := ∃ r u : Bool, Blk w pb 36 #[.int .i64 0, .bool r, .bool u]
/-- One byte. -/
def VB (w : World) (b : Nat) (z : Int) : Prop := ∃ cs, Blk w b 5 cs ∧ cs[0]? = some (.int .u8 z)
/-- A node: its value is nothing, or one byte. -/
def Node (w : World) (v : Value) (o : Option Int) : Prop := ∃ (a : Option Addr) (l c pb pc : Nat), v = .agg #[.slice a l c, .slice (some ⟨pb, 0, none⟩) 1 pc] ∧ PB w pb ∧ (match o with | none => a = none ∧ l = 0 ∧ c = 0 | some z => ∃ b, a = some ⟨b, 0, none⟩ ∧ l = 1 ∧ VB w b z) ∧ 1 ≤ pc

/-- The blocks in S hold neither permissions nor bytes. -/
def Cold (S : List Nat) (w : World) : Prop := ∀ s ∈ S, ∀ cs t, Blk w s t cs → t ≠ 36 ∧ t ≠ 5
theorem Cold.nil (w : World) : Cold [] w := fun s h => by cases h
theorem Cold.cons {S : List Nat} {w : World} {s : Nat} (h : Cold S w) (hs : ∀ cs t, Blk w s t cs → t ≠ 36 ∧ t ≠ 5) : Cold (s :: S) w := fun x hx => by
  rcases List.mem_cons.1 hx with rfl | hx
  · exact hs
  · exact h x hx
theorem cold_blk {w : World} {s : Nat} {cs : Array Value} {t : TypeId} (h : Blk w s t cs) (h1 : t ≠ 36) (h2 : t ≠ 5) : ∀ cs' t', Blk w s t' cs' → t' ≠ 36 ∧ t' ≠ 5 := fun cs' t' h' => by
  unfold Blk at h h'
  rw [h] at h'
  injection h' with h'
  injection h' with e1 e2
  subst e2
  exact ⟨h1, h2⟩
theorem cold_map {w : World} {s : Nat} {es : Array MapEntry} {c : Nat} (h : w.heap[s]? = some (.map es c)) : ∀ cs' t', Blk w s t' cs' → t' ≠ 36 ∧ t' ≠ 5 := fun cs' t' h' => by
  unfold Blk at h'
  rw [h] at h'
  injection h' with h'
  cases h'
theorem cold_new {w : World} {s : Nat} (h : w.heap.size ≤ s) : ∀ cs' t', Blk w s t' cs' → t' ≠ 36 ∧ t' ≠ 5 := fun cs' t' h' => by
  have := h'.lt
  omega

section
variable {w w' : World}
theorem PB.mod {S : List Nat} {pb : Nat} (h : PB w pb) (hm : Tn.Mod S w w') (hc : Cold S w) : PB w' pb := by
  obtain ⟨r, u, hb⟩ := h
  exact ⟨r, u, hb.mod hm fun hS => (hc pb hS _ _ hb).1 rfl⟩
theorem VB.mod {S : List Nat} {b : Nat} {z : Int} (h : VB w b z) (hm : Tn.Mod S w w') (hc : Cold S w) : VB w' b z := by
  obtain ⟨cs, hb, h0⟩ := h
  exact ⟨cs, hb.mod hm fun hS => (hc b hS _ _ hb).2 rfl, h0⟩
theorem Node.mod {S : List Nat} {v : Value} {o : Option Int} (h : Node w v o) (hm : Tn.Mod S w w') (hc : Cold S w) : Node w' v o := by
  obtain ⟨a, l, c, pb, pc, h1, h2, h3, h4⟩ := h
  refine ⟨a, l, c, pb, pc, h1, h2.mod hm hc, ?_, h4⟩
  cases o with
  | none => exact h3
  | some z =>
    obtain ⟨b, h4, h5, h6⟩ := h3
    exact ⟨b, h4, h5, h6.mod hm hc⟩

theorem mayp_f (pb c : Nat) (w : World) : Calls Tryd.prog 33 #[.slice (some ⟨pb, 0, none⟩) 1 c, .int .i64 0] w fun e w' => e = .returned (.tuple #[.bool true, .bool true]) ∧ w = w' := by
  go_enter Tryd.func33, Tryd.ntmps33
  go_wp2
  go_ret2
  exact ⟨rfl, rfl⟩

theorem writes_f {v : Value} {o : Option Int} (h : Node w v o) : Calls Tryd.prog 21 #[v, .int .i64 0] w fun e w' => e = .returned (.bool true) ∧ Tn.Mod [] w w' := by
  obtain ⟨a, l, c, pb, pc, rfl, _, _⟩ := h
  go_enter Tryd.func21, Tryd.ntmps21
  go_wp2_with (go_at_call 33; refine (mayp_f _ _ _).mono ?_; rintro e w' ⟨rfl, rfl⟩)
  go_ret
  exact ⟨rfl, (Mod.refl [] w).alloc _⟩

theorem reads_f {v : Value} {o : Option Int} (h : Node w v o) : Calls Tryd.prog 29 #[v, .int .i64 0] w fun e w' => e = .returned (.bool true) ∧ Tn.Mod [] w w' := by
  obtain ⟨a, l, c, pb, pc, rfl, _, _⟩ := h
  go_enter Tryd.func29, Tryd.ntmps29
  go_wp2_with (go_at_call 33; refine (mayp_f _ _ _).mono ?_; rintro e w' ⟨rfl, rfl⟩)
  go_ret
  exact ⟨rfl, (Mod.refl [] w).alloc _⟩

set_option maxRecDepth 100000 in
set_option maxHeartbeats 2000000 in
theorem heirs_f {pb c : Nat} (h : PB w pb) (hc : 1 ≤ c) : Calls Tryd.prog 25 #[.int .i64 0, .slice (some ⟨pb, 0, none⟩) 1 c] w fun e w' => ∃ nb, e = .returned (.slice (some ⟨nb, 0, none⟩) 1 1) ∧ PB w' nb ∧ Tn.Mod [] w w' := by
  obtain ⟨r, u, hb⟩ := h
  have c0 := hb.cell 0
  have c1 := hb.cell 1
  have c2 := hb.cell 2
  simp only [List.getElem?_toArray, List.getElem?_cons_zero, List.getElem?_cons_succ] at c0 c1 c2
  have hlt := hb.lt
  clear hb
  go_enter Tryd.func25, Tryd.ntmps25
  go_wp2
  all_goals
    go_loopw [6, 19] (fun l i wr => l = .slice (some ⟨w.heap.size + 1, 0, none⟩) 1 1 ∧ i = .int .i64 0 ∧ Hid (PB wr (w.heap.size + 1)) ∧ Hid (Tn.Mod [] w wr)) (fun _ _ _ => 0)
    case atStart =>
      refine ⟨rfl, rfl, hid ⟨r, u, ?_⟩, hid (((Mod.refl [] w).alloc _).alloc _)⟩
      have := Blk.new (w.alloc (.cells #[.int .i64 0, .bool r, .bool u] 36)) 36 #[.int .i64 0, .bool r, .bool u]
      rwa [World.size_alloc] at this
    case round =>
      obtain ⟨rfl, rfl, hP, hM⟩ := hrel
      go_wp2
      go_ret
      exact ⟨_, rfl, hP.out, hM.out⟩
end
end Go.Proofs.YtlhjocgkmeoheaaDoor
