/-
  Commit: Reverse and Sort of a row of strings.
-/
import Derived.Test.YtlhjocgkmeoheaaDoorAb
import Derived.Test.YtlhjocgkmeoheaaDoorSh
import Derived.Sort.OwnSorted
namespace Go.Proofs.YtlhjocgkmeoheaaDoor
open Go.RowKit Go.Tn Go.Sort
open Go.Proofs

/-- A row of strings. -/
def RowS (w : World) (q : Nat) (l : List ByteArray) : Prop := ∀ i, i < l.length → w.cell? ⟨q, i, none⟩ = some (.string (l.getD i ByteArray.empty)) ∧ w.frozen? ⟨q, i, none⟩ = false
def bls (l : List ByteArray) : List (List UInt8) := l.map (·.data.toList)

theorem enc_bl (s : ByteArray) : encStr s.data.toList = .string s := by
  show Value.string (ba s.data.toList) = _
  rw [ba_toList]
theorem RowS.holds {w : World} {q : Nat} {l : List ByteArray} (h : RowS w q l) : Holds encStr w q 0 (bls l).toArray := fun j hj => by
  have hj' : j < l.length := by simpa [bls] using hj
  obtain ⟨h1, h2⟩ := h j hj'
  rw [Nat.zero_add]
  refine ⟨?_, h2⟩
  rw [h1]
  have : (bls l).toArray[j]! = (l.getD j ByteArray.empty).data.toList := by
    simp [bls, List.getD_eq_getElem?_getD, List.getElem?_eq_getElem hj', getElem!_def]
  rw [this, enc_bl]
theorem RowS.of_holds {w : World} {q : Nat} {l : List (List UInt8)} (h : Holds encStr w q 0 l.toArray) : RowS w q (l.map ba) := fun i hi => by
  have hi' : i < l.length := by simpa using hi
  obtain ⟨h1, h2⟩ := h i (by simpa using hi')
  rw [Nat.zero_add] at h1 h2
  refine ⟨?_, h2⟩
  rw [h1]
  have : l.toArray[i]! = l.getD i [] := by
    simp [List.getD_eq_getElem?_getD, List.getElem?_eq_getElem hi', getElem!_def]
  rw [this]
  show some (Value.string (ba _)) = _
  simp [List.getD_eq_getElem?_getD, List.getElem?_eq_getElem hi']
theorem ba_bls (l : List ByteArray) : (bls l).map ba = l := by
  unfold bls
  rw [List.map_map]
  conv => rhs; rw [← List.map_id l]
  exact List.map_congr_left fun s _ => ba_toList s

theorem blk_putRow {w : World} {q n : Nat} {d : Array (List UInt8)} (h : ∃ cs, Blk w q 9 cs) : ∃ cs, Blk (putRow encStr (Sort.ahead w n) q 0 d) q 9 cs := by
  obtain ⟨cs, h⟩ := h
  refine ⟨putCells encStr 0 d cs, ?_⟩
  unfold Blk at h ⊢
  simp [putRow, mapBlock, Sort.ahead, Array.getElem?_modify, h, onCells]
theorem rev_f {w : World} {q cap : Nat} {l : List ByteArray} (h : RowS w q l) (hb : ∃ cs, Blk w q 9 cs) (hl : l.length ≤ 100000) : Calls Tryd.prog 24 #[.slice (some ⟨q, 0, none⟩) l.length cap] w fun e w' => e = .returned (.tuple #[]) ∧ RowS w' q l.reverse ∧ (∃ cs, Blk w' q 9 cs) ∧ Tn.Mod [q] w w' := by
  have hln : (bls l).length = l.length := by simp [bls]
  have := Tryd.slices_Reverse_string q 0 cap (bls l) w h.holds (by omega)
  rw [hln] at this
  refine this.mono ?_
  rintro e w' ⟨rfl, n, rfl⟩
  refine ⟨rfl, ?_, blk_putRow hb, ?_⟩
  · have h2 : Holds encStr (Sort.ahead w n) q 0 (bls l).toArray := h.holds
    have h3 := RowS.of_holds (holds_putRow encStr (Sort.ahead w n) q 0 (bls l).toArray (bls l).reverse.toArray h2 (by simp))
    rw [List.map_reverse, ba_bls] at h3
    exact h3
  · have hg : w.grownBy (grow (putRow encStr (Sort.ahead w n) q 0 (bls l).reverse.toArray) #[]) (some q) := grownBy_sorted _
    rw [grow_empty] at hg
    exact (Mod.refl [q] w).grown hg (by simp)

theorem sort_f {w : World} {q cap : Nat} {l : List ByteArray} (h : RowS w q l) (hq : q < w.heap.size) (hl : l.length ≤ 100000) : Calls Tryd.prog 28 #[.slice (some ⟨q, 0, none⟩) l.length cap] w fun e w' => e = .returned (.tuple #[]) ∧ RowS w' q (((bls l).mergeSort fun x y => decide (x ≤ y)).map ba) ∧ Tn.Mod [q] w w' := by
  have hln : (bls l).length = l.length := by simp [bls]
  have := Tryd.slices_Sort_string q 0 cap (bls l) w h.holds hq (by omega)
  rw [hln] at this
  refine this.mono ?_
  rintro e w' ⟨rfl, n, os, rfl⟩
  have h2 : Holds encStr (Sort.ahead w n) q 0 (bls l).toArray := h.holds
  have h3 := RowS.of_holds (holds_grow encStr _ os q 0 _ (by simpa using hq) (holds_putRow encStr (Sort.ahead w n) q 0 (bls l).toArray ((bls l).mergeSort fun x y => decide (x ≤ y)).toArray h2 (by simp)))
  have hg : w.grownBy (grow (putRow encStr (Sort.ahead w n) q 0 ((bls l).mergeSort fun x y => decide (x ≤ y)).toArray) os) (some q) := grownBy_sorted _
  exact ⟨rfl, h3, (Mod.refl [q] w).grown hg (by simp)⟩
end Go.Proofs.YtlhjocgkmeoheaaDoor
