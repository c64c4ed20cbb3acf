/-
  Layer 12: bytes as a string; a window of a slice.
-/
import Derived.Test.YtpabfghpfigoaaaWb
import Derived.Laws.BytesString
import Derived.Lib.SlBytesRow
namespace Go.Proofs.Ytpabfghpfigoaaa
open Go.RowKit Go.Tn
open Go.Proofs

def strG (g : Nat → Int) (len : Nat) : ByteArray := ((List.range len).map g).foldl (fun r n => r.push (UInt8.ofNat n.toNat)) ByteArray.empty
theorem strG_congr {g h : Nat → Int} {len : Nat} (e : ∀ j, j < len → g j = h j) : strG g len = strG h len := by
  unfold strG
  congr 1
  exact List.map_congr_left fun j hj => e j (List.mem_range.1 hj)

theorem str_of {w : World} {a : Option Addr} {len : Nat} {g : Nat → Int} (h : Bys w a len g) (c : Nat) : (convert 27 9 (.slice a len c)).run Try.prog w = .ok (.string (strG g len)) w := by
  rw [run_convert_bytes_string w 27 9 5 a len c Try.underlying27 Try.underlying5 Try.underlying9]
  by_cases h0 : 0 < len
  · obtain ⟨b, off, rfl, _, hc⟩ := h h0
    have hl : (loadCells ⟨b, off, none⟩ len).run Try.prog w = .ok (((List.range len).map g).map (Value.int .u8)).toArray w := by
      have := run_loadCells_list (P := Try.prog) w ⟨b, off, none⟩ (((List.range len).map g).map (Value.int .u8)) (fun j v hj => by
        rw [List.getElem?_map] at hj
        obtain ⟨n, hn, rfl⟩ := Option.map_eq_some_iff.1 hj
        rw [List.getElem?_map] at hn
        obtain ⟨j', hj', rfl⟩ := Option.map_eq_some_iff.1 hn
        obtain ⟨hjl, hje⟩ := List.getElem?_eq_some_iff.1 hj'
        rw [List.length_range] at hjl
        rw [List.getElem_range] at hje
        subst hje
        rw [Addr.add_lit]
        exact hc _ hjl)
      simpa using this
    exact run_bytesToString w _ len c _ hl
  · obtain rfl : len = 0 := by omega
    cases a with
    | none =>
      simp [Conv.bytesToString, strG]
    | some ad => exact run_bytesToString w ad 0 c [] (by simp [loadCells, loadCellsFrom])

theorem slice_win {b off len cap l h : Nat} (hlh : l < h) (hh : h ≤ cap) (W : World) :
    (Instr.slice 27 (.slice (some ⟨b, off, none⟩) len cap) (some (.int .i64 (l : Int))) (some (.int .i64 (h : Int))) none).run Try.prog W = .ok (.slice (some ⟨b, off + l, none⟩) (h - l) (cap - l)) W :=
  Go.Lib.run_slice_window W 27 5 Try.underlying27 (fun w => by
    obtain ⟨i5, hi5, hz0, hz1, hz2⟩ := info_parts info5
    simp [Go.sizeOf, typeInfo, hi5, hz1]) b off len cap l h hlh hh

theorem Bys_sec {w : World} {q : Nat} {g : Nat → Int} (h : Blk w q 62 (sec g 0)) : Bys w (some ⟨q, 0, none⟩) 64 g := fun _ =>
  ⟨q, 0, rfl, h.lt, fun j hj => by rw [Nat.zero_add, h.cell, sec_at _ _ _ hj]; simp⟩
theorem Bys_cells {w : World} {q len : Nat} {g : Nat → Int} (hq : q < w.heap.size) (h : ∀ j, j < len → w.cell? ⟨q, j, none⟩ = some (.int .u8 (g j))) : Bys w (some ⟨q, 0, none⟩) len g := fun _ =>
  ⟨q, 0, rfl, hq, fun j hj => by rw [Nat.zero_add]; exact h j hj⟩
end Go.Proofs.Ytpabfghpfigoaaa
