/-
  Layer 12: image.New: the good arm as an image in the heap; the refusals.
-/
import Derived.Test.YtpabfghpfigoaaaNew
import Derived.Test.YtpabfghpfigoaaaMa
namespace Go.Proofs.Ytpabfghpfigoaaa
open Go.RowKit Go.Tn Go.Shelf
open Go.Proofs

theorem row_weak {W : World} {b : Nat} {e : TypeId} {size : Nat} {v : Value} {k : Nat} {xs : List Value} (h : W.ownsRow b e size v k xs) : W.ownsRow 0 e size v k xs := by
  obtain ⟨hl, h0 | ⟨g, cap', cur', e1, h3, h4, h5⟩⟩ := h
  · exact ⟨hl, .inl h0⟩
  · exact ⟨hl, .inr ⟨g, cap', cur', e1, Nat.zero_le _, h4, h5⟩⟩

theorem NewI.im {w w' : World} {m k : Nat} {d : Nat → Int} {v : Value} (h : NewI w m d (upto id k) v w') : IM w' (w.heap.size + 1) w.heap.size (w.heap.size + 5) d k m (fun _ => none) ∧ mlen w' w.heap.size = 0 ∧ Tn.Mod [] w w' ∧ w.heap.size + 5 ≤ w'.heap.size := by
  obtain ⟨h1, h2, h3, h4, h5, h6⟩ := h
  have hm := IMap.made w
  have hh : w'.heap[w.heap.size]? = (w.alloc (.map #[] 0)).heap[w.heap.size]? := by
    rw [h4]; exact (World.alloc_heap_new w (Obj.map #[] 0)).symm
  have hi := hm.of_heap hh
  rw [flatL_upto, upto_length] at h3
  have hv : ∃ a cap, v = .slice a k cap := by
    obtain ⟨_, ⟨rfl, rfl⟩ | ⟨g, cap, cur, rfl, _⟩⟩ := h3
    · exact ⟨_, _, rfl⟩
    · exact ⟨_, _, rfl⟩
  obtain ⟨a, cap, rfl⟩ := hv
  refine ⟨⟨⟨a, cap, h1, row_weak h3⟩, hi.is, fun n => by rw [hi.get]; rfl, fun n hn => by cases hn⟩, ?_, h5, h6⟩
  rw [mlen_of_heap hh]; exact mlen_made w

theorem new_long (a : Option Addr) (len cap : Nat) (m : Int) (w : World) (h : 16384 < len) :
    Calls Try.prog 8 #[.slice a len cap, .int .i64 m] w fun e w' => e = .returned (.tuple #[.pointer none, .int .i64 2]) ∧ w = w' := by
  have h1 : (16384 : Int) < (len : Int) := by omega
  clear h
  go_enter Try.func8, Try.ntmps8
  go_wp2
  go_ret2
  exact ⟨rfl, rfl⟩

theorem new_arg (a : Option Addr) (len cap : Nat) (m : Int) (w : World) (h : len ≤ 16384) (hb : ¬ (len % 64 = 0 ∧ 0 ≤ m ∧ m ≤ 256)) :
    Calls Try.prog 8 #[.slice a len cap, .int .i64 m] w fun e w' => e = .returned (.tuple #[.pointer none, .int .i64 1]) ∧ w = w' := by
  have h1 : (len : Int) ≤ 16384 := by omega
  have ht : ((len : Nat) : Int).tmod 64 = ((len % 64 : Nat) : Int) := by rw [Int.tmod_eq_emod_of_nonneg (by omega)]; omega
  by_cases h0 : len % 64 = 0
  · rw [h0] at ht
    by_cases hm0 : m < 0
    · clear hb h h0
      go_enter Try.func8, Try.ntmps8
      go_wp2
      go_ret2
      exact ⟨rfl, rfl⟩
    · have hm1 : 0 ≤ m := by omega
      have hm2 : 256 < m := by omega
      clear hb h h0 hm0
      go_enter Try.func8, Try.ntmps8
      go_wp2
      go_ret2
      exact ⟨rfl, rfl⟩
  · obtain ⟨r, hr⟩ : ∃ r : Nat, len % 64 = r + 1 := ⟨len % 64 - 1, by omega⟩
    have hr0 : ((len % 64 : Nat) : Int) ≠ 0 := by omega
    generalize ((len % 64 : Nat) : Int) = q at ht hr0
    clear hb h h0 hr
    go_enter Try.func8, Try.ntmps8
    go_wp2
    go_ret2
    exact ⟨rfl, rfl⟩
end Go.Proofs.Ytpabfghpfigoaaa
