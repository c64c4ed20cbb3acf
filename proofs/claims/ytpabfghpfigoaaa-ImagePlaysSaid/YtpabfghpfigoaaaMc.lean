/-
  Layer 12: written.
-/
import Derived.Test.YtpabfghpfigoaaaMb
namespace Go.Proofs.Ytpabfghpfigoaaa
open Go.RowKit Go.Tn
open Go.Proofs
attribute [local go_sem] look38 del38 len38

section
variable {w : World} {p mb B k m : Nat} {d : Nat → Int} {f : Int → Option (Nat → Int)}

/-- What stands in the map at x: its cells, or zeros. -/
def wrt (f : Int → Option (Nat → Int)) (x : Int) : Array Value := match f x with | some g => sec g 0 | none => z62
theorem wrt_size (f : Int → Option (Nat → Int)) (x : Int) : (wrt f x).size = 64 := by
  unfold wrt; split
  · exact sec_size _ _
  · exact z62_size
theorem wrt_one (f : Int → Option (Nat → Int)) (x : Int) : (wrt f x).all (·.oneCell') = true := by
  unfold wrt; split
  · rw [Array.all_eq_true_iff_forall_mem]; intro u hu; exact sec_one _ _ u (by simpa using hu)
  · exact z62_one

set_option maxHeartbeats 1000000 in
theorem written_f (h : IM w p mb B d k m f) (x : Int) (hp : p < B) (hB : B ≤ w.heap.size) : Calls Try.prog 26 #[.pointer (some ⟨p, 0, none⟩), .int .i64 x] w fun e w' => e = .returned (.tuple #[.agg (wrt f x), .bool (f x).isSome]) ∧ Tn.Mod [] w w' := by
  obtain ⟨a, cap, hb, _⟩ := h.blk
  have hm1 : Tn.Mod [] w (w.alloc (.cells z62 62)) := (Mod.refl [] w).alloc _
  have h1 := (h.mod hm1 (by simp) (by simp) (by simp)).1
  have c2 := (hb.mod hm1 (by simp)).cell 2
  have his := h1.is
  have hget : (mget (w.alloc (.cells z62 62)) mb x).getD (.agg z62) = .agg (wrt f x) := by
    rw [h1.get x]; unfold wrt; cases f x <;> rfl
  have hsome : (mget (w.alloc (.cells z62 62)) mb x).isSome = (f x).isSome := by rw [h1.get x]; simp
  simp only [List.getElem?_toArray, List.getElem?_cons_zero, List.getElem?_cons_succ] at c2
  have hg0 : (w.alloc (.cells z62 62)).heap[w.heap.size]? = some (.cells z62 62 (0, 0)) := heap_alloc_new w _
  have H := hid h1
  have HM := hid hm1
  have HG := hid hg0
  have hss := hid (show (Try.prog.info? 62).map (·.size) = some (wrt f x).size by rw [wrt_size]; exact size62)
  have hs2 := hid (show z62.size = (wrt f x).size by rw [wrt_size]; exact z62_size)
  have hs3 := hid (wrt_one f x)
  have hsz := hid (World.size_alloc w (.cells z62 62))
  clear h h1 hb hm1 hg0
  generalize hcs : wrt f x = cs at hget hss hs2 hs3 ⊢
  clear hcs
  generalize hw1 : w.alloc (.cells z62 62) = w1 at c2 his hget hsome H HM HG hsz
  go_enter Try.func26, Try.ntmps26
  go_wp2_with (first
    | (refine wpList_alloc62 rfl rfl ?_; try rw [hw1])
    | (go_at_call 27; refine (none_f H.out).mono ?_; rintro e w' ⟨rfl, rfl⟩)
    | (refine wpList_store_row rfl 62 _ _ rfl w1.heap.size cs rfl rfl 62 z62 (heap_alloc_new w1 _) hss.out hs2.out hs3.out ?_)
    | (refine wpList_load_row rfl 62 _ rfl w1.heap.size rfl 62 cs (0, 0) _ ((Blk.new w1 62 z62).setRow) Try.underlying62 rfl hss.out ?_)
    | (refine wpList_store_row rfl 62 _ _ rfl w.heap.size cs rfl rfl 62 z62 ((((Mod.refl [w1.heap.size] w1).alloc (.cells z62 62)).setRow (.inl (by simp)) cs).block w.heap.size (by have := hsz.out; omega) (by have := hsz.out; simp; omega) |>.trans HG.out) hss.out hs2.out hs3.out ?_))
  have e0 := hsz.out
  have hold : Blk ((w1.alloc (.cells z62 62)).setRow w1.heap.size cs) w.heap.size 62 z62 := (((Mod.refl [w1.heap.size] w1).alloc (.cells z62 62)).setRow (.inl (by simp)) cs).block w.heap.size (by omega) (by simp; omega) |>.trans HG.out
  refine bodyPost_ret (v := .tuple #[.agg cs, .bool (f x).isSome]) (by rw [results62 (p := 4) (u := 5) rfl rfl hold.setRow (hs2.out.symm.trans z62_size)]; rfl) rfl ⟨rfl, ((HM.out.alloc _).setRow (.inr (by omega)) _).setRow (.inr (Nat.le_refl _)) _⟩
end
end Go.Proofs.Ytpabfghpfigoaaa
