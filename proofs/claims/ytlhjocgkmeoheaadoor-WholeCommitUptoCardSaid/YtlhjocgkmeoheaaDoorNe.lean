/-
  Commit: New, Begin, End.
-/
import Derived.Test.YtlhjocgkmeoheaaDoorWt
namespace Go.Proofs.YtlhjocgkmeoheaaDoor
open Go.RowKit Go.Tn Go.MapKept
open Go.Proofs
attribute [-go_sem] Builtin.append_

def A0 : Tree := [(rootB, none)]
theorem GT0 : GT A0 := ⟨by simp [A0, nms], by intro n hn; simp [A0, nms] at hn; subst hn; exact Val.root, by decide⟩

set_option maxRecDepth 100000 in
theorem new_f (w : World) : Calls Tryd.prog 4 #[] w fun e w' => ∃ sb mt mo, e = .returned (.pointer (some ⟨sb, 0, none⟩)) ∧ SH w' sb mt mo A0 0 none ∧ w.heap.size ≤ sb ∧ w.heap.size ≤ mt ∧ w.heap.size ≤ mo ∧ Tn.Mod [] w w' := by
  have hmm := @run_makeMap Tryd.prog
  have his : IsS ((w.alloc (.map #[] 0)).alloc (.cells #[.int .i64 0, .bool false, .bool false] 36)) w.heap.size := IsS.alloc _ _ (SMap.made w).is _
  have hst := store41 his ⟨#[47]⟩ (.agg #[.slice none 0 0, .slice (some ⟨w.heap.size + 1, 0, none⟩) 1 1])
  have H1 := hid (show TH (sput ((w.alloc (.map #[] 0)).alloc (.cells #[.int .i64 0, .bool false, .bool false] 36)) w.heap.size ⟨#[47]⟩ (.agg #[.slice none 0 0, .slice (some ⟨w.heap.size + 1, 0, none⟩) 1 1])) w.heap.size A0 from by
    have h0 : TH ((w.alloc (.map #[] 0)).alloc (.cells #[.int .i64 0, .bool false, .bool false] 36)) w.heap.size [] := ⟨his, by simp, fun n _ => by rw [sget_alloc _ _ _ (SMap.made w).is, (SMap.made w).get], fun n o h => by simp [LK] at h⟩
    have hb := Blk.new (w.alloc (.map #[] 0)) 36 #[.int .i64 0, .bool false, .bool false]
    rw [World.size_alloc] at hb
    exact h0.put_new (n := rootB) (Node.mk' (o := none) rfl ⟨false, false, hb⟩ (Nat.le_refl 1)) (by simp [nms]))
  have hm1 : Tn.Mod [] w (sput ((w.alloc (.map #[] 0)).alloc (.cells #[.int .i64 0, .bool false, .bool false] 36)) w.heap.size ⟨#[47]⟩ (.agg #[.slice none 0 0, .slice (some ⟨w.heap.size + 1, 0, none⟩) 1 1])) := (((Mod.refl [] w).alloc _).alloc _).trans (sput_mod _ _ _ _) (by simp)
  have hsz : (sput ((w.alloc (.map #[] 0)).alloc (.cells #[.int .i64 0, .bool false, .bool false] 36)) w.heap.size ⟨#[47]⟩ (.agg #[.slice none 0 0, .slice (some ⟨w.heap.size + 1, 0, none⟩) 1 1])).heap.size = w.heap.size + 2 := by simp
  have HM1 := hid hm1
  clear his hm1
  generalize sput ((w.alloc (.map #[] 0)).alloc (.cells #[.int .i64 0, .bool false, .bool false] 36)) w.heap.size ⟨#[47]⟩ (.agg #[.slice none 0 0, .slice (some ⟨w.heap.size + 1, 0, none⟩) 1 1]) = W1 at *
  go_enter Tryd.func4, Tryd.ntmps4
  go_wp2
  go_ret
  have ha : Tn.Mod [] W1 (W1.alloc (.map #[] 0)) := (Mod.refl [] W1).alloc _
  have ho := IMap.made W1
  have hb := Blk.new (W1.alloc (.map #[] 0)) 47 (storeCells w.heap.size (w.heap.size + 2) 0)
  have hm2 : Tn.Mod [] (W1.alloc (.map #[] 0)) ((W1.alloc (.map #[] 0)).alloc (.cells (storeCells w.heap.size (w.heap.size + 2) 0) 47)) := (Mod.refl [] _).alloc _
  rw [World.size_alloc, hsz] at hb
  rw [hsz] at ho
  have hlo := ho.lt
  exact ⟨w.heap.size + 2 + 1, w.heap.size, w.heap.size + 2, rfl, ⟨hb, (H1.out.mod0 ha).mod0 hm2, (by
    have he : (openF none) = fun _ => none := by funext n; unfold openF; split <;> rfl
    rw [he]
    exact ho.of_heap (hm2.block _ hlo (by simp))), by omega, by omega⟩, by omega, by omega, by omega, (HM1.out.andThen ha).andThen hm2⟩
end Go.Proofs.YtlhjocgkmeoheaaDoor
