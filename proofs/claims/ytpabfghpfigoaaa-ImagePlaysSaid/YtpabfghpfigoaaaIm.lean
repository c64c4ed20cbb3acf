/-
  Layer 12: sectors as values; blocks of 64 bytes built and appended.
-/
import Derived.Test.YtpabfghpfigoaaaChk
import Derived.Test.YtpabfghpfigoaaaArr
import Derived.Great.BuildSlice
namespace Go.Proofs.Ytpabfghpfigoaaa
open Go.RowKit Go.Tn Go.Shelf
open Go.Proofs

/-- A sector's cells. -/
def sec (d : Nat → Int) (i : Nat) : Array Value := ((List.range 64).map fun j => Value.int .u8 (d (64 * i + j))).toArray
/-- The cells of the first k sectors. -/
def flat (d : Nat → Int) (k : Nat) : List Value := (List.range (64 * k)).map fun j => Value.int .u8 (d j)
theorem sec_size (d : Nat → Int) (i : Nat) : (sec d i).size = 64 := by simp [sec]
theorem sec_one (d : Nat → Int) (i : Nat) : ∀ u ∈ (sec d i).toList, u.oneCell' = true := by
  intro u hu
  simp only [sec, List.mem_map] at hu
  obtain ⟨j, _, rfl⟩ := hu
  rfl
theorem sec_at (d : Nat → Int) (i j : Nat) (hj : j < 64) : (sec d i)[j]? = some (.int .u8 (d (64 * i + j))) := by
  simp [sec, hj]
theorem flat_length (d : Nat → Int) (k : Nat) : (flat d k).length = k * 64 := by simp [flat]; omega
theorem flat_succ (d : Nat → Int) (k : Nat) : flat d (k + 1) = flat d k ++ (sec d k).toList := by
  apply List.ext_getElem?
  intro n
  rw [List.getElem?_append]
  simp only [flat, sec, List.length_map, List.length_range, List.getElem?_map, List.toList_toArray]
  split
  · rename_i h
    simp [List.getElem?_range, h, show n < 64 * (k + 1) by omega]
  · rename_i h
    by_cases h2 : n < 64 * (k + 1)
    · simp [h2, show n - 64 * k < 64 by omega, show 64 * k + (n - 64 * k) = n by omega]
    · simp [h2, show ¬ n - 64 * k < 64 by omega]
def flatL (d : Nat → Int) (l : List Nat) : List Value := l.flatMap fun x => (sec d x).toList
theorem flatL_snoc (d : Nat → Int) (l : List Nat) (x : Nat) : flatL d (l ++ [x]) = flatL d l ++ (sec d x).toList := by simp [flatL]
theorem flatL_upto (d : Nat → Int) (k : Nat) : flatL d (upto id k) = flat d k := by
  induction k with
  | zero => simp [flatL, upto, flat]
  | succ k ih => rw [upto_succ, flatL_snoc, ih, flat_succ]; rfl
attribute [irreducible] sec flat flatL

theorem info62 : (Try.prog.info? 62).map (fun i => (i.zero, i.size, i.bytes)) = some (some (.agg z62), 64, 64) := by kernel_rfl

theorem fill62 (cs z : Array Value) (hs : cs.size = 64) (hz : z.size = 64) : Instr.fill (fun i => some (i * 64, 64)) z [(0, .agg cs)] = some cs := by
  have h := Go.Great.fill_whole (s := 64) (by omega) [Value.agg cs] z (by simp [Value.cells, hs]) (by simp [hz])
  simpa [Value.cells] using h

theorem build37 (cs : Array Value) (hs : cs.size = 64) (w : World) : (Instr.buildSlice 37 1 #[(0, .agg cs)]).run Try.prog w = .ok (.slice (some ⟨w.heap.size, 0, none⟩) 1 1) (w.alloc (.cells cs 62)) := by
  obtain ⟨i, hi, hz, h64, _⟩ := info_parts info62
  refine run_buildSlice w 37 62 1 _ cs i _ Try.underlying37 hi hz (by rw [h64]; decide) (by rw [h64]; decide) ?_
  rw [h64]
  exact fill62 cs _ hs (by simp)
theorem load_sec {w : World} {b o : Nat} {d : Nat → Int} {i : Nat} (h : w.rangeAt b o (sec d i).toList) : (loadVar 62 ⟨b, o, none⟩).run Try.prog w = .ok (.agg (sec d i)) w := by
  have := run_loadVar_mid (P := Try.prog) w b o 62 (sec d i).toList _ h Try.underlying62 rfl (by rw [size62]; simp [sec_size])
  simpa using this
theorem loadAt_sec {w : World} {b o : Nat} {d : Nat → Int} {i : Nat} (h : w.rangeAt b o (sec d i).toList) : (Instr.loadAt 62 (.pointer (some ⟨b, o, none⟩))).run Try.prog w = .ok (.agg (sec d i)) w := by
  have := run_loadAt_mid (P := Try.prog) w b o 62 (sec d i).toList _ h Try.underlying62 rfl (by rw [size62]; simp [sec_size])
  simpa using this
attribute [-simp] Try.sizeOf62 in
theorem cells_sec {w : World} {b o : Nat} {d : Nat → Int} {i : Nat} (h : w.rangeAt b o (sec d i).toList) :
    ((Sem.run Try.prog (sizeOf 62) w).andThen fun a w' => (Sem.run Try.prog (loadCellsFrom ⟨b, o, none⟩ 0 a #[]) w').andThen fun a w' => Result.ok (Value.agg a) w') = .ok (.agg (sec d i)) w := by
  have := load_sec h
  simpa [loadVar, loadCells] using this
theorem isAgg62' (w : World) : Sem.run Try.prog (isAgg 62) w = .ok true w := Try.isAgg62 w
theorem arrayAt62 (a : Option Addr) (w : World) : (Instr.arrayAt 62 (.slice a 64 64)).run Try.prog w = .ok (.pointer a) w :=
  run_arrayAt w 62 _ 64 a 64 64 Try.underlying62 (Nat.le_refl _)

theorem append62 {w : World} {base k : Nat} {v : Value} {xs : List Value} (hown : w.ownsRow base 62 64 v k xs) (cs : Array Value) (hs : cs.size = 64) (h1 : ∀ u ∈ cs.toList, u.oneCell' = true) (g : Nat) (hg : Blk w g 62 cs) (hk : k ≤ 1000) (hb : base ≤ w.heap.size) :
    ∃ c q w', (Builtin.append_ #[37, 37] 37 #[v, .slice (some ⟨g, 0, none⟩) 1 1]).run Try.prog w = .ok (.slice (some ⟨q, 0, none⟩) (k + 1) c) w' ∧ w'.ownsRow base 62 64 (.slice (some ⟨q, 0, none⟩) (k + 1) c) (k + 1) (xs ++ cs.toList) ∧ w.grownBy w' v.ownBlock := by
  obtain ⟨i, hi, hz, hz1, hz2⟩ := info_parts info62
  obtain ⟨v', w', hr, ho, hgr, _⟩ := run_append_own (P := Try.prog) w base 37 37 62 i _ 64 64 Try.underlying37 hi hz hz1 hz2 rfl (by omega) v k xs hown ⟨g, 0, none⟩ 1 1 cs.toList (by simp [hs])
    (fun j u hj => by
      have := hg.range j u hj
      by_cases h0 : j = 0
      · subst h0; simpa [Addr.add] using this
      · simpa [Addr.add, h0] using this) h1 (by simp only [maxLen]; omega) (by omega) hb
  obtain ⟨q, c, rfl⟩ := ownsRow_succ ho
  exact ⟨c, q, w', hr, ho, hgr⟩

def NewI (w : World) (m : Nat) (d : Nat → Int) (l : List Nat) (v : Value) (W : World) : Prop :=
  Blk W (w.heap.size + 1) 40 #[.bool true, v, .map (some w.heap.size), .int .i64 (m : Nat)] ∧ Blk W (w.heap.size + 1 + 1) 23 #[.pointer (some ⟨w.heap.size + 1, 0, none⟩)] ∧
  W.ownsRow (w.heap.size + 5) 62 64 v l.length (flatL d l) ∧ W.heap[w.heap.size]? = some (.map #[] 0) ∧ Tn.Mod [] w W ∧ w.heap.size + 5 ≤ W.heap.size

theorem ownsRow_turn {W W' : World} {base : Nat} {e : TypeId} {size : Nat} {v : Value} {k : Nat} {xs : List Value} (h : W.ownsRow base e size v k xs) {row : Option Nat} (hg : W.grownBy W' row) (hr : ∀ r, row = some r → ∃ o : Obj, W.heap[r]? = some o ∧ o.isCells = false) : W'.ownsRow base e size v k xs := by
  obtain ⟨hl, h | ⟨g, cap, cur, h1, h2, h3, h4⟩⟩ := h
  · exact ⟨hl, .inl h⟩
  · refine ⟨hl, .inr ⟨g, cap, cur, h1, h2, ?_, h4⟩⟩
    rw [hg.block g (Array.getElem?_eq_some_iff.1 h3).1 (fun e => ?_)]
    · exact h3
    · obtain ⟨o, ho, hc⟩ := hr g e.symm
      rw [h3] at ho
      cases ho
      cases hc

theorem NewI.turn {w W W' : World} {m : Nat} {d : Nat → Int} {l : List Nat} {v : Value} (h : NewI w m d l v W) {row : Option Nat} (hg : W.grownBy W' row) (hr : ∀ r, row = some r → w.heap.size + 5 ≤ r ∧ ∃ o : Obj, W.heap[r]? = some o ∧ o.isCells = false) : NewI w m d l v W' := by
  obtain ⟨h1, h2, h3, h4, h5, h6⟩ := h
  have ne : ∀ i, i < w.heap.size + 5 → some i ≠ row := fun i hi e => by have := (hr i e.symm).1; omega
  refine ⟨h1.of_heap (hg.block _ h1.lt (ne _ (by omega))), h2.of_heap (hg.block _ h2.lt (ne _ (by omega))), ownsRow_turn h3 hg (fun r e => (hr r e).2), (hg.block _ (Array.getElem?_eq_some_iff.1 h4).1 (ne _ (by omega))).trans h4, h5.grown hg (fun k e => .inr (by have := (hr k e).1; omega)), Nat.le_trans h6 hg.size⟩
theorem ownsRow_ge {W : World} {base : Nat} {e : TypeId} {size : Nat} {v : Value} {k : Nat} {xs : List Value} (h : W.ownsRow base e size v k xs) : ∀ g, v.ownBlock = some g → base ≤ g ∧ ∀ o, W.heap[g]? = some o → o.isCells = true := by
  obtain ⟨_, ⟨rfl, _⟩ | ⟨g, cap, cur, rfl, h2, h3, _⟩⟩ := h
  · intro g hg; cases hg
  · intro g' hg
    cases hg
    refine ⟨h2, fun o ho => ?_⟩
    rw [h3] at ho
    cases ho
    rfl
theorem ownsRow_other {W W' : World} {base : Nat} {e : TypeId} {size : Nat} {v : Value} {k : Nat} {xs : List Value} (h : W.ownsRow base e size v k xs) (hh : ∀ g, base ≤ g → g < W.heap.size → W'.heap[g]? = W.heap[g]?) : W'.ownsRow base e size v k xs := by
  obtain ⟨hl, h | ⟨g, cap, cur, h1, h2, h3, h4⟩⟩ := h
  · exact ⟨hl, .inl h⟩
  · exact ⟨hl, .inr ⟨g, cap, cur, h1, h2, (hh g h2 (Array.getElem?_eq_some_iff.1 h3).1).trans h3, h4⟩⟩

theorem NewI.step {w W w' : World} {m : Nat} {d : Nat → Int} {l : List Nat} {v v' : Value} {x B : Nat} (h : NewI w m d l v W) (hB : w.heap.size + 5 ≤ B) (cs : Array Value)
    (hown : w'.ownsRow (w.heap.size + 5) 62 64 v' (l.length + 1) (flatL d l ++ (sec d x).toList)) (hgr : ((W.alloc (.cells cs 62)).drew).grownBy w' v.ownBlock) :
    KeepsFrom B W (w'.setCell ⟨w.heap.size + 1, 1, none⟩ v') ∧ KB (w.heap.size + 1 + 1 + 1) (w.heap.size + 1 + 1 + 1 + 1) W (w'.setCell ⟨w.heap.size + 1, 1, none⟩ v') ∧ NewI w m d (l ++ [x]) v' (w'.setCell ⟨w.heap.size + 1, 1, none⟩ v') := by
  obtain ⟨h1, h2, h3, h4, h5, h6⟩ := h
  have hge := ownsRow_ge h3
  have hal : KeepsOthers W ((W.alloc (.cells cs 62)).drew) := (KeepsOthers.alloc _ _).trans (KeepsOthers.drew _)
  have hlow : ∀ i, i < W.heap.size → ((W.alloc (.cells cs 62)).drew).heap[i]? = W.heap[i]? := fun i hi => ((Mod.refl [] W).alloc (.cells cs 62)).block i hi (by simp)
  have hsz2 : W.heap.size ≤ ((W.alloc (.cells cs 62)).drew).heap.size := by simp
  have ne : ∀ i, i < w.heap.size + 5 → some i ≠ v.ownBlock := fun i hi e => by have := (hge i e.symm).1; omega
  have hw : ∀ i, i < w.heap.size + 5 → w'.heap[i]? = W.heap[i]? := fun i hi => (hgr.block i (by omega) (ne i hi)).trans (hlow i (by omega))
  have hs : Tn.Mod [w.heap.size + 1] w' (w'.setCell ⟨w.heap.size + 1, 1, none⟩ v') := (Mod.refl _ w').setCell (.inl (by simp)) v'
  have hsw : w.heap.size + 5 ≤ w'.heap.size := by have := hgr.size; omega
  have ho : ∀ i, i < w'.heap.size → i ≠ w.heap.size + 1 → (w'.setCell ⟨w.heap.size + 1, 1, none⟩ v').heap[i]? = w'.heap[i]? := fun i hi hn => hs.block i hi (by simpa using hn)
  refine ⟨?_, ⟨?_, ?_⟩, ?_, ?_, ?_, ?_, ?_, ?_⟩
  · refine ((hal.trans (KeepsOthers.of_grownBy hgr (fun j o hj ho => ?_))).trans (KeepsOthers.setCell _ _ _)).from _
    by_cases hjj : j < W.heap.size
    · rw [hlow j hjj] at ho
      exact (hge j hj).2 o ho
    · obtain ⟨_, ⟨rfl, _⟩ | ⟨g, cap, cur, rfl, _, h3', _⟩⟩ := h3
      · cases hj
      · cases hj
        exact absurd (Array.getElem?_eq_some_iff.1 h3').1 hjj
  · exact (ho _ (by omega) (by omega)).trans (hw _ (by omega))
  · exact (ho _ (by omega) (by omega)).trans (hw _ (by omega))
  · have := (h1.of_heap (hw _ (by omega))).set_ 1 v'
    simpa using this
  · exact (h2.of_heap (hw _ (by omega))).of_heap (ho _ (by omega) (by omega))
  · rw [flatL_snoc, List.length_append]
    exact ownsRow_other hown (fun g hg hl => ho g hl (by omega))
  · exact ((ho _ (by omega) (by omega)).trans (hw _ (by omega))).trans h4
  · have e1 : Tn.Mod [] w ((W.alloc (.cells cs 62)).drew) := (h5.alloc _).drew
    have e2 := e1.grown hgr (fun k e => .inr (by have := (hge k e).1; omega))
    exact e2.setCell (.inr (by simp)) v'
  · have := hs.size; omega
end Go.Proofs.Ytpabfghpfigoaaa
