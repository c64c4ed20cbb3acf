/-
  Commit: a range over a function whose iterator stores into a box of its own; over any program.
-/
import Derived.RangeFuncNested
import Derived.RangeFuncBound
import Derived.RangeFuncCalls
import Derived.RangeFuncLeaves
import Derived.RangeFuncBox
import Derived.WalkKit
import Derived.Test.YtlhjocgkmeoheaaDoorBase
namespace Go.Tn
open Go.RowKit

theorem putObj_mod (W : World) (i : Nat) (o : Obj) : Mod [i] W (W.putObj i o) :=
  ⟨rfl, rfl, rfl, by simp [World.putObj], fun j _ hS => World.putObj_heap_other (by simpa using hS)⟩

/-- The blocks below h, but those of T, are as they were. -/
structure KeepT (h : Nat) (T : List Nat) (W W' : World) : Prop where
  size : W.heap.size ≤ W'.heap.size
  block : ∀ j, j < h → j ∉ T → W'.heap[j]? = W.heap[j]?
theorem KeepT.refl (h : Nat) (T : List Nat) (W : World) : KeepT h T W W := ⟨Nat.le_refl _, fun _ _ _ => rfl⟩
theorem KeepT.trans {h : Nat} {T : List Nat} {W W' W'' : World} (a : KeepT h T W W') (b : KeepT h T W' W'') : KeepT h T W W'' :=
  ⟨Nat.le_trans a.size b.size, fun j hj hT => (b.block j hj hT).trans (a.block j hj hT)⟩
theorem KeepT.mono {h h' : Nat} {T T' : List Nat} {W W' : World} (a : KeepT h T W W') (hh : h' ≤ h) (hT : ∀ t, t ∈ T → t ∈ T') : KeepT h' T' W W' :=
  ⟨a.size, fun j hj hn => a.block j (by omega) (fun hc => hn (hT j hc))⟩
theorem KeepT.of_mod {h : Nat} {S T : List Nat} {W W' : World} (a : Mod S W W') (hh : h ≤ W.heap.size) (hS : ∀ s, s ∈ S → s ∈ T ∨ h ≤ s) : KeepT h T W W' :=
  ⟨a.size, fun j hj hn => a.block j (by omega) (fun hc => by
    rcases hS j hc with h1 | h1
    · exact hn h1
    · omega)⟩
theorem KeepT.blk {h : Nat} {T : List Nat} {W W' : World} (a : KeepT h T W W') {g : Nat} {t : TypeId} {cs : Array Value} (b : Blk W g t cs) (hg : g < h) (hT : g ∉ T) : Blk W' g t cs := b.of_heap (a.block g hg hT)

section
variable {P : Program} {n : Nat}

/-- What the iterator does: N rounds in a row, round k with the values 'enc k', unless one says 'no more'; it stores into its own box bx; a round turns T alone. -/
def Iter (n : Nat) (P : Program) (gf : Nat) (lb : Array Value) (enc : Nat → Array Value) (N bx : Nat) (T : List Nat) (w : World) : Prop :=
  ∀ (l : Nat) (J : Nat → World → Prop) (Jx : World → Prop) (W : World), Mod [] w W → (∀ k W W', J k W → Mod [bx] W W' → J k W') → (∀ W W', Jx W → Mod [bx] W W' → Jx W') →
    (∀ k W, k < N → J k W → YieldAt Fence.wide (n - 1) P l (enc k) W fun e W' => (e = .returned (.bool true) ∧ J (k + 1) W' ∧ KeepT w.heap.size T W W') ∨ (e = .returned (.bool false) ∧ Jx W')) →
    J 0 W → CallsIn Fence.wide n P gf (#[.func (.yield l) #[] #[]] ++ lb) W fun e W' => (∃ v, e = .returned v) ∧ (J N W' ∨ Jx W')

/-- How a round's body may be left. -/
def Left (h : Nat) (S : List Nat) (I : Nat → World → Prop) (R : World → Prop) (k : Nat) (W : World) : Exit → Act → World → Prop
  | .normal, _, W' => KeepT h S W W' ∧ I (k + 1) W'
  | .ret, _, W' => KeepT h S W W' ∧ R W'
  | _, _, _ => False

theorem wpIn_range_box {g : Operand} {ps : Array Tmp} {assign body : Code} {Q : Exit → Act → World → Prop} {a : Act} {w : World} (h1 : 1 ≤ n) {gf : Nat} {lb : Array Value} (hg : a.eval g = .func (.func gf) #[] lb)
    (eg : ∀ args w, (callFunc gf args).run P w = .ok (.enter gf args) w) (enc : Nat → Array Value) (N bx : Nat) (S : List Nat) (hS : ∀ s ∈ S, s < w.heap.size)
    (hseq : Iter (n - 1) P gf lb enc N bx (w.heap.size :: (w.heap.size + 1) :: S) w) (hps : ∀ k, (enc k).size = ps.size)
    (I : Nat → World → Prop) (R : World → Prop) (hI : ∀ k W W', I k W → Mod [bx, w.heap.size, w.heap.size + 1] W W' → I k W') (hR : ∀ W W', R W → Mod [bx, w.heap.size, w.heap.size + 1] W W' → R W') (hbx : bx < w.heap.size)
    (h0 : I 0 w) (a1 : Nat → Act)
    (hassign : ∀ (l k : Nat) (W : World) (K : Act → World → Prop), K (a1 k) W →
      assign.wpIn (Fence.wide.inRound l) (n - 1 - 1) P (Exit.then K (fun _ _ _ => False)) { tmps := (ps.zip (enc k)).foldl (fun t (p, v) => t.setIfInBounds p v) a.tmps, defers := [] } W)
    (hbody : ∀ (l k : Nat) (W : World), k < N → w.heap.size + 2 ≤ W.heap.size → I k W → body.wpIn (Fence.wide.inRound l) (n - 1 - 1) P (Left (w.heap.size + 2) S I R k W) (a1 k) W)
    (hdone : ∀ (D : Nat) (W : World), w.heap.size ≤ D → I N W → W.heap[D]? = some (.deferred (some [])) → Q .normal { a with defers := { target := .collected D, args := #[] } :: a.defers } W)
    (hstop : ∀ (D : Nat) (W : World), w.heap.size ≤ D → R W → W.heap[D]? = some (.deferred (some [])) → Code.ret.wpIn Fence.wide n P Q { a with defers := { target := .collected D, args := #[] } :: a.defers } W) :
    (Code.rangeFunc g ps assign body).wpIn Fence.wide n P Q a w := by
  refine wpIn_rangeFunc ?_
  intro fn hfn
  let rec0 : LoopState → Option Code → Loop := fun st pe => { state := st, pending := pe, fn, tmps := a.tmps, params := ps, assign, body, defers := w.heap.size }
  have hW1 : Mod [] w ((w.alloc (.deferred (some []))).alloc (.loop (rec0 .ready none))) := ((Mod.refl [] w).alloc _).alloc _
  have hL1 : ((w.alloc (.deferred (some []))).alloc (.loop (rec0 .ready none))).heap[w.heap.size + 1]? = some (.loop (rec0 .ready none)) := by
    have := World.alloc_heap_new (w.alloc (.deferred (some []))) (.loop (rec0 .ready none))
    rwa [World.size_alloc] at this
  have hD1 : ((w.alloc (.deferred (some []))).alloc (.loop (rec0 .ready none))).heap[w.heap.size]? = some (.deferred (some [])) :=
    (((Mod.refl [] (w.alloc (.deferred (some [])))).alloc (.loop (rec0 .ready none))).block _ (by simp) (by simp)).trans (World.alloc_heap_new w _)
  generalize hWe : (w.alloc (.deferred (some []))).alloc (.loop (rec0 .ready none)) = W1 at hW1 hL1 hD1
  refine ⟨w.heap.size + 1, [{ target := .collected w.heap.size, args := #[] }], W1, { target := .fn (.func gf) lb, args := #[.func (.yield (w.heap.size + 1)) #[] #[]] }, W1, gf,
    #[.func (.yield (w.heap.size + 1)) #[] #[]] ++ lb, W1, ?_, ?_, fun _ _ => trivial, ?_, fun _ => h1, ?_⟩
  · rw [← hWe]; exact run_enterLoop_outer _ _ _ _ _
  · simp only [resolve, hg]
    simp [go_sem]
  · simp [invoke, go_sem, eg]
  · have keep : ∀ (W W' : World) (T : List Nat) (i : Nat) (o : Obj), Mod T W W' → i ∉ T → W.heap[i]? = some o → W'.heap[i]? = some o := fun W W' T i o hm hi ho => (hm.block i (Array.getElem?_eq_some_iff.1 ho).1 hi).trans ho
    refine (hseq (w.heap.size + 1)
      (fun k W => I k W ∧ W.heap[w.heap.size + 1]? = some (.loop (rec0 .ready none)) ∧ W.heap[w.heap.size]? = some (.deferred (some [])))
      (fun W => R W ∧ W.heap[w.heap.size + 1]? = some (.loop (rec0 .done (some .ret))) ∧ W.heap[w.heap.size]? = some (.deferred (some [])))
      W1 hW1 ?_ ?_ ?_ ⟨hI 0 w W1 h0 (hW1.mono (by simp)), hL1, hD1⟩).mono ?_
    · rintro k W W' ⟨hi, hl, hd⟩ hm
      exact ⟨hI k W W' hi (hm.mono (by simp)), keep _ _ _ _ _ hm (by simp; omega) hl, keep _ _ _ _ _ hm (by simp; omega) hd⟩
    · rintro W W' ⟨hi, hl, hd⟩ hm
      exact ⟨hR W W' hi (hm.mono (by simp)), keep _ _ _ _ _ hm (by simp; omega) hl, keep _ _ _ _ _ hm (by simp; omega) hd⟩
    · rintro k W hk ⟨hi, hl, hd⟩
      have hy := run_yield (P := P) (args := enc k) hl (hps k)
      refine ⟨fn, _, assign, body, hy, roundIn_of_wpIn hfn (hassign _ k W _ ?_)⟩
      refine ⟨_, run_beginRound hl rfl, ?_⟩
      have hmB := putObj_mod W (w.heap.size + 1) (.loop { rec0 .ready none with state := .busy })
      have hl2 : (W.putObj (w.heap.size + 1) (.loop { rec0 .ready none with state := .busy })).heap[w.heap.size + 1]? = some (.loop { rec0 .ready none with state := .busy }) := World.putObj_heap_same (Array.getElem?_eq_some_iff.1 hl).1
      have hd2 := keep _ _ _ _ _ hmB (by simp) hd
      have hi2 := hI k _ _ hi (hmB.mono (T := [bx, w.heap.size, w.heap.size + 1]) (by simp))
      have hsz : w.heap.size + 1 < W.heap.size := (Array.getElem?_eq_some_iff.1 hl).1
      have hsz2 : w.heap.size + 1 < (W.putObj (w.heap.size + 1) (.loop { rec0 .ready none with state := .busy })).heap.size := (Array.getElem?_eq_some_iff.1 hl2).1
      have hnS : ∀ i, w.heap.size ≤ i → i ∉ S := fun i hi hs => by have := hS i hs; omega
      refine wpIn_mono (hbody _ k _ hk hsz2 hi2) ?_
      rintro e a3 W3 hp
      cases e with
      | normal =>
        obtain ⟨hm3, hi3⟩ := hp
        have hl3 := (hm3.block (w.heap.size + 1) (by omega) (hnS _ (by omega))).trans hl2
        have hd3 := (hm3.block w.heap.size (by omega) (hnS _ (Nat.le_refl _))).trans hd2
        have hmE := putObj_mod W3 (w.heap.size + 1) (.loop (rec0 .ready none))
        refine ⟨_, _, run_endRound (P := P) none hl3, .inl ⟨rfl, ⟨hI _ _ _ hi3 (hmE.mono (T := [bx, w.heap.size, w.heap.size + 1]) (by simp)), World.putObj_heap_same (Array.getElem?_eq_some_iff.1 hl3).1, keep _ _ _ _ _ hmE (by simp) hd3⟩, ?_⟩⟩
        have hz := hW1.size
        exact ((KeepT.of_mod hmB (by omega) (by simp)).trans (hm3.mono (by omega) (by intro t ht; simp [ht]))).trans (KeepT.of_mod hmE (by have := (Array.getElem?_eq_some_iff.1 hl3).1; omega) (by simp))
      | ret =>
        obtain ⟨hm3, hi3⟩ := hp
        have hl3 := (hm3.block (w.heap.size + 1) (by omega) (hnS _ (by omega))).trans hl2
        have hd3 := (hm3.block w.heap.size (by omega) (hnS _ (Nat.le_refl _))).trans hd2
        have hmE := putObj_mod W3 (w.heap.size + 1) (.loop (rec0 .done (some .ret)))
        exact ⟨_, _, run_endRound (P := P) (some .ret) hl3, .inr ⟨rfl, hR _ _ hi3 (hmE.mono (T := [bx, w.heap.size, w.heap.size + 1]) (by simp)), World.putObj_heap_same (Array.getElem?_eq_some_iff.1 hl3).1, keep _ _ _ _ _ hmE (by simp) hd3⟩⟩
      | exit id => exact hp.elim
      | goto t => exact hp.elim
      | panic ch => exact hp.elim
      | outgrown => exact hp.elim
    · rintro e W2 ⟨⟨v, rfl⟩, ⟨hi, hl, hd⟩ | ⟨hi, hl, hd⟩⟩
      · have hmE := putObj_mod W2 (w.heap.size + 1) (.loop { rec0 .ready none with state := .exhausted })
        exact ⟨none, _, run_endLoop (P := P) hl (by simp [rec0]), hdone _ _ (Nat.le_refl _) (hI _ _ _ hi (hmE.mono (T := [bx, w.heap.size, w.heap.size + 1]) (by simp))) (keep _ _ _ _ _ hmE (by simp) hd)⟩
      · have hmE := putObj_mod W2 (w.heap.size + 1) (.loop { rec0 .done (some .ret) with state := .exhausted })
        exact ⟨some .ret, _, run_endLoop (P := P) hl (by simp [rec0]), hstop _ _ (Nat.le_refl _) (hR _ _ hi (hmE.mono (T := [bx, w.heap.size, w.heap.size + 1]) (by simp))) (keep _ _ _ _ _ hmE (by simp) hd)⟩
end
end Go.Tn
