/-
  Layer 12: slices.Chunk over bytes, by 64: the closure's contract.
-/
import Derived.RangeFuncNested
import Derived.RangeFuncBound
import Derived.RangeFuncCalls
import Derived.RangeFuncLeaves
import Derived.RangeFuncBox
import Derived.Shelf.Abstract
import Derived.Shelf.RegionOpen
import Derived.WalkKit
import Derived.OwnWalkIn
import Derived.TacticsInMore
import Derived.LoopNIn
import Derived.LoopIn
import Derived.Sort.QuietIn
import Derived.IntWalk
import Derived.WalkLawsBesides
import Derived.Test.YtpabfghpfigoaaaRows
namespace Go.Proofs.Ytpabfghpfigoaaa
open Go.RowKit Go.Shelf
open Go.Proofs
attribute [local go_sem] Oper.semAt_some

def upto {α : Type} (f : Nat → α) (k : Nat) : List α := (List.range k).map f
theorem upto_succ {α : Type} (f : Nat → α) (k : Nat) : upto f (k + 1) = upto f k ++ [f k] := by simp [upto, List.range_succ]
theorem upto_length {α : Type} (f : Nat → α) (k : Nat) : (upto f k).length = k := by simp [upto]

/-- What a round that goes on keeps: the two blocks that Chunk's closure has captured. -/
def KB (x y : Nat) (W W' : World) : Prop := W'.heap[x]? = W.heap[x]? ∧ W'.heap[y]? = W.heap[y]?
theorem KB.refl (x y : Nat) (W : World) : KB x y W W := ⟨rfl, rfl⟩
theorem KB.trans {x y : Nat} {A B C : World} (h : KB x y A B) (k : KB x y B C) : KB x y A C := ⟨k.1.trans h.1, k.2.trans h.2⟩
theorem KB.cell1 {x y : Nat} {W W' : World} (h : KB x y W W') : W'.cell? ⟨x, 0, none⟩ = W.cell? ⟨x, 0, none⟩ := World.cell?_of_block (w := W) h.1
theorem KB.cell2 {x y : Nat} {W W' : World} (h : KB x y W W') : W'.cell? ⟨y, 0, none⟩ = W.cell? ⟨y, 0, none⟩ := World.cell?_of_block (w := W) h.2
theorem KB.book {x y : Nat} {w : World} (hx : x < w.heap.size) (hy : y < w.heap.size) (W : World) (l : Nat) (o o' : Obj) (hl : w.heap.size ≤ l) (_ : W.heap[l]? = some o) (_ : o.isCells = false) (_ : o.isWalk = false) : KB x y W (W.putObj l o') :=
  ⟨World.putObj_heap_other (by omega), World.putObj_heap_other (by omega)⟩

def chunkAt (b off x : Nat) : Value := .slice (some ⟨b, off + 64 * x, none⟩) 64 64

set_option maxRecDepth 100000 in
set_option maxHeartbeats 4000000 in
theorem chunk1_in (n : Nat) (hn : 1 ≤ n) (l Bs Bn b off k cap : Nat) (hk : k ≤ 256) (hcap : 64 * k ≤ cap) (J Jx : List Nat → World → Prop)
    (hY : ∀ pre x W, J pre W → pre.length < k → x < k → YieldAt Fence.wide (n - 1) Try.prog l #[chunkAt b off x] W fun e W' =>
      (e = .returned (.bool true) ∧ J (pre ++ [x]) W' ∧ KB Bs Bn W W') ∨ (e = .returned (.bool false) ∧ Jx (pre ++ [x]) W'))
    (W : World) (hBs : W.cell? ⟨Bs, 0, none⟩ = some (.slice (some ⟨b, off, none⟩) (64 * k : Nat) cap)) (hBn : W.cell? ⟨Bn, 0, none⟩ = some (.int .i64 64)) (hJ : ∀ s W W', J s W → W.grownBy W' none → J s W') (h0 : J [] W) :
    CallsIn Fence.wide n Try.prog 36 #[.func (.yield l) #[] #[], .pointer (some ⟨Bs, 0, none⟩), .pointer (some ⟨Bn, 0, none⟩)] W fun e W' => (∃ v, e = .returned v) ∧
      ((∃ ys, ys = upto id k ∧ J ys W') ∨ (∃ pre, (∃ m, m ≤ k ∧ pre = upto id m) ∧ Jx pre W')) := by
  refine callsIn_of_wp Try.func36 rfl trivial ?_ rfl
  simp only [Try.ntmps36, List.size_toArray, List.length_cons, List.length_nil, Nat.reduceAdd, Nat.reduceSub, Array.replicate_succ, Array.replicate_zero, List.push_toArray, List.append_toArray, List.nil_append, List.cons_append]
  gi_wp2
  gi_loopw [4] (fun i wr => ∃ m : Nat, m ≤ k ∧ i = .int .i64 (64 * m : Nat) ∧ J (upto id m) wr ∧ KB Bs Bn W wr)
    (fun i _ => 64 * k - (intOf i).toNat)
  case atStart => exact ⟨0, Nat.zero_le _, rfl, h0, KB.refl _ _ _⟩
  case round =>
    obtain ⟨m, hm, rfl, hJs, hnx⟩ := hrel
    have hcs := hnx.cell1.trans hBs
    have hcn := hnx.cell2.trans hBn
    by_cases hlt : m < k
    · have hlt' : 64 * m < 64 * k := by omega
      gi_wp2
      gi_quiet (fail)
      have hg : wr.grownBy (wr.drewN nq) none := ⟨rfl, rfl, rfl, Nat.le_refl _, fun _ _ _ => rfl⟩
      have hcs1 : (wr.drewN nq).cell? ⟨Bs, 0, none⟩ = some (.slice (some ⟨b, off, none⟩) (64 * k : Nat) cap) := hcs
      have hcn1 : (wr.drewN nq).cell? ⟨Bn, 0, none⟩ = some (.int .i64 64) := hcn
      have hnx1 : KB Bs Bn W (wr.drewN nq) := hnx
      have hJ1 := hJ _ _ _ hJs hg
      generalize wr.drewN nq = w1 at hcs1 hcn1 hnx1 hJ1 ⊢
      clear hg hcs hcn hnx hJs
      obtain ⟨fn, tmps, assign, body, hy, hR⟩ := hY _ m w1 hJ1 (by rw [upto_length]; exact hlt) hlt
      simp only [chunkAt] at hy
      have e3 : 64 * m + 64 - 64 * m = 64 := by omega
      gi_wp2
      refine hR.mono ?_
      rintro e W3 (⟨rfl, hJ3, hk3⟩ | ⟨rfl, hJx3⟩)
      · have hcn3 := hk3.cell2.trans hcn1
        gi_wp2
        go_roundw
        case rel => exact ⟨m + 1, by omega, by simp; omega, by rw [upto_succ]; exact hJ3, hnx1.trans hk3⟩
        case measure => simp [intOf]; omega
      · gi_wp2
        refine bodyPost_ret (results_none rfl _ _ _) rfl ?_
        exact ⟨⟨_, rfl⟩, .inr ⟨_, ⟨m + 1, by omega, (upto_succ _ _).symm⟩, hJx3⟩⟩
    · obtain rfl : m = k := by omega
      gi_wp2
      go_end0
      exact ⟨⟨_, rfl⟩, .inl ⟨_, rfl, hJs⟩⟩

theorem chunk_stops (n : Nat) (hn : 1 ≤ n) (Bs Bn b off k cap : Nat) (hk : k ≤ 256) (hcap : 64 * k ≤ cap) (w : World) (hs : Bs < w.heap.size) (hs2 : Bn < w.heap.size)
    (hc : w.cell? ⟨Bs, 0, none⟩ = some (.slice (some ⟨b, off, none⟩) (64 * k : Nat) cap)) (hc2 : w.cell? ⟨Bn, 0, none⟩ = some (.int .i64 64)) :
    SeqStopsK Fence.wide n Try.prog 36 #[.pointer (some ⟨Bs, 0, none⟩), .pointer (some ⟨Bn, 0, none⟩)] (fun x : Fin k => #[chunkAt b off x.1]) (KB Bs Bn) (fun ys => ys.map Fin.val = upto id k) (fun pre => ∃ m, m ≤ k ∧ pre.map Fin.val = upto id m) k w := fun l J Jx W hW hJ _ hY h0 => by
  refine (chunk1_in n hn l Bs Bn b off k cap hk hcap (fun s W => ∃ t : List (Fin k), t.map Fin.val = s ∧ J t W) (fun s W => ∃ t : List (Fin k), t.map Fin.val = s ∧ Jx t W) ?_ W ?_ ?_ ?_ ⟨[], rfl, h0⟩).mono ?_
  · rintro _ x W1 ⟨t, rfl, hj⟩ hl hx
    refine (hY t ⟨x, hx⟩ W1 hj (by simpa using hl)).mono ?_
    rintro e W' (⟨rfl, hj', hk'⟩ | ⟨rfl, hj'⟩)
    · exact .inl ⟨rfl, ⟨t ++ [⟨x, hx⟩], by simp, hj'⟩, hk'⟩
    · exact .inr ⟨rfl, ⟨t ++ [⟨x, hx⟩], by simp, hj'⟩⟩
  · exact (hW.cell (p := ⟨Bs, 0, none⟩) hs).trans hc
  · exact (hW.cell (p := ⟨Bn, 0, none⟩) hs2).trans hc2
  · rintro _ W1 W' ⟨t, rfl, hj⟩ hg
    exact ⟨t, rfl, hJ t W1 W' none hj hg (fun r e => by cases e)⟩
  · rintro e W' ⟨he, ⟨_, rfl, t, ht, hj⟩ | ⟨_, ⟨m, hm, rfl⟩, t, ht, hj⟩⟩
    · exact ⟨he, .inl ⟨t, ht, hj⟩⟩
    · exact ⟨he, .inr ⟨t, ⟨m, hm, ht⟩, hj⟩⟩

/-- slices.Chunk: the slice and the number boxed; the closure. -/
theorem chunk_f (v : Value) (w : World) (a : Option Addr) (len cap : Nat) (hv : v = .slice a len cap) : Calls Try.prog 24 #[v, .int .i64 64] w fun e w' =>
    e = .returned (.func (.func 36) #[] #[.pointer (some ⟨w.heap.size, 0, none⟩), .pointer (some ⟨w.heap.size + 1, 0, none⟩)]) ∧ w' = (w.alloc (.cells #[v] 27)).alloc (.cells #[.int .i64 64] 3) := by
  subst hv
  go_enter Try.func24, Try.ntmps24
  go_wp2
  go_ret
  exact ⟨rfl, rfl⟩
end Go.Proofs.Ytpabfghpfigoaaa
