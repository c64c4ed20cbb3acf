/-
  Whole: the machine's Alloc: a range over the frames of an owner.
-/
import Derived.RangeFuncNested
import Derived.RangeFuncBound
import Derived.RangeFuncCalls
import Derived.RangeFuncLeaves
import Derived.RangeFuncBox
import Derived.Shelf.Abstract
import Derived.Shelf.RegionOpen
import Derived.WalkKit
import Derived.OwnWalkIn
import Derived.TacticsInMore
import Derived.LoopNIn
import Derived.LoopIn
import Derived.Sort.QuietIn
import Derived.IntWalk
import Derived.WalkLawsBesides
import Derived.Test.YtfolppcadckmaaaGreatFr
import Derived.Test.YtfolppcadckmaaaGreatReg
namespace Go.Proofs.YtfolppcadckmaaaGreat
open Go.RowKit Go.Tn Go.Shelf
open Go.Proofs
attribute [local go_sem] Oper.semAt_some

/-- What a round that goes on keeps: the blocks that the closure reads. -/
def KA (S : List Nat) (W W' : World) : Prop := ∀ b ∈ S, W'.heap[b]? = W.heap[b]?
theorem KA.refl (S : List Nat) (W : World) : KA S W W := fun _ _ => rfl
theorem KA.trans {S : List Nat} {A B C : World} (h : KA S A B) (k : KA S B C) : KA S A C := fun b hb => (k b hb).trans (h b hb)
theorem KA.book {S : List Nat} {n : Nat} (hx : ∀ b ∈ S, b < n) (W : World) (l : Nat) (o o' : Obj) (hl : n ≤ l) (_ : W.heap[l]? = some o) (_ : o.isCells = false) (_ : o.isWalk = false) : KA S W (W.putObj l o') :=
  fun b hb => World.putObj_heap_other (by have := hx b hb; omega)

/-- What stands where the closure looks. -/
structure OfAt (b1 b2 m fb : Nat) (F : Nat → Nat → Int) (W : World) : Prop where
  c1 : W.cell? ⟨b1, 0, none⟩ = some (.pointer (some ⟨m, 0, none⟩))
  c2 : W.cell? ⟨b2, 0, none⟩ = some (.int .i64 (-1))
  ph : PH W m fb F
  l1 : b1 < W.heap.size
  l2 : b2 < W.heap.size

theorem cell_of_heap {W W' : World} {b o : Nat} (h : W'.heap[b]? = W.heap[b]?) : W'.cell? ⟨b, o, none⟩ = W.cell? ⟨b, o, none⟩ := World.cell?_of_block (w := W) h

theorem OfAt.keep {b1 b2 m fb : Nat} {F : Nat → Nat → Int} {W W' : World} (h : OfAt b1 b2 m fb F W) (k : KA [b1, b2, m, fb] W W') : OfAt b1 b2 m fb F W' :=
  ⟨(cell_of_heap (k b1 (by simp))).trans h.c1, (cell_of_heap (k b2 (by simp))).trans h.c2, ⟨h.ph.blk.of_heap (k m (by simp)), h.ph.fr.of_heap (k fb (by simp))⟩,
   by have h1 := k b1 (by simp); have h2 := h.l1; rw [Array.getElem?_eq_getElem h2] at h1; exact (Array.getElem?_eq_some_iff.1 h1).1,
   by have h1 := k b2 (by simp); have h2 := h.l2; rw [Array.getElem?_eq_getElem h2] at h1; exact (Array.getElem?_eq_some_iff.1 h1).1⟩

/-- How far it has come: before the first free frame nothing, behind it that frame first. -/
def Come (i0 k : Nat) (pre : List Nat) : Prop := (k ≤ i0 ∧ pre = []) ∨ (i0 < k ∧ pre.head? = some i0)

theorem Come.head {i0 k : Nat} {pre : List Nat} {F : Nat → Nat → Int} (h : Come i0 k pre) (hk : F k 0 = -1) (hj : ∀ j, j < i0 → F j 0 ≠ -1) : (pre ++ [k]).head? = some i0 := by
  rcases h with ⟨h1, rfl⟩ | ⟨_, h2⟩
  · have : ¬ k < i0 := fun h => hj k h hk
    simp; omega
  · rw [List.head?_append, h2]; rfl
theorem Come.step {i0 k : Nat} {pre : List Nat} {F : Nat → Nat → Int} (h : Come i0 k pre) (hk : F k 0 ≠ -1) (h0 : F i0 0 = -1) : Come i0 (k + 1) pre := by
  rcases h with ⟨h1, rfl⟩ | ⟨h1, h2⟩
  · have : k ≠ i0 := fun h => hk (h ▸ h0)
    exact .inl ⟨by omega, rfl⟩
  · exact .inr ⟨by omega, h2⟩
theorem Come.step' {i0 k : Nat} {pre : List Nat} {F : Nat → Nat → Int} (h : Come i0 k pre) (hk : F k 0 = -1) (hj : ∀ j, j < i0 → F j 0 ≠ -1) : Come i0 (k + 1) (pre ++ [k]) := by
  have h3 := h.head hk hj
  rcases h with ⟨h1, rfl⟩ | ⟨h1, h2⟩
  · have : k = i0 := by simpa using h3
    exact .inr ⟨by omega, h3⟩
  · exact .inr ⟨by omega, h3⟩

def Gone (J Jx : List Nat → World → Prop) (S : List Nat) (p : List Nat) (W : World) (e : Ending) (W' : World) : Prop :=
  (e = .returned (.bool true) ∧ J p W' ∧ KA S W W') ∨ (e = .returned (.bool false) ∧ Jx p W')

set_option maxRecDepth 100000 in
set_option maxHeartbeats 4000000 in
theorem of1_in (n : Nat) (hn : 1 ≤ n) (l b1 b2 m fb i0 : Nat) (F : Nat → Nat → Int) (hi0 : i0 < 14) (hf0 : F i0 0 = -1) (hfj : ∀ j, j < i0 → F j 0 ≠ -1) (J Jx : List Nat → World → Prop)
    (hY : ∀ pre x W, x < 14 → F x 0 = -1 → J pre W → pre.length < 14 → YieldAt Fence.wide (n - 1) Tryz.prog l #[.int .i64 (x : Nat)] W fun e W' =>
      (e = .returned (.bool true) ∧ J (pre ++ [x]) W' ∧ KA [b1, b2, m, fb] W W') ∨ (e = .returned (.bool false) ∧ Jx (pre ++ [x]) W'))
    (W : World) (hO : OfAt b1 b2 m fb F W) (hJ : ∀ s W W', J s W → W.grownBy W' none → J s W') (h0 : J [] W) :
    CallsIn Fence.wide n Tryz.prog 58 #[.func (.yield l) #[] #[], .pointer (some ⟨b1, 0, none⟩), .pointer (some ⟨b2, 0, none⟩)] W fun e W' => (∃ v, e = .returned v) ∧
      ((∃ ys, ys.head? = some i0 ∧ J ys W') ∨ (∃ pre, pre.head? = some i0 ∧ Jx pre W')) := by
  refine callsIn_of_wp Tryz.func58 rfl trivial ?_ rfl
  simp only [Tryz.ntmps58, List.size_toArray, List.length_cons, List.length_nil, Nat.reduceAdd, Nat.reduceSub, Array.replicate_succ, Array.replicate_zero, List.push_toArray, List.append_toArray, List.nil_append, List.cons_append]
  have hY2 : ∀ pre x W, x < 14 → F x 0 = -1 → J pre W → pre.length < 14 → YieldAt Fence.wide (n - 1) Tryz.prog l #[.int .i64 (x : Nat)] W fun e W' =>
      (∃ b : Bool, e = .returned (.bool b)) ∧ Gone J Jx [b1, b2, m, fb] (pre ++ [x]) W e W' := by
    intro pre x W h0 h00 h1 h2
    obtain ⟨fn, tmps, assign, body, h3, h4⟩ := hY pre x W h0 h00 h1 h2
    refine ⟨fn, tmps, assign, body, h3, h4.mono ?_⟩
    rintro e W' (⟨rfl, h5⟩ | ⟨rfl, h5⟩)
    · exact ⟨⟨_, rfl⟩, .inl ⟨rfl, h5⟩⟩
    · exact ⟨⟨_, rfl⟩, .inr ⟨rfl, h5⟩⟩
  have c1 := hO.c1
  have hP := hid hO.ph
  have HO := hid hO
  clear hO
  gi_wp2_with (refine ⟨trivial, ?_⟩; gi_at_call 23; refine (callsIn_wide.2 (size_f hP.out)).mono ?_; rintro e w' ⟨rfl, rfl⟩)
  gi_loopw [7] (fun i wr => ∃ (k : Nat) (pre : List Nat), k ≤ 14 ∧ pre.length ≤ k ∧ Come i0 k pre ∧ i = .int .i64 (k : Nat) ∧ J pre wr ∧ OfAt b1 b2 m fb F wr)
    (fun i _ => 14 - (intOf i).toNat)
  case atStart => exact ⟨0, [], by omega, by simp, .inl ⟨Nat.zero_le _, rfl⟩, rfl, h0, HO.out⟩
  case round =>
    obtain ⟨k, pre, hk, hlen, hcm, rfl, hJs, hO⟩ := hrel
    by_cases hlt : k < 14
    · have hltI : (k : Int) < 14 := by omega
      have hltN : k < 14 := hlt
      have d1 := hO.c1
      have d2 := hO.c2
      have d3 := hO.ph.blk.cell 1
      simp only [List.getElem?_toArray, List.getElem?_cons_zero, List.getElem?_cons_succ] at d3
      have d4 := hO.ph.num k 0 hlt (by omega)
      rw [Nat.add_zero] at d4
      by_cases hfree : F k 0 = -1
      · have hmx : Tryz.prog.follows .mixedOrders = true := by kernel_rfl
        have hy0 := hY2 pre k wr.drew hlt hfree (hJ _ _ _ hJs ⟨rfl, rfl, rfl, Nat.le_refl _, fun _ _ _ => rfl⟩) (by omega)
        rw [hfree] at d4
        have HJ := hid hJs
        have HO2 := hid hO
        clear hJs hO
        obtain ⟨fn, tmps, assign, body, hy, hR⟩ := hy0
        have hg0 : wr.grownBy wr.drew none := ⟨rfl, rfl, rfl, Nat.le_refl _, fun _ _ _ => rfl⟩
        gi_wp2
        gi_region_with_o (refine hR.mono ?_; rintro e W3 (⟨⟨b, rfl⟩, hpost⟩))
        all_goals (cases b)
        all_goals (simp only [Act.put, List.setIfInBounds_toArray, List.set_cons_zero, List.set_cons_succ, Bool.not_true, Bool.not_false])
        all_goals gi_wp2
        all_goals (try clear hR)
        all_goals first
          | (refine bodyPost_ret (results_none rfl _ _ _) rfl ?_
             rcases hpost with ⟨h, _⟩ | ⟨_, h⟩
             · simp at h
             · exact ⟨⟨_, rfl⟩, .inr ⟨_, Come.head hcm hfree hfj, h⟩⟩)
          | skip
        all_goals
          rcases hpost with ⟨_, h1, h2⟩ | ⟨h, _⟩
          · refine ⟨⟨k + 1, pre ++ [k], by omega, by simp; omega, hcm.step' hfree hfj, by simp, h1, HO2.out.keep h2⟩, ?_⟩
            simp [intOf]; omega
          · simp at h
      · have db : (F k 0 == -1) = false := by simpa using hfree
        have db2 : decide (F k 0 = -1) = false := by simpa using hfree
        have hmx : Tryz.prog.follows .mixedOrders = true := by kernel_rfl
        have HO2 := hid hO
        have HJ := hid hJs
        clear hO hJs
        gi_wp2
        refine wpIn_region_quiet_lit rfl (by kernel_rfl) (by kernel_rfl) ?_
        repeat (gi_big_quiet_step (fail))
        refine BigFrame.wpQuietIn_skip (fun _ _ _ _ => trivial) rfl ?_
        simp only [Act.put, List.setIfInBounds_toArray, List.set_cons_zero, List.set_cons_succ]
        repeat (gi_big_quiet_step (fail))
        refine wpQuietIn_nil ?_
        intro _ hw'
        obtain ⟨nq, hw''⟩ := hw'
        subst hw''
        have hg0 : wr.grownBy (wr.drewN nq) none := ⟨rfl, rfl, rfl, Nat.le_refl _, fun _ _ _ => rfl⟩
        gi_wp2
        refine ⟨⟨k + 1, pre, by omega, by omega, hcm.step hfree hf0, by simp, hJ _ _ _ HJ.out hg0, HO2.out.keep (fun _ _ => rfl)⟩, ?_⟩
        simp [intOf]; omega
    · obtain rfl : k = 14 := by omega
      gi_wp2
      go_end0
      refine ⟨⟨_, rfl⟩, .inl ⟨pre, ?_, hJs⟩⟩
      rcases hcm with ⟨h, _⟩ | ⟨_, h⟩
      · omega
      · exact h

/-- A free frame. -/
abbrev FreeF (F : Nat → Nat → Int) := {x : Nat // x < 14 ∧ F x 0 = -1}

theorem of_stops (n : Nat) (hn : 1 ≤ n) (b1 b2 m fb i0 : Nat) (F : Nat → Nat → Int) (hi0 : i0 < 14) (hf0 : F i0 0 = -1) (hfj : ∀ j, j < i0 → F j 0 ≠ -1) (w : World) (hO : OfAt b1 b2 m fb F w) :
    SeqStopsK Fence.wide n Tryz.prog 58 #[.pointer (some ⟨b1, 0, none⟩), .pointer (some ⟨b2, 0, none⟩)] (fun x : FreeF F => #[.int .i64 (x.1 : Nat)]) (KA [b1, b2, m, fb]) (fun ys => (ys.map Subtype.val).head? = some i0) (fun pre => (pre.map Subtype.val).head? = some i0) 14 w := fun l J Jx W hW hJ _ hY h0 => by
  have hm : m < w.heap.size := hO.ph.blk.lt
  have hf : fb < w.heap.size := hO.ph.fr.lt
  refine (of1_in n hn l b1 b2 m fb i0 F hi0 hf0 hfj (fun s W => ∃ t : List (FreeF F), t.map Subtype.val = s ∧ J t W) (fun s W => ∃ t : List (FreeF F), t.map Subtype.val = s ∧ Jx t W) ?_ W ?_ ?_ ⟨[], rfl, h0⟩).mono ?_
  · rintro _ x W1 hx hfx ⟨t, rfl, hj⟩ hl
    refine (hY t ⟨x, hx, hfx⟩ W1 hj (by simpa using hl)).mono ?_
    rintro e W' (⟨rfl, hj', hk'⟩ | ⟨rfl, hj'⟩)
    · exact .inl ⟨rfl, ⟨t ++ [⟨x, hx, hfx⟩], by simp, hj'⟩, hk'⟩
    · exact .inr ⟨rfl, ⟨t ++ [⟨x, hx, hfx⟩], by simp, hj'⟩⟩
  · refine hO.keep (fun b hb => hW.block b ?_)
    simp only [List.mem_cons, List.not_mem_nil, or_false] at hb
    rcases hb with rfl | rfl | rfl | rfl
    · exact hO.l1
    · exact hO.l2
    · exact hm
    · exact hf
  · rintro _ W1 W' ⟨t, rfl, hj⟩ hg
    exact ⟨t, rfl, hJ t W1 W' none hj hg (fun r e => by cases e)⟩
  · rintro e W' ⟨he, ⟨_, h, t, rfl, hj⟩ | ⟨_, h, t, rfl, hj⟩⟩
    · exact ⟨he, .inl ⟨t, h, hj⟩⟩
    · exact ⟨he, .inr ⟨t, h, hj⟩⟩

theorem of_f (m : Nat) (o : Int) (w : World) : Calls Tryz.prog 26 #[.pointer (some ⟨m, 0, none⟩), .int .i64 o] w fun e w' =>
    e = .returned (.func (.func 58) #[] #[.pointer (some ⟨w.heap.size, 0, none⟩), .pointer (some ⟨w.heap.size + 1, 0, none⟩)]) ∧ w' = (w.alloc (.cells #[.pointer (some ⟨m, 0, none⟩)] 24)).alloc (.cells #[.int .i64 o] 3) := by
  go_enter Tryz.func26, Tryz.ntmps26
  go_wp2
  go_ret
  exact ⟨rfl, rfl⟩

/-- What stands while Alloc looks for a free frame. -/
structure AlSt (w : World) (m fb o : Nat) (F : Nat → Nat → Int) (a b : Value) (W : World) : Prop where
  md : Tn.Mod [fb] w W
  b0 : Blk W w.heap.size 24 #[.pointer (some ⟨m, 0, none⟩)]
  b1 : Blk W (w.heap.size + 1) 3 #[.int .i64 (o : Nat)]
  r0 : Blk W (w.heap.size + 1 + 1) 3 #[a]
  r1 : Blk W (w.heap.size + 1 + 1 + 1) 25 #[b]
  ph : PH W m fb F
  mb : m < w.heap.size
  fbb : fb < w.heap.size

theorem AlSt.turn {w : World} {m fb o : Nat} {F : Nat → Nat → Int} {a b : Value} {W W' : World} (h : AlSt w m fb o F a b W) {row : Option Nat} (hg : W.grownBy W' row) (hr : ∀ r, row = some r → w.heap.size + 4 ≤ r) : AlSt w m fb o F a b W' := by
  have ne : ∀ i, i < w.heap.size + 4 → some i ≠ row := fun i hi e => by have := hr i e.symm; omega
  have h1 := h.mb
  have h2 := h.fbb
  exact ⟨h.md.grown hg (fun k e => .inr (by have := hr k e; omega)), h.b0.of_heap (hg.block _ h.b0.lt (ne _ (by omega))), h.b1.of_heap (hg.block _ h.b1.lt (ne _ (by omega))), h.r0.of_heap (hg.block _ h.r0.lt (ne _ (by omega))), h.r1.of_heap (hg.block _ h.r1.lt (ne _ (by omega))),
    ⟨h.ph.blk.of_heap (hg.block _ h.ph.blk.lt (ne _ (by omega))), h.ph.fr.of_heap (hg.block _ h.ph.fr.lt (ne _ (by omega)))⟩, h1, h2⟩
theorem AlSt.drew {w : World} {m fb o : Nat} {F : Nat → Nat → Int} {a b : Value} {W : World} (h : AlSt w m fb o F a b W) : AlSt w m fb o F a b W.drew :=
  h.turn (row := none) ⟨rfl, rfl, rfl, Nat.le_refl _, fun _ _ _ => rfl⟩ (fun r e => by cases e)
theorem AlSt.own {w : World} {m fb o : Nat} {F : Nat → Nat → Int} {a b : Value} {W : World} (h : AlSt w m fb o F a b W) (x : Nat) (hx : x < 14) (v : Int) : AlSt w m fb o (upd F x 0 v) a b (W.setCell ⟨fb, x * 260, none⟩ (.int .i64 v)) := by
  have hm : Tn.Mod [fb] W (W.setCell ⟨fb, x * 260, none⟩ (.int .i64 v)) := (Mod.refl _ W).setCell (.inl (by simp)) _
  have h2 := h.fbb
  exact ⟨h.md.setCell (.inl (by simp)) _, h.b0.mod hm (by simp; omega), h.b1.mod hm (by simp; omega), h.r0.mod hm (by simp; omega), h.r1.mod hm (by simp; omega), by have h3 := h.ph.store x 0 hx (by omega) v; rwa [Nat.add_zero] at h3, h.mb, h2⟩
theorem AlSt.res0 {w : World} {m fb o : Nat} {F : Nat → Nat → Int} {a b : Value} {W : World} (h : AlSt w m fb o F a b W) (v : Value) : AlSt w m fb o F v b (W.setCell ⟨w.heap.size + 1 + 1, 0, none⟩ v) := by
  have hm : Tn.Mod [w.heap.size + 1 + 1] W (W.setCell ⟨w.heap.size + 1 + 1, 0, none⟩ v) := (Mod.refl _ W).setCell (.inl (by simp)) _
  have h1 := h.mb
  have h2 := h.fbb
  exact ⟨h.md.setCell (.inr (by simp; omega)) _, h.b0.mod hm (by simp; omega), h.b1.mod hm (by simp), h.r0.set_ 0 v, h.r1.mod hm (by simp), h.ph.mod hm (by simp; omega) (by simp; omega), h1, h2⟩
theorem AlSt.res1 {w : World} {m fb o : Nat} {F : Nat → Nat → Int} {a b : Value} {W : World} (h : AlSt w m fb o F a b W) (v : Value) : AlSt w m fb o F a v (W.setCell ⟨w.heap.size + 1 + 1 + 1, 0, none⟩ v) := by
  have hm : Tn.Mod [w.heap.size + 1 + 1 + 1] W (W.setCell ⟨w.heap.size + 1 + 1 + 1, 0, none⟩ v) := (Mod.refl _ W).setCell (.inl (by simp)) _
  have h1 := h.mb
  have h2 := h.fbb
  exact ⟨h.md.setCell (.inr (by simp; omega)) _, h.b0.mod hm (by simp; omega), h.b1.mod hm (by simp), h.r0.mod hm (by simp), h.r1.set_ 0 v, h.ph.mod hm (by simp; omega) (by simp; omega), h1, h2⟩

set_option maxRecDepth 100000 in
set_option maxHeartbeats 4000000 in
theorem alloc_f {w : World} {m fb : Nat} {F : Nat → Nat → Int} (h : PH w m fb F) (o i0 : Nat) (ho : o < 8) (hi0 : i0 < 14) (hf0 : F i0 0 = -1) (hfj : ∀ j, j < i0 → F j 0 ≠ -1) :
    Calls Tryz.prog 7 #[.pointer (some ⟨m, 0, none⟩), .int .i64 (o : Nat)] w fun e w' => (∃ v, e = .returned v) ∧ PH w' m fb (upd F i0 0 o) ∧ Tn.Mod [fb] w w' := by
  refine (callsIn_wide (n := 6)).1 ?_
  have H := hid h
  clear h
  have hH1 : ∀ W, Tn.Mod [] w W → PH W m fb F := fun W hm => H.out.mod0 hm
  refine callsIn_of_wp_marks Tryz.func7 rfl trivial ?_ rfl
  simp only [Tryz.ntmps7, List.size_toArray, List.length_cons, List.length_nil, Nat.reduceAdd, Nat.reduceSub, Array.replicate_succ, Array.replicate_zero, List.push_toArray, List.append_toArray, List.nil_append, List.cons_append]
  gi_wp2_with (refine ⟨trivial, ?_⟩; first
    | (gi_at_call 24; refine (callsIn_wide.2 (none_f (H.out.mod0 (((((Mod.refl [] w).alloc _).alloc _).alloc _).alloc _)))).mono ?_; rintro e w1 ⟨rfl, rfl⟩)
    | (gi_at_call 25; refine (callsIn_wide.2 (pdomain_f o ho _)).mono ?_; rintro e w1 ⟨rfl, rfl⟩)
    | (gi_at_call 26; refine (callsIn_wide.2 (of_f _ _ _)).mono ?_; rintro e w1 ⟨rfl, rfl⟩))
  have hsz : ∃ W0, ((((((w.alloc (Obj.cells #[Value.pointer (some { block := m, off := 0 })] 24)).alloc (Obj.cells #[Value.int IntKind.i64 ↑o] 3)).alloc (Obj.cells #[Value.int IntKind.i64 0] 3)).alloc (Obj.cells #[Value.int IntKind.i64 0] 25)).alloc (Obj.cells #[Value.pointer (some { block := m, off := 0 })] 24)).alloc (Obj.cells #[Value.int IntKind.i64 (-1)] 3)) = W0 ∧ W0.heap.size = w.heap.size + 6 ∧ AlSt w m fb o F (.int .i64 0) (.int .i64 0) W0 ∧
      OfAt (w.heap.size + 1 + 1 + 1 + 1) (w.heap.size + 1 + 1 + 1 + 1 + 1) m fb F W0 := by
    have g0 := Blk.new w 24 #[.pointer (some ⟨m, 0, none⟩)]
    have g1 := Blk.new (w.alloc (Obj.cells #[Value.pointer (some { block := m, off := 0 })] 24)) 3 #[Value.int IntKind.i64 ↑o]
    have g2 := Blk.new ((w.alloc (Obj.cells #[Value.pointer (some { block := m, off := 0 })] 24)).alloc (Obj.cells #[Value.int IntKind.i64 ↑o] 3)) 3 #[Value.int IntKind.i64 0]
    have g3 := Blk.new (((w.alloc (Obj.cells #[Value.pointer (some { block := m, off := 0 })] 24)).alloc (Obj.cells #[Value.int IntKind.i64 ↑o] 3)).alloc (Obj.cells #[Value.int IntKind.i64 0] 3)) 25 #[Value.int IntKind.i64 0]
    simp only [World.size_alloc] at g0 g1 g2 g3
    have hw0 : Tn.Mod [] w ((((((w.alloc (Obj.cells #[Value.pointer (some { block := m, off := 0 })] 24)).alloc (Obj.cells #[Value.int IntKind.i64 ↑o] 3)).alloc (Obj.cells #[Value.int IntKind.i64 0] 3)).alloc (Obj.cells #[Value.int IntKind.i64 0] 25)).alloc (Obj.cells #[Value.pointer (some { block := m, off := 0 })] 24)).alloc (Obj.cells #[Value.int IntKind.i64 (-1)] 3)) := ((((((Mod.refl [] w).alloc _).alloc _).alloc _).alloc _).alloc _).alloc _
    refine ⟨_, rfl, by simp, ⟨hw0.mono (by simp), ?_, ?_, ?_, ?_, hH1 _ hw0, H.out.blk.lt, H.out.fr.lt⟩, ⟨?_, ?_, hH1 _ hw0, by simp, by simp⟩⟩
    · exact Blk.mod (S := []) g0 ((((((Mod.refl [] _).alloc _).alloc _).alloc _).alloc _).alloc _) (by simp)
    · exact Blk.mod (S := []) g1 (((((Mod.refl [] _).alloc _).alloc _).alloc _).alloc _) (by simp)
    · exact Blk.mod (S := []) g2 ((((Mod.refl [] _).alloc _).alloc _).alloc _) (by simp)
    · exact Blk.mod (S := []) g3 (((Mod.refl [] _).alloc _).alloc _) (by simp)
    · simp [go_sem]
    · simp [go_sem]
  obtain ⟨W0, hW0, hsz, hA0, hO⟩ := hsz
  rw [hW0]
  clear hW0
  refine wpIn_rangeFunc_ownG rfl (by omega) (gf := 58) (lb := #[.pointer (some ⟨w.heap.size + 1 + 1 + 1 + 1, 0, none⟩), .pointer (some ⟨w.heap.size + 1 + 1 + 1 + 1 + 1, 0, none⟩)]) rfl trivial (enters_of Tryz.func58 (by kernel_rfl) rfl)
    (of_stops 5 (by omega) _ _ m fb i0 F hi0 hf0 hfj W0 hO) KA.trans (KA.book (S := [w.heap.size + 1 + 1 + 1 + 1, w.heap.size + 1 + 1 + 1 + 1 + 1, m, fb]) (by have h1 := hA0.mb; have h2 := hA0.fbb; simp; omega)) (Below.refl _ _) (fun _ => rfl)
    (fun pre W => pre = [] ∧ AlSt w m fb o F (.int .i64 0) (.int .i64 0) W)
    (fun c pre W => c = .ret ∧ ∃ x : FreeF F, pre = [x] ∧ AlSt w m fb o (upd F x.1 0 o) (.int .i64 (x.1 : Nat)) (.int .i64 0) W)
    (fun s A B row hs hg hr => ⟨hs.1, hs.2.turn hg (fun r e => by have := (hr r e).1; omega)⟩)
    (fun c s A B row hs hg hr => ⟨hs.1, by obtain ⟨x, h1, h2⟩ := hs.2; exact ⟨x, h1, h2.turn hg (fun r e => by have := (hr r e).1; omega)⟩⟩)
    ⟨rfl, hA0⟩
    (fun x => { tmps := #[Value.pointer (some { block := m, off := 0 }), Value.int IntKind.i64 ↑o,
          Value.pointer (some { block := w.heap.size, off := 0 }),
          Value.pointer (some { block := w.heap.size + 1, off := 0 }),
          Value.pointer (some { block := w.heap.size + 1 + 1, off := 0 }),
          Value.pointer (some { block := w.heap.size + 1 + 1 + 1, off := 0 }), Value.int .i64 (x.1 : Nat), Value.bool false,
          Value.pointer (some { block := m, off := 0 }), Value.bool false, Value.bool false, Value.int IntKind.i64 ↑o,
          Value.bool true, Value.bool false, Value.bool false, undef, undef, Value.bool false,
          Value.pointer (some { block := m, off := 0 }),
          Value.func (Fn.func 58) #[]
            #[Value.pointer (some { block := w.heap.size + 1 + 1 + 1 + 1, off := 0 }),
              Value.pointer (some { block := w.heap.size + 1 + 1 + 1 + 1 + 1, off := 0 })],
          Value.int .i64 (x.1 : Nat), undef, undef, undef, undef, undef, undef, undef, undef, undef, undef], defers := [] }) ?assign ?body ?done ?stop
  case assign =>
    intro l x W K hK
    gi_wp2
    exact hK
  case body =>
    rintro l pre ⟨x, hx, hfx⟩ W ⟨rfl, hA⟩ hlen
    dsimp only
    have hxI : (x : Int) < 14 := by omega
    have a1 := hA.drew.b0.cell 0
    have a2 := hA.drew.b1.cell 0
    have a3 := hA.drew.ph.blk.cell 1
    have a4 := hA.drew.ph.num x 0 hx (by omega)
    have a5 := hA.drew.ph.fr.frozen (x * 260)
    rw [Nat.add_zero] at a4
    simp only [List.getElem?_toArray, List.getElem?_cons_zero, List.getElem?_cons_succ] at a1 a2 a3
    have hA1 := hA.drew.own x hx o
    have a6 := hA1.r0.cell 0
    have a7 := hA1.r0.frozen 0
    have hA2 := hA1.res0 (.int .i64 (x : Nat))
    have a8 := hA2.r1.cell 0
    have a9 := hA2.r1.frozen 0
    have hA3 := hA2.res1 (.int .i64 0)
    simp only [List.getElem?_toArray, List.getElem?_cons_zero, List.getElem?_cons_succ] at a6 a8
    have HA3 := hid hA3
    have b1 := hA1.b0.cell 0
    have b2 := hA1.b1.cell 0
    have b3 := hA1.ph.blk.cell 1
    simp only [List.getElem?_toArray, List.getElem?_cons_zero, List.getElem?_cons_succ] at b1 b2 b3
    clear hA3 hA2 hA1 hA
    gi_wp2
    refine wpIn_region_plainL (S := fun w' => w'.cell? ⟨w.heap.size, 0, none⟩ = some (.pointer (some ⟨m, 0, none⟩)) ∧ w'.cell? ⟨w.heap.size + 1, 0, none⟩ = some (.int .i64 (o : Nat)) ∧ w'.cell? ⟨m, 1, none⟩ = some (.slice (some ⟨fb, 0, none⟩) 14 14)) (by kernel_rfl) ?_ ?_
    · refine List.forall_mem_cons.2 ⟨plain_load _ _ rfl, List.forall_mem_cons.2 ⟨plain_nil _ rfl, List.forall_mem_cons.2 ⟨plain_field _ _ _ rfl, List.forall_mem_cons.2 ⟨plain_load _ _ rfl, List.forall_mem_cons.2 ⟨plain_move _ rfl, List.forall_mem_cons.2 ⟨plain_load _ _ rfl, List.forall_mem_cons.2 ⟨plain_index _ _ _ rfl, List.forall_mem_cons.2 ⟨plain_field _ _ _ rfl, List.forall_mem_cons.2 ⟨plain_field _ _ _ rfl, List.forall_mem_cons.2 ⟨plain_store _ _ _ rfl, fun _ h => by cases h⟩⟩⟩⟩⟩⟩⟩⟩⟩⟩
    have hS0 : (fun w' : World => w'.cell? ⟨w.heap.size, 0, none⟩ = some (.pointer (some ⟨m, 0, none⟩)) ∧ w'.cell? ⟨w.heap.size + 1, 0, none⟩ = some (.int .i64 (o : Nat)) ∧ w'.cell? ⟨m, 1, none⟩ = some (.slice (some ⟨fb, 0, none⟩) 14 14)) W.drew := ⟨a1, a2, a3⟩
    refine wpAnyH_take (i := 0) (v := ?_) (drop_get rfl) (by kernel_rfl) (by kernel_rfl) (by kernel_rfl) (fun _ _ _ h => h) (Or.inl ⟨by rfl, ?_⟩) hS0 ?_
    rotate_left
    · intro w9 hS9
      have k1 := hS9.1
      have k2 := hS9.2.1
      have k3 := hS9.2.2
      go_simp
      try with_reducible rfl
    simp only [Act.put, List.setIfInBounds_toArray, List.set_cons_zero, List.set_cons_succ]
    refine wpAnyH_take (i := 1) (v := ?_) (drop_get rfl) (by kernel_rfl) (by kernel_rfl) (by kernel_rfl) (fun _ _ _ h => h) (Or.inl ⟨by rfl, ?_⟩) hS0 ?_
    rotate_left
    · intro w9 hS9
      have k1 := hS9.1
      have k2 := hS9.2.1
      have k3 := hS9.2.2
      go_simp
      try with_reducible rfl
    simp only [Act.put, List.setIfInBounds_toArray, List.set_cons_zero, List.set_cons_succ]
    refine wpAnyH_take (i := 2) (v := ?_) (drop_get rfl) (by kernel_rfl) (by kernel_rfl) (by kernel_rfl) (fun _ _ _ h => h) (Or.inl ⟨by rfl, ?_⟩) hS0 ?_
    rotate_left
    · intro w9 hS9
      have k1 := hS9.1
      have k2 := hS9.2.1
      have k3 := hS9.2.2
      go_simp
      try with_reducible rfl
    simp only [Act.put, List.setIfInBounds_toArray, List.set_cons_zero, List.set_cons_succ]
    refine wpAnyH_take (i := 3) (v := ?_) (drop_get rfl) (by kernel_rfl) (by kernel_rfl) (by kernel_rfl) (fun _ _ _ h => h) (Or.inl ⟨by rfl, ?_⟩) hS0 ?_
    rotate_left
    · intro w9 hS9
      have k1 := hS9.1
      have k2 := hS9.2.1
      have k3 := hS9.2.2
      go_simp
      try with_reducible rfl
    simp only [Act.put, List.setIfInBounds_toArray, List.set_cons_zero, List.set_cons_succ]
    refine wpAnyH_take (i := 4) (v := ?_) (drop_get rfl) (by kernel_rfl) (by kernel_rfl) (by kernel_rfl) (fun _ _ _ h => h) (Or.inl ⟨by rfl, ?_⟩) hS0 ?_
    rotate_left
    · intro w9 hS9
      have k1 := hS9.1
      have k2 := hS9.2.1
      have k3 := hS9.2.2
      go_simp
      try with_reducible rfl
    simp only [Act.put, List.setIfInBounds_toArray, List.set_cons_zero, List.set_cons_succ]
    refine wpAnyH_take (i := 5) (v := ?_) (drop_get rfl) (by kernel_rfl) (by kernel_rfl) (by kernel_rfl) (fun _ _ _ h => h) (Or.inl ⟨by rfl, ?_⟩) hS0 ?_
    rotate_left
    · intro w9 hS9
      have k1 := hS9.1
      have k2 := hS9.2.1
      have k3 := hS9.2.2
      go_simp
      try with_reducible rfl
    simp only [Act.put, List.setIfInBounds_toArray, List.set_cons_zero, List.set_cons_succ]
    refine wpAnyH_take (i := 6) (v := ?_) (drop_get rfl) (by kernel_rfl) (by kernel_rfl) (by kernel_rfl) (fun _ _ _ h => h) (Or.inl ⟨by rfl, ?_⟩) hS0 ?_
    rotate_left
    · intro w9 hS9
      have k1 := hS9.1
      have k2 := hS9.2.1
      have k3 := hS9.2.2
      go_simp
      try with_reducible rfl
    simp only [Act.put, List.setIfInBounds_toArray, List.set_cons_zero, List.set_cons_succ]
    refine wpAnyH_take (i := 7) (v := ?_) (drop_get rfl) (by kernel_rfl) (by kernel_rfl) (by kernel_rfl) (fun _ _ _ h => h) (Or.inl ⟨by rfl, ?_⟩) hS0 ?_
    rotate_left
    · intro w9 hS9
      have k1 := hS9.1
      have k2 := hS9.2.1
      have k3 := hS9.2.2
      go_simp
      try with_reducible rfl
    simp only [Act.put, List.setIfInBounds_toArray, List.set_cons_zero, List.set_cons_succ]
    refine wpAnyH_take (i := 8) (v := ?_) (drop_get rfl) (by kernel_rfl) (by kernel_rfl) (by kernel_rfl) (fun _ _ _ h => h) (Or.inl ⟨by rfl, ?_⟩) hS0 ?_
    rotate_left
    · intro w9 hS9
      have k1 := hS9.1
      have k2 := hS9.2.1
      have k3 := hS9.2.2
      go_simp
      try with_reducible rfl
    simp only [Act.put, List.setIfInBounds_toArray, List.set_cons_zero, List.set_cons_succ]
    have hS1 : (fun w' : World => w'.cell? ⟨w.heap.size, 0, none⟩ = some (.pointer (some ⟨m, 0, none⟩)) ∧ w'.cell? ⟨w.heap.size + 1, 0, none⟩ = some (.int .i64 (o : Nat)) ∧ w'.cell? ⟨m, 1, none⟩ = some (.slice (some ⟨fb, 0, none⟩) 14 14)) (W.drew.setCell ⟨fb, x * 260, none⟩ (.int .i64 (o : Nat))) := ⟨b1, b2, b3⟩
    have hKo : KeepsOthers W W.drew := KeepsOthers.drew W
    generalize W.drew = V at *
    refine wpAnyH_ready (rs := [9]) (by kernel_rfl) (by simp) ?_
    refine AllReadyH.cons (drop_get rfl) (fun K hK => ?_) AllReadyH.nil
    go_simp
    refine hK _ _ hS1 ?_
    clear hK K
    intro _
    refine wpAnyH_done (by kernel_rfl) ?_ _
    rename_i hcont hdrop
    clear hdrop b1 b2 b3 hS1 hS0
    refine hcont _ _ ?_
    clear hcont
    gi_wp2
    refine ⟨(((hKo.trans (KeepsOthers.setCell _ _ _)).trans (KeepsOthers.setCell _ _ _)).trans (KeepsOthers.setCell _ _ _)).from _, rfl, ⟨x, hx, hfx⟩, rfl, HA3.out⟩
  case done =>
    rintro D ys W hD hys ⟨rfl, _⟩ hK
    simp at hys
  case stop =>
    rintro D c pre W hD hpre ⟨rfl, ⟨x, hx, hfx⟩, rfl, hA⟩ hK
    simp at hpre
    subst hpre
    have a6 := hA.r0.cell 0
    have a8 := hA.r1.cell 0
    simp only [List.getElem?_toArray, List.getElem?_cons_zero, List.getElem?_cons_succ] at a6 a8
    gi_wp2
    have hA' := hA.turn (grownBy_putObj' W D (.deferred none)) (fun r e => by cases e; omega)
    have c6 := hA'.r0.cell 0
    have c8 := hA'.r1.cell 0
    simp only [List.getElem?_toArray, List.getElem?_cons_zero, List.getElem?_cons_succ] at c6 c8
    refine ⟨by simp, .inl ⟨_, _, rfl, run_takeDeferred hK, ?_⟩⟩
    refine ⟨.tuple #[.int .i64 (x : Nat), .int .i64 0], ?_, ⟨_, rfl⟩, hA'.ph, hA'.md⟩
    simp [results, Tryz.results7, go_sem, c6, c8]
end Go.Proofs.YtfolppcadckmaaaGreat
