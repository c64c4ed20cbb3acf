/-
  Layer 12: Copy.
-/
import Derived.Test.YtpabfghpfigoaaaDi
import Derived.Test.YtpabfghpfigoaaaReg
import Derived.Test.YtpabfghpfigoaaaRng
import Derived.LoopTactic
namespace Go.Proofs.Ytpabfghpfigoaaa
open Go.RowKit Go.Tn
open Go.Proofs
attribute [local go_sem] look38 del38 len38 upd38
attribute [-simp] Try.isAgg62 Try.sizeOf62

theorem Rng_left {w : World} {b r : Nat} {left : Int → Bool} {cnt : Nat} (h : Rng w b r left cnt) : w.rangeLeft b r = cnt := by
  obtain ⟨es, clock, since, seen, c0, hb, _, _, hr, _, hc, _⟩ := h
  simp only [World.rangeLeft, hb, hr]
  exact hc

theorem append_row62 {w : World} {a : Option Addr} {cap k : Nat} {d : Nat → Int} (ho : w.ownsRow 0 62 64 (.slice a k cap) k (flat d k)) (hk : k ≤ 256) (ty : TypeId) :
    ∃ A c w', (Builtin.append_ #[37, 37] ty #[.slice none 0 0, .slice a k cap]).run Try.prog w = .ok (.slice A k c) w' ∧ w'.ownsRow 0 62 64 (.slice A k c) k (flat d k) ∧ Tn.Mod [] w w' := by
  obtain ⟨i, hi, hz, hz1, hz2⟩ := info_parts info62
  cases a with
  | none =>
    obtain ⟨hl, ⟨e, hk0⟩ | ⟨g, cap', cur, e, _⟩⟩ := id ho
    · subst hk0
      cases e
      refine ⟨none, 0, w, ?_, (by rw [show flat d 0 = [] by simp [flat]]; exact World.ownsRow_nil _ _ _ _), Mod.refl _ w⟩
      simp [Builtin.append_, run_underlying Try.underlying37, sizeOf, typeInfo, hi, Builtin.lenOf, Builtin.firstCells, loadCells, loadCellsFrom]
    · cases e
  | some ad =>
    obtain ⟨hl, ⟨e, hk0⟩ | ⟨g, cap', cur, e, _⟩⟩ := id ho
    · cases e
    · cases e
      obtain ⟨v', w', hr, ho', hgr, _⟩ := run_append_own (P := Try.prog) w w.heap.size 37 ty 62 i _ 64 64 Try.underlying37 hi hz hz1 hz2 rfl (by omega) (.slice none 0 0) 0 [] (World.ownsRow_nil _ _ _ _) ⟨g, 0, none⟩ k cap (flat d k) (by rw [flat_length])
        (ho.cells (g := g) rfl)
        (fun u hu => by
          unfold flat at hu
          obtain ⟨j, _, rfl⟩ := List.mem_map.1 hu
          rfl) (by simp only [maxLen]; omega) (by omega) (Nat.le_refl _)
      rw [Nat.zero_add, List.nil_append] at ho'
      obtain ⟨A, c, rfl⟩ := own_sl ho'
      obtain ⟨l1, h1 | ⟨g1, cp1, cur1, e1, _, h2⟩⟩ := ho'
      · exact ⟨A, c, w', hr, ⟨l1, .inl h1⟩, (Mod.refl _ w).grown hgr (fun k hk => by cases hk)⟩
      · exact ⟨A, c, w', hr, ⟨l1, .inr ⟨g1, cp1, cur1, e1, Nat.zero_le _, h2⟩⟩, (Mod.refl _ w).grown hgr (fun k hk => by cases hk)⟩

theorem wp_appRow {o : Oper} {A : Act} {w : World} {K : Act → World → Prop} {Q : Exit → Act → World → Prop} (s x : Operand)
    (ho : o.op = .call { callee := .builtin .append, args := #[s, x], argTypes := #[37, 37] }) (hs : A.eval s = .slice none 0 0) (a : Option Addr) (k cap : Nat) (hx : A.eval x = .slice a k cap) (d : Nat → Int)
    (hr : w.ownsRow 0 62 64 (.slice a k cap) k (flat d k)) (hk : k ≤ 256)
    (h : ∀ A' c w', w'.ownsRow 0 62 64 (.slice A' k c) k (flat d k) → Tn.Mod [] w w' → K (A.put o.dst (.slice A' k c)) w') :
    o.wp Try.prog A w K Q := by
  obtain ⟨A', c, w', hrun, h2, h3⟩ := append_row62 hr hk o.type
  unfold Oper.wp execOp
  simp only [ho, resolve, invoke, builtin, Sem.run_bind, Sem.run_pure, Result.andThen_ok, List.map_toArray, List.map_cons, List.map_nil, hs, hx, hrun]
  exact h A' c w' h2 h3

theorem num_mono {f f' : Int → Option (Nat → Int)} (h : ∀ t, (f t).isSome = true → (f' t).isSome = true) (k : Nat) : num f k ≤ num f' k := by
  induction k with
  | zero => exact Nat.le_refl _
  | succ k ih =>
    rw [num_succ, num_succ]
    have := h (k : Int)
    cases h1 : (f (k : Int)).isSome with
    | false => simp; omega
    | true => rw [this h1]; simp; omega

theorem JM.put_ {w : World} {p mb B k m : Nat} {d : Nat → Int} {f : Int → Option (Nat → Int)} (h : JM w p mb B d k m f) (x : Int) (hx : 0 ≤ x ∧ x < k) (g : Nat → Int) (hle : num (put f x (some g)) k ≤ m) : JM (mput w mb x (.agg (sec g 0))) p mb B d k m (put f x (some g)) := by
  obtain ⟨h2, h3⟩ := h.im.put_ h.mB x hx g
  have h4 := num_put f x (some g) k hx
  have hm : Tn.Mod [mb] w (mput w mb x (.agg (sec g 0))) := (Mod.refl _ w).mput (.inl (by simp)) x _
  refine ⟨h2, ?_, hle, h.pB, h.mB, Nat.le_trans h.Bw hm.size, h.k6, h.m6⟩
  rw [h3, h.len]
  cases hs : (f x).isSome <;> (rw [hs] at h4; simp at h4 ⊢; omega)

/-- What the copy holds while the entries at 'left' are still to come. -/
def less (f : Int → Option (Nat → Int)) (left : Int → Bool) : Int → Option (Nat → Int) := fun n => if left n then none else f n
theorem less_step {f : Int → Option (Nat → Int)} {left : Int → Bool} {n : Int} {g : Nat → Int} (hn : f n = some g) : put (less f left) n (some g) = less f (fun t => left t && !(t == n)) := by
  funext t
  unfold put less
  by_cases e : t = n
  · subst e; simp [hn]
  · have : (t == n) = false := by simpa using e
    rw [if_neg e]
    show (if left t = true then none else f t) = if (left t && !(t == n)) = true then none else f t
    rw [this]
    simp

section
variable {w : World} {p mb B k m : Nat} {d : Nat → Int} {f : Int → Option (Nat → Int)}

set_option maxRecDepth 100000 in
set_option maxHeartbeats 8000000 in
theorem copy_j (h : JM w p mb B d k m f) : Calls Try.prog 18 #[.pointer (some ⟨p, 0, none⟩)] w fun e w' => ∃ py mm B2, e = .returned (.pointer (some ⟨py, 0, none⟩)) ∧ JM w' py mm B2 d k m f ∧ JM w' p mb B d k m f ∧ w.heap.size ≤ mm ∧ w.heap.size ≤ py ∧ Tn.Mod [] w w' := by
  obtain ⟨a, cap, hb, hro⟩ := h.im.blk
  have c1 := hb.cell 1
  have c2 := hb.cell 2
  have c3 := hb.cell 3
  simp only [List.getElem?_toArray, List.getElem?_cons_zero, List.getElem?_cons_succ] at c1 c2 c3
  have H := hid h
  have HRO := hid hro
  have HBK := hid hb
  have HX := hid (show Blk w.drew p 40 #[.bool true, .slice a k cap, .map (some mb), .int .i64 (m : Nat)] from hb)
  clear h hro hb
  go_enter Try.func18, Try.ntmps18
  go_wp2_with (go_at_call 27; refine (none_f H.out.im).mono ?_; rintro e w' ⟨rfl, rfl⟩)
  refine wp_region_held_drew (S := fun w' => Blk w' p 40 #[.bool true, .slice a k cap, .map (some mb), .int .i64 (m : Nat)]) (by kernel_rfl) HX.out (fun hHeld => ?_)
  refine wpAnyH_take (i := 0) (v := ?_) (drop_get rfl) (by kernel_rfl) (by kernel_rfl) (by kernel_rfl) (fun _ _ _ h => h) (Or.inl ⟨by rfl, ?_⟩) HX.out ?_
  rotate_left
  · intro w9 hS9
    have k1 := Blk.cell hS9 1
    have k3 := Blk.cell hS9 3
    simp only [List.getElem?_toArray, List.getElem?_cons_zero, List.getElem?_cons_succ] at k1 k3
    go_simp
    try with_reducible rfl
  simp only [Act.put, List.setIfInBounds_toArray, List.set_cons_zero, List.set_cons_succ]
  refine wpAnyH_take (i := 1) (v := ?_) (drop_get rfl) (by kernel_rfl) (by kernel_rfl) (by kernel_rfl) (fun _ _ _ h => h) (Or.inl ⟨by rfl, ?_⟩) HX.out ?_
  rotate_left
  · intro w9 hS9
    have k1 := Blk.cell hS9 1
    have k3 := Blk.cell hS9 3
    simp only [List.getElem?_toArray, List.getElem?_cons_zero, List.getElem?_cons_succ] at k1 k3
    go_simp
    try with_reducible rfl
  simp only [Act.put, List.setIfInBounds_toArray, List.set_cons_zero, List.set_cons_succ]
  refine wpAnyH_take (i := 2) (v := ?_) (drop_get rfl) (by kernel_rfl) (by kernel_rfl) (by kernel_rfl) (fun _ _ _ h => h) (Or.inl ⟨by rfl, ?_⟩) HX.out ?_
  rotate_left
  · intro w9 hS9
    have k1 := Blk.cell hS9 1
    have k3 := Blk.cell hS9 3
    simp only [List.getElem?_toArray, List.getElem?_cons_zero, List.getElem?_cons_succ] at k1 k3
    go_simp
    try with_reducible rfl
  simp only [Act.put, List.setIfInBounds_toArray, List.set_cons_zero, List.set_cons_succ]
  refine wpAnyH_take (i := 3) (v := ?_) (drop_get rfl) (by kernel_rfl) (by kernel_rfl) (by kernel_rfl) (fun _ _ _ h => h) (Or.inl ⟨by rfl, ?_⟩) HX.out ?_
  rotate_left
  · intro w9 hS9
    have k1 := Blk.cell hS9 1
    have k3 := Blk.cell hS9 3
    simp only [List.getElem?_toArray, List.getElem?_cons_zero, List.getElem?_cons_succ] at k1 k3
    go_simp
    try with_reducible rfl
  simp only [Act.put, List.setIfInBounds_toArray, List.set_cons_zero, List.set_cons_succ]
  refine wpAnyH_take (i := 6) (v := ?_) (drop_get rfl) (by kernel_rfl) (by kernel_rfl) (by kernel_rfl) (fun _ _ _ h => h) (Or.inl ⟨by rfl, ?_⟩) HX.out ?_
  rotate_left
  · intro w9 hS9
    have k1 := Blk.cell hS9 1
    have k3 := Blk.cell hS9 3
    simp only [List.getElem?_toArray, List.getElem?_cons_zero, List.getElem?_cons_succ] at k1 k3
    go_simp
    try with_reducible rfl
  simp only [Act.put, List.setIfInBounds_toArray, List.set_cons_zero, List.set_cons_succ]
  refine wpAnyH_take (i := 7) (v := ?_) (drop_get rfl) (by kernel_rfl) (by kernel_rfl) (by kernel_rfl) (fun _ _ _ h => h) (Or.inl ⟨by rfl, ?_⟩) HX.out ?_
  rotate_left
  · intro w9 hS9
    have k1 := Blk.cell hS9 1
    have k3 := Blk.cell hS9 3
    simp only [List.getElem?_toArray, List.getElem?_cons_zero, List.getElem?_cons_succ] at k1 k3
    go_simp
    try with_reducible rfl
  simp only [Act.put, List.setIfInBounds_toArray, List.set_cons_zero, List.set_cons_succ]
  refine wpAnyH_take (i := 8) (v := ?_) (drop_get rfl) (by kernel_rfl) (by kernel_rfl) (by kernel_rfl) (fun _ _ _ h => h) (Or.inl ⟨by rfl, ?_⟩) HX.out ?_
  rotate_left
  · intro w9 hS9
    have k1 := Blk.cell hS9 1
    have k3 := Blk.cell hS9 3
    simp only [List.getElem?_toArray, List.getElem?_cons_zero, List.getElem?_cons_succ] at k1 k3
    go_simp
    try with_reducible rfl
  simp only [Act.put, List.setIfInBounds_toArray, List.set_cons_zero, List.set_cons_succ]
  refine wpAnyH_take (i := 9) (v := ?_) (drop_get rfl) (by kernel_rfl) (by kernel_rfl) (by kernel_rfl) (fun _ _ _ h => h) (Or.inl ⟨by rfl, ?_⟩) HX.out ?_
  rotate_left
  · intro w9 hS9
    have k1 := Blk.cell hS9 1
    have k3 := Blk.cell hS9 3
    simp only [List.getElem?_toArray, List.getElem?_cons_zero, List.getElem?_cons_succ] at k1 k3
    go_simp
    try with_reducible rfl
  simp only [Act.put, List.setIfInBounds_toArray, List.set_cons_zero, List.set_cons_succ]
  refine wpAnyH_ready (rs := [4, 5]) (by kernel_rfl) (by simp) ?_
  refine AllReadyH.cons (drop_get rfl) (fun K hK => ?_) (AllReadyH.cons (drop_get rfl) (fun K hK => ?_) AllReadyH.nil)
  · -- the row is copied, then the map is made
    have HMW := hid ((Mod.refl [] w).drew)
    have HMW2 := hid (Mod.refl [] w.drew)
    have HRW := hid (row62_mod HRO.out HMW.out (by simp))
    rw [if_pos (by rfl)]
    refine wp_appRow _ _ rfl rfl a k cap rfl d HRW.out H.out.k6 ?_
    intro A' c' w1 g1 g2
    have HM1 := hid (HMW.out.andThen g2)
    have HR1 := hid g1
    have HX1 := hid (HX.out.mod (HMW2.out.andThen g2) (by simp))
    refine hK _ _ HX1.out (fun _ => ?_)
    have HMX := hid g2
    clear hK K g1 g2
    simp only [Act.put, List.setIfInBounds_toArray, List.set_cons_zero, List.set_cons_succ]
    have HXM := hid (HX1.out.mod ((Mod.refl [] w1).alloc (.map #[] 0)) (by simp))
    have HXT := HXM
    have HMT := hid (HM1.out.alloc (.map #[] 0))
    have HRT := hid (row62_mod HR1.out ((Mod.refl [] w1).alloc (.map #[] 0)) (by simp))
    have HMAP := hid (show IMap (w1.alloc (.map #[] 0)) w1.heap.size (fun _ => none) ∧ mlen (w1.alloc (.map #[] 0)) w1.heap.size = 0 from ⟨IMap.made w1, mlen_made w1⟩)
    have HMMT := hid (show w.heap.size ≤ w1.heap.size from HM1.out.size)
    have HXB := hid (show Blk ((w1.alloc (.map #[] 0)).alloc (.cells #[.bool true, .slice A' k c', .map (some w1.heap.size), .int .i64 (m : Nat)] 40)) p 40 #[.bool true, .slice a k cap, .map (some mb), .int .i64 (m : Nat)] from HXT.out.mod ((Mod.refl [] (w1.alloc (.map #[] 0))).alloc _) (by simp))
    have HM3 := hid (show Tn.Mod [] w ((w1.alloc (.map #[] 0)).alloc (.cells #[.bool true, .slice A' k c', .map (some w1.heap.size), .int .i64 (m : Nat)] 40)) from HMT.out.alloc _)
    have HY3 := hid (show JM ((w1.alloc (.map #[] 0)).alloc (.cells #[.bool true, .slice A' k c', .map (some w1.heap.size), .int .i64 (m : Nat)] 40)) (w1.heap.size + 1) (w1.heap.size) (w1.heap.size + 1 + 1) d k m (fun _ => none) from by
      have hal : Tn.Mod [] (w1.alloc (.map #[] 0)) ((w1.alloc (.map #[] 0)).alloc (.cells #[.bool true, .slice A' k c', .map (some w1.heap.size), .int .i64 (m : Nat)] 40)) := (Mod.refl [] (w1.alloc (.map #[] 0))).alloc _
      have hmk := HMAP.out
      have hi2 : IMap ((w1.alloc (.map #[] 0)).alloc (.cells #[.bool true, .slice A' k c', .map (some w1.heap.size), .int .i64 (m : Nat)] 40)) (w1.heap.size) (fun _ => none) := hmk.1.mod hal (by simp)
      have hl2 : mlen ((w1.alloc (.map #[] 0)).alloc (.cells #[.bool true, .slice A' k c', .map (some w1.heap.size), .int .i64 (m : Nat)] 40)) (w1.heap.size) = 0 := by rw [mlen_of_heap (hal.block _ hmk.1.lt (by simp))]; exact hmk.2
      refine ⟨⟨⟨A', c', (by have h9 := Blk.new (w1.alloc (.map #[] 0)) 40 #[.bool true, .slice A' k c', .map (some w1.heap.size), .int .i64 (m : Nat)]; simpa using h9), row62_mod HRT.out hal (by simp)⟩, hi2.is, fun n => by rw [hi2.get]; rfl, fun n hn => (by cases hn)⟩, by rw [hl2, num_none], by rw [num_none]; exact Nat.zero_le _, Nat.lt_succ_self _, by have := hmk.1.lt; omega, by simp, H.out.k6, H.out.m6⟩)
    have HMMW := hid (show w.heap.size ≤ w1.heap.size from HMMT.out)
    have HPYW := hid (show w.heap.size ≤ w1.heap.size + 1 by have := HMT.out.size; simp at this ⊢; omega)
    have HMBW := hid (show mb < w.heap.size from H.out.im.is.lt)
    refine wpAnyH_ready (rs := [5]) (by kernel_rfl) (by simp) ?_
    refine AllReadyH.cons (drop_get rfl) (fun K hK => ?_) AllReadyH.nil
    go_simp
    refine hK _ _ HXM.out ?_
    clear hK K
    intro _
    refine wpAnyH_take (i := 10) (v := ?_) (drop_get rfl) (by kernel_rfl) (by kernel_rfl) (by kernel_rfl) (fun _ _ _ h => h) (Or.inl ⟨by rfl, ?_⟩) HXT.out ?_
    rotate_left
    · intro w9 hS9
      have k1 := Blk.cell hS9 1
      have k3 := Blk.cell hS9 3
      simp only [List.getElem?_toArray, List.getElem?_cons_zero, List.getElem?_cons_succ] at k1 k3
      go_simp
      try with_reducible rfl
    simp only [Act.put, List.setIfInBounds_toArray, List.set_cons_zero, List.set_cons_succ]
    refine wpAnyH_ready (rs := [11]) (by kernel_rfl) (by simp) ?_
    refine AllReadyH.cons (drop_get rfl) (fun K hK => ?_) AllReadyH.nil
    go_simp
    refine hK _ _ HXB.out ?_
    clear hK K
    intro _
    refine wpAnyH_take (i := 12) (v := ?_) (drop_get rfl) (by kernel_rfl) (by kernel_rfl) (by kernel_rfl) (fun _ _ _ h => h) (Or.inl ⟨by rfl, ?_⟩) HXB.out ?_
    rotate_left
    · intro w9 hS9
      have k1 := Blk.cell hS9 1
      have k3 := Blk.cell hS9 3
      simp only [List.getElem?_toArray, List.getElem?_cons_zero, List.getElem?_cons_succ] at k1 k3
      go_simp
      try with_reducible rfl
    simp only [Act.put, List.setIfInBounds_toArray, List.set_cons_zero, List.set_cons_succ]
    refine wpAnyH_done (by kernel_rfl) ?_ _
    have d2 := HXB.out.cell 2
    simp only [List.getElem?_toArray, List.getElem?_cons_zero, List.getElem?_cons_succ] at d2
    have HJ3 := hid (H.out.mod0 HM3.out)
    have hism := HJ3.out.im.is
    generalize hW3 : (w1.alloc (.map #[] 0)).alloc (.cells #[.bool true, .slice A' k c', .map (some w1.heap.size), .int .i64 (m : Nat)] 40) = W3 at *
    generalize hpy : w1.heap.size + 1 = py at *
    generalize hmm : w1.heap.size = mm at *
    go_wp2_with (at_range; refine wpList_range_rng _ rfl _ 38 rfl Try.underlying38 rfl hism ?_; intro w5 hr5 hm5)
    go_frame
    have HR5 := hid hr5
    have HY5 := hid (HY3.out.mod0 hm5)
    have HJ5 := hid (HJ3.out.mod0 hm5)
    have HM5 := hid (HM3.out.andThen hm5)
    have HLESS := hid (show less f (fun n => (mget W3 mb n).isSome) = fun _ => none by
      funext n
      show (if (mget W3 mb n).isSome = true then none else f n) = none
      rw [HJ3.out.im.get]
      cases f n <;> simp)
    obtain ⟨rr, hrr⟩ : ∃ rr, W3.heap.size = rr := ⟨_, rfl⟩
    rw [hrr] at HR5 ⊢
    have HRR := hid (show w.heap.size ≤ rr by have := HM3.out.size; omega)
    clear hr5 hm5 d2 hism c1 c2 c3
    go_loopw [4] (fun _ wr => ∃ left cnt, Hid (Rng wr mb rr left cnt) ∧ Hid (JM wr p mb B d k m f) ∧ Hid (JM wr py mm (py + 1) d k m (less f left)) ∧ Hid (Tn.Mod [] w wr)) (fun _ wr => wr.rangeLeft mb rr)
    case atStart => exact ⟨_, _, HR5.out, HJ5.out, by rw [HLESS.out]; exact HY5.out, HM5.out⟩
    case round =>
      clear HJ5 HY5 HM5 HR5
      obtain ⟨left, cnt, hr, HJ, HY, HMM⟩ := hrel
      go_wp2_with (at_next; refine wpList_next_rng _ rfl _ rfl rfl hr.out ?_ ?_)
      case refine_1 =>
        intro hl
        have hall : less f left = f := by
          funext n
          unfold less
          rw [hl n]
          rfl
        rw [hall] at HY
        clear hl hall hr
        go_wp2
        go_ret
        exact ⟨py, mm, py + 1, rfl, HY.out, HJ.out, HMMW.out, HPYW.out, HMM.out⟩
      case refine_2 =>
        intro n v w6 cnt' hln hv hr6 hlt6 hm6 hen
        have hfn := HJ.out.im.get n
        rw [hv] at hfn
        obtain ⟨g, hg, hve⟩ := Option.map_eq_some_iff.1 hfn.symm
        subst hve
        have HG := hid hg
        have HLN := hid hln
        have HR6 := hid hr6
        have HLT := hid hlt6
        have HRO6 := hid hr.out
        have HNR := hid (HJ.out.im.dom n (by rw [hg]; rfl))
        have hnr1 : (0 : Int) ≤ n := HNR.out.1
        have hnr2 : n < (k : Int) := HNR.out.2
        have hkI : (k : Int) ≤ 256 := by have := HJ.out.k6; omega
        have hrn := hr.out
        have HJ6 := hid (HJ.out.mod hm6 (by simp; intro e; subst e; obtain ⟨a0, cp0, hb0, _⟩ := HJ.out.im.blk; obtain ⟨_, _, _, _, _, _, _, _, h9, _⟩ := hrn; unfold Blk at hb0; rw [hb0] at h9; cases h9) (by simp; exact hrn.ne.symm) (fun s hs cs hc => by simp at hs; subst hs; obtain ⟨_, _, _, _, _, _, _, _, h9, _⟩ := hrn; unfold Blk at hc; rw [hc] at h9; cases h9))
        have HY6 := hid (HY.out.mod hm6 (by simp; intro e; subst e; obtain ⟨a0, cp0, hb0, _⟩ := HY.out.im.blk; obtain ⟨_, _, _, _, _, _, _, _, h9, _⟩ := hrn; unfold Blk at hb0; rw [hb0] at h9; cases h9) (by simp; intro e; subst e; obtain ⟨_, _, _, _, _, _, _, _, h9, _⟩ := hrn; obtain ⟨_, _, h8, _⟩ := isM_iff_entries.1 HY.out.im.is; rw [h8] at h9; cases h9) (fun s hs cs hc => by simp at hs; subst hs; obtain ⟨_, _, _, _, _, _, _, _, h9, _⟩ := hrn; unfold Blk at hc; rw [hc] at h9; cases h9))
        have HM6 := hid (HMM.out.trans hm6 (by intro s hs; simp at hs; subst hs; exact .inr HRR.out))
        have hs1 := hid (show (Try.prog.info? 62).map (·.size) = some (sec g 0).size by rw [sec_size]; exact size62)
        have hs2 := hid (show z62.size = (sec g 0).size by rw [sec_size]; exact z62_size)
        have hs3 := hid (show (sec g 0).all (·.oneCell') = true by rw [Array.all_eq_true_iff_forall_mem]; intro u hu; exact sec_one _ _ u (by simpa using hu))
        clear hv hfn hg hln hr6 hlt6 hm6 hrn hr HJ HY HMM
        go_wp2_with (first
          | (refine wpList_alloc62 rfl rfl ?_)
          | (refine wpList_store_row rfl 62 _ _ rfl w6.heap.size (sec g 0) rfl rfl 62 z62 (heap_alloc_new w6 _) hs1.out hs2.out hs3.out ?_))
        have hm7 : Tn.Mod [] w6 ((w6.alloc (.cells z62 62)).setRow w6.heap.size (sec g 0)) := ((Mod.refl [] w6).alloc _).setRow (.inr (Nat.le_refl _)) _
        have hb7 : Blk ((w6.alloc (.cells z62 62)).setRow w6.heap.size (sec g 0)) w6.heap.size 62 (sec g 0) := (Blk.new w6 62 z62).setRow
        generalize hb5 : w6.heap.size = b5 at hm7 hb7 ⊢
        generalize ((w6.alloc (.cells z62 62)).setRow b5 (sec g 0)) = w7 at hm7 hb7 ⊢
        have HJ7 := hid (HJ6.out.mod0 hm7)
        have HY7 := hid (HY6.out.mod0 hm7)
        have HM7 := hid (HM6.out.andThen hm7)
        have HR7 := hid (HR6.out.of_heap (hm7.block _ HR6.out.isM.lt (by simp)) (hm7.block _ HR6.out.rlt (by simp)))
        obtain ⟨aY, capY, hbY, _⟩ := (HY7.out.mod0 (Mod.refl [] w7).drew).im.blk
        have e2 := hbY.cell 2
        simp only [List.getElem?_toArray, List.getElem?_cons_zero, List.getElem?_cons_succ] at e2
        have his : IsM w7.drew mm := (HY7.out.mod0 (Mod.refl [] w7).drew).im.is
        have r1 := cells_sec (w := w7.drew) (b := b5) (o := 0) (d := g) (i := 0) (fun j u hj => by
          obtain ⟨hj2, rfl⟩ := sec_list_at _ _ _ _ hj
          rw [Nat.zero_add]
          have := (show Blk w7.drew b5 62 (sec g 0) from hb7).cell j
          rw [this, sec_at _ _ _ hj2, Nat.mul_zero, Nat.zero_add])
        have r0 := isAgg62'
        clear hb7 hm7 hbY hs1 hs2 hs3 hb5
        go_region
        all_goals (
          go_wp2
          go_roundw
          case rel =>
            have hst := less_step (left := left) HG.out
            have hmo : Tn.Mod [mm] w7 (mput w7 mm n (.agg (sec g 0))).drew := ((Mod.refl _ _).mput (.inl (by simp)) n _).drew
            have hne : mb ≠ mm := by have := HMMW.out; have := HMBW.out; omega
            have hrr2 : rr ≠ mm := fun e => by
              subst e
              obtain ⟨_, _, _, _, _, _, _, _, h9, _⟩ := HR7.out
              obtain ⟨_, _, h8, _⟩ := isM_iff_entries.1 HY7.out.im.is
              rw [h8] at h9; cases h9
            refine ⟨_, _, hid (HR7.out.of_heap (hmo.block _ HR7.out.isM.lt (by simpa using hne)) (hmo.block _ HR7.out.rlt (by simpa using hrr2))), hid (HJ7.out.mod hmo ?_ (by simpa using hne) ?_), ?_, hid (HM7.out.mput (.inr HMMW.out) n _).drew⟩
            · obtain ⟨a0, cp0, hb0, _⟩ := HJ7.out.im.blk
              simp
              exact hb0.ne_map HY7.out.im.is.imap
            · intro s hs cs hc
              simp at hs
              subst hs
              exact hc.ne_map HY7.out.im.is.imap rfl
            · rw [← hst]
              refine hid ((HY7.out.put_ n HNR.out g ?_).mod0 (Mod.refl [] _).drew)
              rw [hst]
              exact Nat.le_trans (num_mono (fun t ht => by unfold less at ht; split at ht; (· cases ht); (· exact ht)) k) HJ7.out.le
          case measure =>
            have hmo : Tn.Mod [mm] w7 (mput w7 mm n (.agg (sec g 0))).drew := ((Mod.refl _ _).mput (.inl (by simp)) n _).drew
            have hne : mb ≠ mm := by have := HMMW.out; have := HMBW.out; omega
            have hrr2 : rr ≠ mm := fun e => by
              subst e
              obtain ⟨_, _, _, _, _, _, _, _, h9, _⟩ := HR7.out
              obtain ⟨_, _, h8, _⟩ := isM_iff_entries.1 HY7.out.im.is
              rw [h8] at h9; cases h9
            rw [Rng_left (HR7.out.of_heap (hmo.block _ HR7.out.isM.lt (by simpa using hne)) (hmo.block _ HR7.out.rlt (by simpa using hrr2))), Rng_left HRO6.out]
            exact HLT.out)
  · -- the map is made, then the row is copied
    have HXM := hid (show Blk (w.alloc (.map #[] 0)).drew p 40 #[.bool true, .slice a k cap, .map (some mb), .int .i64 (m : Nat)] from (HBK.out.mod ((Mod.refl [] w).alloc (.map #[] 0)) (by simp)).mod ((Mod.refl [] _).drew) (by simp))
    have HMW := hid (show Tn.Mod [] w (w.alloc (.map #[] 0)).drew from ((Mod.refl [] w).alloc _).drew)
    have HRW := hid (row62_mod HRO.out HMW.out (by simp))
    have HMP0 := hid (show IMap (w.alloc (.map #[] 0)).drew w.heap.size (fun _ => none) ∧ mlen (w.alloc (.map #[] 0)).drew w.heap.size = 0 from ⟨(IMap.made w).mod ((Mod.refl [] _).drew) (by simp), (mlen_of_heap (w := w.alloc (.map #[] 0)) (w' := (w.alloc (.map #[] 0)).drew) rfl).trans (mlen_made w)⟩)
    go_simp
    refine hK _ _ HXM.out ?_
    clear hK K
    intro _
    refine wpAnyH_ready (rs := [4]) (by kernel_rfl) (by simp) ?_
    refine AllReadyH.cons (drop_get rfl) (fun K hK => ?_) AllReadyH.nil
    rw [if_pos (by rfl)]
    refine wp_appRow _ _ rfl rfl a k cap rfl d HRW.out H.out.k6 ?_
    intro A' c' w1 g1 g2
    have HM1 := hid (HMW.out.andThen g2)
    have HR1 := hid g1
    have HX1 := hid (HXM.out.mod g2 (by simp))
    refine hK _ _ HX1.out (fun _ => ?_)
    have HMX := hid g2
    clear hK K g1 g2
    simp only [Act.put, List.setIfInBounds_toArray, List.set_cons_zero, List.set_cons_succ]
    have HXT := HX1
    have HMT := HM1
    have HRT := HR1
    have HMAP := hid (show IMap w1 w.heap.size (fun _ => none) ∧ mlen w1 w.heap.size = 0 from ⟨HMP0.out.1.mod HMX.out (by simp), by rw [mlen_of_heap (HMX.out.block _ HMP0.out.1.lt (by simp))]; exact HMP0.out.2⟩)
    have HMMT := hid (Nat.le_refl w.heap.size)
    have HXB := hid (show Blk ((w1).alloc (.cells #[.bool true, .slice A' k c', .map (some w.heap.size), .int .i64 (m : Nat)] 40)) p 40 #[.bool true, .slice a k cap, .map (some mb), .int .i64 (m : Nat)] from HXT.out.mod ((Mod.refl [] (w1)).alloc _) (by simp))
    have HM3 := hid (show Tn.Mod [] w ((w1).alloc (.cells #[.bool true, .slice A' k c', .map (some w.heap.size), .int .i64 (m : Nat)] 40)) from HMT.out.alloc _)
    have HY3 := hid (show JM ((w1).alloc (.cells #[.bool true, .slice A' k c', .map (some w.heap.size), .int .i64 (m : Nat)] 40)) (w1.heap.size) (w.heap.size) (w1.heap.size + 1) d k m (fun _ => none) from by
      have hal : Tn.Mod [] (w1) ((w1).alloc (.cells #[.bool true, .slice A' k c', .map (some w.heap.size), .int .i64 (m : Nat)] 40)) := (Mod.refl [] (w1)).alloc _
      have hmk := HMAP.out
      have hi2 : IMap ((w1).alloc (.cells #[.bool true, .slice A' k c', .map (some w.heap.size), .int .i64 (m : Nat)] 40)) (w.heap.size) (fun _ => none) := hmk.1.mod hal (by simp)
      have hl2 : mlen ((w1).alloc (.cells #[.bool true, .slice A' k c', .map (some w.heap.size), .int .i64 (m : Nat)] 40)) (w.heap.size) = 0 := by rw [mlen_of_heap (hal.block _ hmk.1.lt (by simp))]; exact hmk.2
      refine ⟨⟨⟨A', c', (by have h9 := Blk.new (w1) 40 #[.bool true, .slice A' k c', .map (some w.heap.size), .int .i64 (m : Nat)]; simpa using h9), row62_mod HRT.out hal (by simp)⟩, hi2.is, fun n => by rw [hi2.get]; rfl, fun n hn => (by cases hn)⟩, by rw [hl2, num_none], by rw [num_none]; exact Nat.zero_le _, Nat.lt_succ_self _, by have := hmk.1.lt; omega, by simp, H.out.k6, H.out.m6⟩)
    have HMMW := hid (show w.heap.size ≤ w.heap.size from HMMT.out)
    have HPYW := hid (show w.heap.size ≤ w1.heap.size by have := HMT.out.size; simp at this ⊢; omega)
    have HMBW := hid (show mb < w.heap.size from H.out.im.is.lt)
    refine wpAnyH_take (i := 10) (v := ?_) (drop_get rfl) (by kernel_rfl) (by kernel_rfl) (by kernel_rfl) (fun _ _ _ h => h) (Or.inl ⟨by rfl, ?_⟩) HXT.out ?_
    rotate_left
    · intro w9 hS9
      have k1 := Blk.cell hS9 1
      have k3 := Blk.cell hS9 3
      simp only [List.getElem?_toArray, List.getElem?_cons_zero, List.getElem?_cons_succ] at k1 k3
      go_simp
      try with_reducible rfl
    simp only [Act.put, List.setIfInBounds_toArray, List.set_cons_zero, List.set_cons_succ]
    refine wpAnyH_ready (rs := [11]) (by kernel_rfl) (by simp) ?_
    refine AllReadyH.cons (drop_get rfl) (fun K hK => ?_) AllReadyH.nil
    go_simp
    refine hK _ _ HXB.out ?_
    clear hK K
    intro _
    refine wpAnyH_take (i := 12) (v := ?_) (drop_get rfl) (by kernel_rfl) (by kernel_rfl) (by kernel_rfl) (fun _ _ _ h => h) (Or.inl ⟨by rfl, ?_⟩) HXB.out ?_
    rotate_left
    · intro w9 hS9
      have k1 := Blk.cell hS9 1
      have k3 := Blk.cell hS9 3
      simp only [List.getElem?_toArray, List.getElem?_cons_zero, List.getElem?_cons_succ] at k1 k3
      go_simp
      try with_reducible rfl
    simp only [Act.put, List.setIfInBounds_toArray, List.set_cons_zero, List.set_cons_succ]
    refine wpAnyH_done (by kernel_rfl) ?_ _
    have d2 := HXB.out.cell 2
    simp only [List.getElem?_toArray, List.getElem?_cons_zero, List.getElem?_cons_succ] at d2
    have HJ3 := hid (H.out.mod0 HM3.out)
    have hism := HJ3.out.im.is
    generalize hW3 : (w1).alloc (.cells #[.bool true, .slice A' k c', .map (some w.heap.size), .int .i64 (m : Nat)] 40) = W3 at *
    generalize hpy : w1.heap.size = py at *
    go_wp2_with (at_range; refine wpList_range_rng _ rfl _ 38 rfl Try.underlying38 rfl hism ?_; intro w5 hr5 hm5)
    go_frame
    have HR5 := hid hr5
    have HY5 := hid (HY3.out.mod0 hm5)
    have HJ5 := hid (HJ3.out.mod0 hm5)
    have HM5 := hid (HM3.out.andThen hm5)
    have HLESS := hid (show less f (fun n => (mget W3 mb n).isSome) = fun _ => none by
      funext n
      show (if (mget W3 mb n).isSome = true then none else f n) = none
      rw [HJ3.out.im.get]
      cases f n <;> simp)
    obtain ⟨rr, hrr⟩ : ∃ rr, W3.heap.size = rr := ⟨_, rfl⟩
    rw [hrr] at HR5 ⊢
    have HRR := hid (show w.heap.size ≤ rr by have := HM3.out.size; omega)
    clear hr5 hm5 d2 hism c1 c2 c3
    go_loopw [4] (fun _ wr => ∃ left cnt, Hid (Rng wr mb rr left cnt) ∧ Hid (JM wr p mb B d k m f) ∧ Hid (JM wr py w.heap.size (py + 1) d k m (less f left)) ∧ Hid (Tn.Mod [] w wr)) (fun _ wr => wr.rangeLeft mb rr)
    case atStart => exact ⟨_, _, HR5.out, HJ5.out, by rw [HLESS.out]; exact HY5.out, HM5.out⟩
    case round =>
      clear HJ5 HY5 HM5 HR5
      obtain ⟨left, cnt, hr, HJ, HY, HMM⟩ := hrel
      go_wp2_with (at_next; refine wpList_next_rng _ rfl _ rfl rfl hr.out ?_ ?_)
      case refine_1 =>
        intro hl
        have hall : less f left = f := by
          funext n
          unfold less
          rw [hl n]
          rfl
        rw [hall] at HY
        clear hl hall hr
        go_wp2
        go_ret
        exact ⟨py, w.heap.size, py + 1, rfl, HY.out, HJ.out, HMMW.out, HPYW.out, HMM.out⟩
      case refine_2 =>
        intro n v w6 cnt' hln hv hr6 hlt6 hm6 hen
        have hfn := HJ.out.im.get n
        rw [hv] at hfn
        obtain ⟨g, hg, hve⟩ := Option.map_eq_some_iff.1 hfn.symm
        subst hve
        have HG := hid hg
        have HLN := hid hln
        have HR6 := hid hr6
        have HLT := hid hlt6
        have HRO6 := hid hr.out
        have HNR := hid (HJ.out.im.dom n (by rw [hg]; rfl))
        have hnr1 : (0 : Int) ≤ n := HNR.out.1
        have hnr2 : n < (k : Int) := HNR.out.2
        have hkI : (k : Int) ≤ 256 := by have := HJ.out.k6; omega
        have hrn := hr.out
        have HJ6 := hid (HJ.out.mod hm6 (by simp; intro e; subst e; obtain ⟨a0, cp0, hb0, _⟩ := HJ.out.im.blk; obtain ⟨_, _, _, _, _, _, _, _, h9, _⟩ := hrn; unfold Blk at hb0; rw [hb0] at h9; cases h9) (by simp; exact hrn.ne.symm) (fun s hs cs hc => by simp at hs; subst hs; obtain ⟨_, _, _, _, _, _, _, _, h9, _⟩ := hrn; unfold Blk at hc; rw [hc] at h9; cases h9))
        have HY6 := hid (HY.out.mod hm6 (by simp; intro e; subst e; obtain ⟨a0, cp0, hb0, _⟩ := HY.out.im.blk; obtain ⟨_, _, _, _, _, _, _, _, h9, _⟩ := hrn; unfold Blk at hb0; rw [hb0] at h9; cases h9) (by simp; intro e; subst e; obtain ⟨_, _, _, _, _, _, _, _, h9, _⟩ := hrn; obtain ⟨_, _, h8, _⟩ := isM_iff_entries.1 HY.out.im.is; rw [h8] at h9; cases h9) (fun s hs cs hc => by simp at hs; subst hs; obtain ⟨_, _, _, _, _, _, _, _, h9, _⟩ := hrn; unfold Blk at hc; rw [hc] at h9; cases h9))
        have HM6 := hid (HMM.out.trans hm6 (by intro s hs; simp at hs; subst hs; exact .inr HRR.out))
        have hs1 := hid (show (Try.prog.info? 62).map (·.size) = some (sec g 0).size by rw [sec_size]; exact size62)
        have hs2 := hid (show z62.size = (sec g 0).size by rw [sec_size]; exact z62_size)
        have hs3 := hid (show (sec g 0).all (·.oneCell') = true by rw [Array.all_eq_true_iff_forall_mem]; intro u hu; exact sec_one _ _ u (by simpa using hu))
        clear hv hfn hg hln hr6 hlt6 hm6 hrn hr HJ HY HMM
        go_wp2_with (first
          | (refine wpList_alloc62 rfl rfl ?_)
          | (refine wpList_store_row rfl 62 _ _ rfl w6.heap.size (sec g 0) rfl rfl 62 z62 (heap_alloc_new w6 _) hs1.out hs2.out hs3.out ?_))
        have hm7 : Tn.Mod [] w6 ((w6.alloc (.cells z62 62)).setRow w6.heap.size (sec g 0)) := ((Mod.refl [] w6).alloc _).setRow (.inr (Nat.le_refl _)) _
        have hb7 : Blk ((w6.alloc (.cells z62 62)).setRow w6.heap.size (sec g 0)) w6.heap.size 62 (sec g 0) := (Blk.new w6 62 z62).setRow
        generalize hb5 : w6.heap.size = b5 at hm7 hb7 ⊢
        generalize ((w6.alloc (.cells z62 62)).setRow b5 (sec g 0)) = w7 at hm7 hb7 ⊢
        have HJ7 := hid (HJ6.out.mod0 hm7)
        have HY7 := hid (HY6.out.mod0 hm7)
        have HM7 := hid (HM6.out.andThen hm7)
        have HR7 := hid (HR6.out.of_heap (hm7.block _ HR6.out.isM.lt (by simp)) (hm7.block _ HR6.out.rlt (by simp)))
        obtain ⟨aY, capY, hbY, _⟩ := (HY7.out.mod0 (Mod.refl [] w7).drew).im.blk
        have e2 := hbY.cell 2
        simp only [List.getElem?_toArray, List.getElem?_cons_zero, List.getElem?_cons_succ] at e2
        have his : IsM w7.drew w.heap.size := (HY7.out.mod0 (Mod.refl [] w7).drew).im.is
        have r1 := cells_sec (w := w7.drew) (b := b5) (o := 0) (d := g) (i := 0) (fun j u hj => by
          obtain ⟨hj2, rfl⟩ := sec_list_at _ _ _ _ hj
          rw [Nat.zero_add]
          have := (show Blk w7.drew b5 62 (sec g 0) from hb7).cell j
          rw [this, sec_at _ _ _ hj2, Nat.mul_zero, Nat.zero_add])
        have r0 := isAgg62'
        clear hb7 hm7 hbY hs1 hs2 hs3 hb5
        go_region
        all_goals (
          go_wp2
          go_roundw
          case rel =>
            have hst := less_step (left := left) HG.out
            have hmo : Tn.Mod [w.heap.size] w7 (mput w7 w.heap.size n (.agg (sec g 0))).drew := ((Mod.refl _ _).mput (.inl (by simp)) n _).drew
            have hne : mb ≠ w.heap.size := by have := HMMW.out; have := HMBW.out; omega
            have hrr2 : rr ≠ w.heap.size := fun e => by
              subst e
              obtain ⟨_, _, _, _, _, _, _, _, h9, _⟩ := HR7.out
              obtain ⟨_, _, h8, _⟩ := isM_iff_entries.1 HY7.out.im.is
              rw [h8] at h9; cases h9
            refine ⟨_, _, hid (HR7.out.of_heap (hmo.block _ HR7.out.isM.lt (by simpa using hne)) (hmo.block _ HR7.out.rlt (by simpa using hrr2))), hid (HJ7.out.mod hmo ?_ (by simpa using hne) ?_), ?_, hid (HM7.out.mput (.inr HMMW.out) n _).drew⟩
            · obtain ⟨a0, cp0, hb0, _⟩ := HJ7.out.im.blk
              simp
              exact hb0.ne_map HY7.out.im.is.imap
            · intro s hs cs hc
              simp at hs
              subst hs
              exact hc.ne_map HY7.out.im.is.imap rfl
            · rw [← hst]
              refine hid ((HY7.out.put_ n HNR.out g ?_).mod0 (Mod.refl [] _).drew)
              rw [hst]
              exact Nat.le_trans (num_mono (fun t ht => by unfold less at ht; split at ht; (· cases ht); (· exact ht)) k) HJ7.out.le
          case measure =>
            have hmo : Tn.Mod [w.heap.size] w7 (mput w7 w.heap.size n (.agg (sec g 0))).drew := ((Mod.refl _ _).mput (.inl (by simp)) n _).drew
            have hne : mb ≠ w.heap.size := by have := HMMW.out; have := HMBW.out; omega
            have hrr2 : rr ≠ w.heap.size := fun e => by
              subst e
              obtain ⟨_, _, _, _, _, _, _, _, h9, _⟩ := HR7.out
              obtain ⟨_, _, h8, _⟩ := isM_iff_entries.1 HY7.out.im.is
              rw [h8] at h9; cases h9
            rw [Rng_left (HR7.out.of_heap (hmo.block _ HR7.out.isM.lt (by simpa using hne)) (hmo.block _ HR7.out.rlt (by simpa using hrr2))), Rng_left HRO6.out]
            exact HLT.out)
end
end Go.Proofs.Ytpabfghpfigoaaa
