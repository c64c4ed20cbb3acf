/-
  Layer 12: Dirty.
-/
import Derived.Test.YtpabfghpfigoaaaWa
import Derived.LoopTactic
namespace Go.Proofs.Ytpabfghpfigoaaa
open Go.RowKit Go.Tn
open Go.Proofs

theorem info3 : (Try.prog.info? 3).map (fun i => (i.zero, i.size, i.bytes)) = some (some (.int .i64 0), 1, 8) := by kernel_rfl

theorem own_sl {W : World} {base : Nat} {e : TypeId} {size : Nat} {v : Value} {k : Nat} {xs : List Value} (h : W.ownsRow base e size v k xs) : ∃ A cap, v = .slice A k cap := by
  obtain ⟨_, ⟨rfl, rfl⟩ | ⟨g, cap, cur, rfl, _⟩⟩ := h
  · exact ⟨_, _, rfl⟩
  · exact ⟨_, _, rfl⟩

/-- A list of ints under way in a box c, all made since w0. -/
structure DY (w0 w : World) (c : Nat) (v : Value) (xs : List Value) : Prop where
  cb : Blk w c 43 #[v]
  row : w.ownsRow (c + 1) 3 1 v xs.length xs
  mod : Tn.Mod [] w0 w
  c0 : w0.heap.size ≤ c

theorem DY.later {w0 w w' : World} {c : Nat} {v : Value} {xs : List Value} (h : DY w0 w c v xs) (hm : Tn.Mod [] w w') : DY w0 w' c v xs :=
  ⟨h.cb.mod hm (by simp), ownsRow_other h.row (fun g _ hl => hm.block g hl (by simp)), h.mod.andThen hm, h.c0⟩

set_option maxHeartbeats 1000000 in
/-- Dirty's closure. -/
theorem dirty1_f {w0 w : World} {c : Nat} {v : Value} {xs : List Value} (h : DY w0 w c v xs) (hn : xs.length ≤ 256) (i : Int) (b : Bool) :
    Calls Try.prog 30 #[.int .i64 i, .bool b, .pointer (some ⟨c, 0, none⟩)] w fun e w' => e = .returned (.tuple #[]) ∧ ∃ v', DY w0 w' c v' (xs ++ if b then [.int .i64 i] else []) := by
  cases b with
  | false =>
    have H := hid h
    clear h
    go_enter Try.func30, Try.ntmps30
    go_wp2
    go_end0
    exact ⟨rfl, v, H.out⟩
  | true =>
    obtain ⟨i0, hi, hz0, hz1, hz2⟩ := info_parts info3
    obtain ⟨A, cap, rfl⟩ := own_sl h.row
    have c0 := h.cb.cell 0
    have f0 := h.cb.frozen 0
    simp only [List.getElem?_toArray, List.getElem?_cons_zero] at c0
    have H := hid h
    have hal := hid (h.row.alloc (.cells #[.int .i64 i] 3))
    have HN := hid hn
    have hc := hid h.cb.lt
    clear h hn
    go_enter Try.func30, Try.ntmps30
    go_wp2_with (at_builtin; refine wpList_append_own _ rfl _ _ 43 rfl (c + 1) 3 i0 _ 1 8 Try.underlying43 hi hz0 hz1 hz2 rfl (by decide) _ _ _ rfl hal.out ⟨w.heap.size, 0, none⟩ 1 1 [.int .i64 i] rfl rfl ?c1 ?c2 ?c3 ?c4 ?c5 ?_)
    case c1 =>
      intro j u hj
      match j, hj with
      | 0, hj => simp at hj; subst hj; simp [Addr.add]
    case c2 => intro u hu; simp at hu; subst hu; rfl
    case c3 => have := HN.out; unfold maxLen; omega
    case c4 => have := HN.out; omega
    case c5 => have := hc.out; simp; omega
    intro v' w1 hown' hgrow _
    obtain ⟨A', cap', rfl⟩ := own_sl hown'
    have hne : ∀ b, (Value.slice A xs.length cap).ownBlock = some b → c < b := fun b hb' => by
      have := (H.out.row.lt b hb').1; omega
    have hb1 : Blk w1 c 43 #[.slice A xs.length cap] := by
      refine (H.out.cb.of_heap (Below.heap_alloc w _ _ hc.out)).of_heap (hgrow.block _ (by have := hc.out; simp; omega) (fun e => ?_))
      have := hne _ e.symm
      omega
    have c1 : w1.cell? ⟨c, 0, none⟩ = some (.slice A xs.length cap) := hb1.cell 0
    have f1 : w1.frozen? ⟨c, 0, none⟩ = false := hb1.frozen 0
    have HB1 := hid hb1
    have HO := hid hown'
    have HG := hid hgrow
    have HNE := hid hne
    clear hb1 hown' hgrow hne
    go_wp2
    go_end0
    refine ⟨rfl, .slice A' (xs.length + 1) cap', ?_, ?_, ?_, H.out.c0⟩
    · exact HB1.out.set_ 0 _
    · have := HO.out
      simp only [if_true, List.length_append, List.length_cons, List.length_nil]
      exact ownsRow_other this fun b hb' _ => Below.heap_setCell _ _ _ _ (by simp; omega)
    · exact ((H.out.mod.alloc _).grown HG.out fun b hb' => .inr (by have := HNE.out b hb'; have := H.out.c0; omega)).setCell (.inr H.out.c0) _

/-- The sectors that are written. -/
def dirtyL (f : Int → Option (Nat → Int)) (k : Nat) : List Nat := (List.range k).filter fun t : Nat => (f (t : Int)).isSome
def intsL (l : List Nat) : List Value := l.map fun t : Nat => .int .i64 (t : Int)
theorem dirtyL_length (f : Int → Option (Nat → Int)) (k : Nat) : (dirtyL f k).length = num f k := rfl
theorem dirtyL_succ (f : Int → Option (Nat → Int)) (k : Nat) : intsL (dirtyL f (k + 1)) = intsL (dirtyL f k) ++ (if (f (k : Int)).isSome then [.int .i64 (k : Int)] else []) := by
  unfold dirtyL intsL
  rw [List.range_succ, List.filter_append, List.map_append]
  cases h : f (k : Int) <;> (rw [List.filter_cons]; simp only [h]; simp)

section
variable {w0 w : World} {p mb B k m : Nat} {d : Nat → Int} {f : Int → Option (Nat → Int)}

set_option maxHeartbeats 2000000 in
theorem each_dirty (h : JM w0 p mb B d k m f) (c : Nat) (hd : DY w0 w c (.slice none 0 0) []) :
    Calls Try.prog 28 #[.pointer (some ⟨p, 0, none⟩), .int .i64 0, .int .i64 (k : Nat), .func (.func 30) #[] #[.pointer (some ⟨c, 0, none⟩)]] w fun e w' => e = .returned (.tuple #[]) ∧ ∃ v, DY w0 w' c v (intsL (dirtyL f k)) := by
  have HI := hid h
  have HK := hid h.k6
  have HP := hid h.pB
  have HZ := hid h.Bw
  have hkb : (k : Int) ≤ 256 := by have := h.k6; omega
  clear h
  go_enter Try.func28, Try.ntmps28
  go_wp2
  go_loopw [8] (fun i wr => ∃ (j : Nat) (v : Value), j ≤ k ∧ i = .int .i64 (j : Int) ∧ Hid (DY w0 wr c v (intsL (dirtyL f j)))) (fun i _ => k - (intOf i).toNat)
  case atStart => exact ⟨0, _, Nat.zero_le _, rfl, hd⟩
  case round =>
    obtain ⟨j, v, hj, rfl, hD⟩ := hrel
    by_cases hlt : j < k
    · have HJ := hid (HI.out.mod0 hD.out.mod)
      have hlt' : (j : Int) < (k : Int) := by omega
      have hs2 := hid (show (Try.prog.info? 62).map (·.size) = some (wrt f (j : Int)).size by rw [wrt_size]; exact size62)
      have hs3 := hid (show z62.size = (wrt f (j : Int)).size by rw [wrt_size]; exact z62_size)
      have hs4 := hid (wrt_one f (j : Int))
      have hsucc := hid (dirtyL_succ f j)
      have HL := hid (show (intsL (dirtyL f j)).length ≤ 256 by have := num_le f j; have := HK.out; simp only [intsL, List.length_map, dirtyL_length]; omega)
      generalize hio : (f (j : Int)).isSome = io at hsucc
      generalize hcs : wrt f (j : Int) = cs at hs2 hs3 hs4
      clear hd
      go_wp2_with (first
        | (go_at_call 26; refine (written_f HJ.out.im _ HP.out HJ.out.Bw).mono ?_; rw [hio, hcs]; rintro e w1 ⟨rfl, hm1⟩; have HM1 := hid hm1; clear hm1)
        | (refine wpList_alloc62 rfl rfl ?_)
        | (refine wpList_store_row rfl 62 _ _ rfl w1.heap.size cs rfl rfl 62 z62 (heap_alloc_new w1 _) hs2.out hs3.out hs4.out ?_)
        | (go_at_call 30; have hm2 : Tn.Mod [] wr ((w1.alloc (.cells z62 62)).setRow w1.heap.size cs) := (HM1.out.alloc _).setRow (.inr HM1.out.size) _
           refine (dirty1_f (hD.out.later hm2) HL.out _ io).mono ?_
           rintro e w3 ⟨rfl, v3, hd3⟩
           have HD3 := hid hd3
           clear hm2 hd3))
      go_roundw
      case rel => exact ⟨j + 1, v3, by omega, by go_num, by rw [hsucc.out]; exact HD3⟩
      case measure => simp [intOf]; omega
    · obtain rfl : j = k := by omega
      clear hd
      go_wp2
      go_end0
      exact ⟨rfl, v, hD.out⟩

set_option maxHeartbeats 1000000 in
theorem dirty_j (h : JM w p mb B d k m f) :
    Calls Try.prog 17 #[.pointer (some ⟨p, 0, none⟩)] w fun e w' => ∃ A cap, e = .returned (.slice A (num f k) cap) ∧ w'.ownsRow (w.heap.size + 1) 3 1 (.slice A (num f k) cap) (num f k) (intsL (dirtyL f k)) ∧ Tn.Mod [] w w' := by
  have H := hid h
  clear h
  go_enter Try.func17, Try.ntmps17
  go_wp2_with (first
    | (go_at_call 16; refine (sectors_j (H.out.mod0 ((Mod.refl [] w).alloc (.cells #[.slice none 0 0] 43)))).mono ?_; rintro e w' ⟨rfl, rfl⟩)
    | (go_at_call 28; refine (each_dirty H.out w.heap.size ⟨Blk.new w 43 #[.slice none 0 0], World.ownsRow_nil _ _ _ _, (Mod.refl [] w).alloc _, Nat.le_refl _⟩).mono ?_
       rintro e w3 ⟨rfl, v, hd⟩
       have b0 := hd.cb.cell 0
       simp only [List.getElem?_toArray, List.getElem?_cons_zero] at b0
       have HD := hid hd
       clear hd))
  go_ret
  obtain ⟨A, cap, rfl⟩ := own_sl HD.out.row
  have h1 := HD.out.row
  have h2 : (intsL (dirtyL f k)).length = num f k := by simp only [intsL, List.length_map, dirtyL_length]
  rw [h2] at h1
  refine ⟨A, cap, by rw [h2]; rfl, h1, HD.out.mod⟩
end
end Go.Proofs.Ytpabfghpfigoaaa
