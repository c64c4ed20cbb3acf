/-
  Layer 14, the reference: New.
-/
import Derived.Test.YtkdhkloabbcipaaRs
namespace Go.Proofs.Ytkdhkloabbcipaa
open Go.RowKit Go.Tn Go.Tn.P14

def z88 : Array Value := #[.int .i64 0, .int .i64 0, .int .i64 0, .slice none 0 0, .int .i64 0, .int .i64 0, .int .i64 0, .int .i64 0, .int .i64 0, .int .i64 0, .int .i64 0, .int .i64 0, .int .i64 0]

theorem info88 : (Try.prog.info? 88).map (fun i => (i.zero.map Value.cells, i.size, i.bytes)) = some (some z88, 13, 120) := by kernel_rfl
theorem info3 : (Try.prog.info? 3).map (fun i => (i.zero, i.size, i.bytes)) = some (some (.int .i64 0), 1, 8) := by kernel_rfl

theorem made_flat88 (n : Nat) : madeCells z88 (n * 13) = flat 3 rr n (newS n).L (fun _ => (none, 0)) := by
  refine flat_ext (size_madeCells _ _) fun i j hi hj => ?_
  have h : i * 13 + j < n * 13 := by omega
  have h1 : (i * 13 + j) % 13 = j := by omega
  have h2 : z88.size = 13 := rfl
  simp only [madeCells, Array.getElem?_map, Array.getElem?_range, h, if_true, Option.map_some, h2, h1]
  match j, hj with
  | 0, _ | 1, _ | 2, _ | 3, _ | 4, _ | 5, _ | 6, _ | 7, _ | 8, _ | 9, _ | 10, _ | 11, _ | 12, _ => rfl

theorem adr_new (n : Nat) : List.replicate 256 (.int .i64 (-1)) = adrV (newS n).K := by
  apply List.ext_getElem?
  intro i
  by_cases hi : i < 256
  · rw [adrV_get _ hi, List.getElem?_replicate, if_pos hi]; rfl
  · rw [List.getElem?_eq_none (by rw [List.length_replicate]; omega), List.getElem?_eq_none (by rw [adrV_len]; omega)]

theorem rnew_bad (n : Int) (w : World) (hn : n < 1 ∨ 8 < n) :
    Calls Try.prog 17 #[.int .i64 n] w fun e w' => e = .returned (.tuple #[.pointer none, .int .i64 1]) ∧ w = w' := by
  by_cases h : n < 1
  · clear hn
    go_enter Try.func17, Try.ntmps17
    go_wp2
    go_ret2
    exact ⟨rfl, rfl⟩
  · have h1 : 1 ≤ n := by omega
    have h2 : 8 < n := by omega
    clear hn h
    go_enter Try.func17, Try.ntmps17
    go_wp2
    go_ret2
    exact ⟨rfl, rfl⟩

set_option maxRecDepth 100000 in
set_option maxHeartbeats 2000000 in
/-- 'New'. -/
theorem rnew_ok (n : Nat) (w : World) (h1 : 1 ≤ n) (h8 : n ≤ 8) :
    Calls Try.prog 17 #[.int .i64 n] w fun e w' => e = .returned (.tuple #[.pointer (some ⟨w.heap.size + 1, 0, none⟩), .int .i64 0]) ∧
      (∃ A ac FP, RC w' (w.heap.size + 1) w.heap.size A ac FP (fun _ => (none, 0)) (newS n) ∧ ∀ b, b ∈ FP → w.heap.size ≤ b) ∧ Mod [] w w' := by
  have hmk : ∀ w : World, (Instr.makeSlice 77 (.int .i64 n) (.int .i64 n)).run Try.prog w = .ok (.slice (some ⟨w.heap.size, 0, none⟩) n n) (w.alloc (.cells (flat 3 rr n (newS n).L (fun _ => (none, 0))) 88)) := fun w => by
    have hI := info88
    cases hi : Try.prog.info? 88 with
    | none => rw [hi] at hI; cases hI
    | some i =>
      rw [hi] at hI
      simp only [Option.map_some, Option.some.injEq, Prod.mk.injEq] at hI
      obtain ⟨hz, hs, hb⟩ := hI
      cases hzz : i.zero with
      | none => rw [hzz] at hz; cases hz
      | some z =>
        rw [hzz] at hz
        simp only [Option.map_some, Option.some.injEq] at hz
        have hr := run_make (P := Try.prog) w 77 88 i z Try.underlying77 hi hzz .i64 .i64 n n (by omega) (Int.le_refl _) (by rw [hb]; omega) (by omega)
        rw [hz, hs] at hr
        simp only [Int.toNat_natCast] at hr
        rw [made_flat88] at hr
        exact hr
  obtain ⟨i3, hi, hz0, hz1, hz2⟩ := info_parts info3
  go_enter Try.func17, Try.ntmps17
  go_wp2
  have hb0 : Blk ((w.alloc (.cells (flat 3 rr n (newS n).L (fun _ => (none, 0))) 88)).alloc (.cells #[.slice (some ⟨w.heap.size, 0, none⟩) n n, .slice none 0 0] 80)) (w.heap.size + 1) 80 #[.slice (some ⟨w.heap.size, 0, none⟩) n n, .slice none 0 0] := by
    have := Blk.new (w.alloc (.cells (flat 3 rr n (newS n).L (fun _ => (none, 0))) 88)) 80 #[.slice (some ⟨w.heap.size, 0, none⟩) n n, .slice none 0 0]
    simpa using this
  have hb1 : Blk ((w.alloc (.cells (flat 3 rr n (newS n).L (fun _ => (none, 0))) 88)).alloc (.cells #[.slice (some ⟨w.heap.size, 0, none⟩) n n, .slice none 0 0] 80)) w.heap.size 88 (flat 3 rr n (newS n).L (fun _ => (none, 0))) :=
    (Blk.new w 88 _).mod ((Mod.refl [] _).alloc _) (by simp)
  have hm0 : Mod [] w ((w.alloc (.cells (flat 3 rr n (newS n).L (fun _ => (none, 0))) 88)).alloc (.cells #[.slice (some ⟨w.heap.size, 0, none⟩) n n, .slice none 0 0] 80)) := ((Mod.refl _ _).alloc _).alloc _
  have HB0 := hid hb0
  have HB1 := hid hb1
  have HM0 := hid hm0
  clear hb0 hb1 hm0 hmk
  go_loopw [5] (fun i wr => ∃ (k : Nat) (A : Option Addr) (ac : Nat), k ≤ 256 ∧ i = .int .i64 k ∧ Hid (Blk wr (w.heap.size + 1) 80 #[.slice (some ⟨w.heap.size, 0, none⟩) n n, .slice A k ac]) ∧ Hid (Blk wr w.heap.size 88 (flat 3 rr n (newS n).L (fun _ => (none, 0)))) ∧
      Hid (QRow wr 3 A ac (List.replicate k (.int .i64 (-1)))) ∧ Hid (∀ b, b ∈ blkOf A → w.heap.size + 2 ≤ b) ∧ Hid (Mod [] w wr)) (fun i _ => 256 - (intOf i).toNat)
  case atStart => exact ⟨0, none, 0, by decide, rfl, HB0.out, HB1.out, QRow.nil _ _, fun b hb => by simp [blkOf] at hb, HM0.out⟩
  case round =>
    obtain ⟨k, A, ac, hk, rfl, hb, hb1, hq, hA, hm⟩ := hrel
    by_cases hlt : k < 256
    · have c1 : wr.cell? ⟨w.heap.size + 1, 1, none⟩ = some (.slice A k ac) := hb.out.cell 1
      have hql := hb.out.lt
      have HX := hid (show k = (List.replicate k (Value.int .i64 (-1))).length by simp)
      have HA := hid (hq.out.mod ((Mod.refl [] wr).alloc (.cells #[.int .i64 (-1)] 3)) (by simp))
      go_wp2_with (at_builtin; refine wpList_append_q rfl _ _ 78 rfl Try.underlying78 hi hz0 hz1 hz2 rfl HA.out HX.out rfl (ad := ⟨wr.heap.size, 0, none⟩) (u := .int .i64 (-1)) rfl ?c1 rfl ?c2 ?c3 ?_)
      case c2 => unfold maxLen; omega
      case c3 => omega
      intro g2 off2 cap2 w2 hr2 hm2 hg2 hl2
      have hmm : Mod (blkOf A) wr w2 := ((Mod.refl (blkOf A) wr).alloc (.cells #[.int .i64 (-1)] 3)).andThen hm2
      have hqA : w.heap.size + 1 ∉ blkOf A := fun e => by have := hA.out _ e; omega
      have hrA : w.heap.size ∉ blkOf A := fun e => by have := hA.out _ e; omega
      have hB2 := hb.out.mod hmm hqA
      have hB3 := hb1.out.mod hmm hrA
      have e1 : w2.cell? ⟨w.heap.size + 1, 1, none⟩ = some (.slice A k ac) := hB2.cell 1
      have e2 : w2.frozen? ⟨w.heap.size + 1, 1, none⟩ = false := hB2.frozen 1
      have HM := hid hmm
      have HB2 := hid hB2
      have HB3 := hid hB3
      have HQ := hid hr2
      have HG2 := hid (show w.heap.size + 2 ≤ g2 by
        rcases hg2 with h | h
        · exact hA.out _ h
        · omega)
      clear hmm hqA hrA hr2 hm2 hg2 hl2 HA c1 hB2 hB3
      go_wp2
      go_roundw
      case rel =>
        have hm3 : Mod [w.heap.size + 1] w2 (w2.setCell ⟨w.heap.size + 1, 1, none⟩ (.slice (some ⟨g2, off2, none⟩) (k + 1) cap2)) := (Mod.refl _ _).setCell (.inl (by simp)) _
        refine ⟨k + 1, some ⟨g2, off2, none⟩, cap2, by omega, by go_num, ?_, HB3.out.mod hm3 (by simp), ?_, fun b hb => by simp [blkOf] at hb; subst hb; exact HG2.out, ?_⟩
        · have := HB2.out.set_ 1 (.slice (some ⟨g2, off2, none⟩) (k + 1) cap2)
          exact this
        · have := HQ.out.mod hm3 (fun b hb => by simp [blkOf] at hb; subst hb; have := HG2.out; simp; omega)
          rw [List.replicate_succ']
          exact this
        · refine (hm.out.trans HM.out (fun t ht => .inr (by have := hA.out t ht; omega))).setCell (.inr (by simp)) _
      case measure => simp [intOf]; omega
    · have hk2 : k = 256 := by omega
      subst hk2
      clear hlt
      have hr2 := hq.out
      rw [adr_new n] at hr2
      have HR2 := hid hr2
      clear hr2
      go_wp2
      go_ret2
      refine ⟨rfl, ⟨A, ac, (w.heap.size + 1) :: w.heap.size :: blkOf A, ⟨hb.out, ⟨hb1.out, ?_, ?_, ?_, by simp, ?_, by decide, by decide⟩, HR2.out, by simp, fun b hb => by simp [hb]⟩, fun b hb => ?_⟩, hm.out⟩
      · exact fun i _ => ⟨[], QRow.nil _ _, Frs.nil _ _⟩
      · exact fun i j _ _ _ b hb => by simp [blkOf] at hb
      · exact fun i _ b hb => by simp [blkOf] at hb
      · intro b hb'
        rcases List.mem_cons.1 hb' with rfl | hb'
        · exact hb.out.lt
        · rcases List.mem_cons.1 hb' with rfl | hb'
          · exact hb1.out.lt
          · exact hq.out.lt hb'
      · rcases List.mem_cons.1 hb with rfl | hb
        · omega
        · rcases List.mem_cons.1 hb with rfl | hb
          · omega
          · have := hA.out b hb; omega

end Go.Proofs.Ytkdhkloabbcipaa
