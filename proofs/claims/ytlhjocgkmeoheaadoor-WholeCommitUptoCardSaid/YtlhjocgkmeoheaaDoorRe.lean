/-
  Commit: find, Read.
-/
import Derived.Test.YtlhjocgkmeoheaaDoorEd
import Derived.Laws.ResultCell
namespace Go.Proofs.YtlhjocgkmeoheaaDoor
open Go.RowKit Go.Tn Go.MapKept
open Go.Proofs
attribute [-go_sem] Builtin.append_
attribute [local go_sem] look41 look41b

section
variable {w : World} {sb mt mo g : Nat} {A : Tree} {op : Option Nat}
set_option maxRecDepth 100000 in
set_option maxHeartbeats 2000000 in
theorem find_f (h : SH w sb mt mo A g op) {name : ByteArray} (hv : Val name.data.toList) {o : Option Int} (hl : LK A name = some o) :
    Calls Tryd.prog 18 #[.pointer (some ⟨sb, 0, none⟩), .int .i64 0, .int .i64 0, .string name] w fun e w' => ∃ x, e = .returned (.tuple #[x, .int .i64 0]) ∧ Node w' x o ∧ Tn.Mod [] w w' := by
  have hp : parseE name.data.toList = 0 := hv
  have m1 : Tn.Mod [] w (w.alloc (.cells #[.slice none 0 0, .slice none 0 0] 39)) := (Mod.refl [] w).alloc _
  have b1 := Blk.new w 39 #[.slice none 0 0, .slice none 0 0]
  have HA := hid (asked_f0 (h.mod0 m1) name)
  rw [hp] at HA
  have H := hid h
  clear h
  go_enter Tryd.func18, Tryd.ntmps18
  go_wp2_with (first
    | (go_at_call 12; refine HA.out.mono ?_; rintro e w2 ⟨rfl, hm2⟩; have H2 := hid ((H.out.mod0 m1).mod0 hm2); have b2 := hid (b1.mod hm2 (by simp)); have HM2 := hid (m1.andThen hm2); clear hm2)
    | (go_at_call 20; refine (view_f0 H2.out).mono ?_; rintro e w3 ⟨rfl, rfl⟩
       obtain ⟨x, hx, hN⟩ := H2.out.th.yes name o hl
       obtain ⟨x1, pb, pc, rfl, hx1, hpb, hpc⟩ := hN.out
       obtain ⟨a1, l1, c1, rfl, _⟩ := hx1.slice
       have his := H2.out.th.is
       have HN := hid hN
       have HA2 := hid ((Mod.refl [] w2).alloc (.cells #[.slice a1 l1 c1, .slice (some ⟨pb, 0, none⟩) 1 pc] 39))
       have b3 := Blk.new w2 39 #[.slice a1 l1 c1, .slice (some ⟨pb, 0, none⟩) 1 pc]
       have hlt2 := b2.out.lt
       clear hx1 hpb hN)
    | (go_at_call 29; refine (reads_f (HN.out.mod0 HA2.out)).mono ?_; rintro e w4 ⟨rfl, hm4⟩
       have q3 := b3.mod hm4 (by simp)
       have q2 := (b2.out.mod HA2.out (by simp)).mod hm4 (by simp)
       have r0 := q3.cell 0
       have r1 := q3.cell 1
       have z0 := q2.cell 0
       have z1 := q2.cell 1
       have f0 := q2.frozen 0
       have f1 := q2.frozen 1
       simp only [List.getElem?_toArray, List.getElem?_cons_zero, List.getElem?_cons_succ] at r0 r1 z0 z1
       have Q2 := hid q2
       have HM4 := hid (HA2.out.andThen hm4)
       clear q3 q2 hm4))
  have m5 : Tn.Mod [w.heap.size] w4 ((w4.setCell ⟨w.heap.size, 0, none⟩ (.slice a1 l1 c1)).setCell ⟨w.heap.size, 1, none⟩ (.slice (some ⟨pb, 0, none⟩) 1 pc)) := ((Mod.refl _ w4).setCell (.inl (by simp)) _).setCell (.inl (by simp)) _
  have b5 := (Q2.out.set_ 0 (.slice a1 l1 c1)).set_ 1 (.slice (some ⟨pb, 0, none⟩) 1 pc)
  have e0 := b5.cell 0
  have e1 := b5.cell 1
  simp only [List.setIfInBounds_toArray, List.set_cons_zero, List.set_cons_succ, List.getElem?_toArray, List.getElem?_cons_zero, List.getElem?_cons_succ] at e0 e1
  have hcold : Cold [w.heap.size] w4 := (Cold.nil _).cons (cold_blk Q2.out (by decide) (by decide))
  refine bodyPost_ret (v := .tuple #[.agg #[.slice a1 l1 c1, .slice (some ⟨pb, 0, none⟩) 1 pc], .int .i64 0]) ?_ rfl ⟨_, rfl, (HN.out.mod0 HM4.out).mod m5 hcold, (HM2.out.andThen HM4.out).trans m5 (by simp)⟩
  rw [results_cell_tmp Tryd.results18]
  simp [go_sem, e0, e1]

set_option maxRecDepth 100000 in
/-- Read, of a name that is there. -/
theorem read_f (h : SH w sb mt mo A g op) {name : ByteArray} (hv : Val name.data.toList) {o : Option Int} (hl : LK A name = some o) :
    Calls Tryd.prog 9 #[.pointer (some ⟨sb, 0, none⟩), .int .i64 0, .int .i64 0, .string name] w fun e w' => ∃ v, e = .returned (.tuple #[v, .int .i64 0]) ∧ NV w' v o ∧ Tn.Mod [] w w' := by
  have HF := hid (find_f h hv hl)
  clear h
  go_enter Tryd.func9, Tryd.ntmps9
  go_wp2_with (first
    | (go_at_call 18; refine HF.out.mono ?_; rintro e w2 ⟨x, rfl, hN, hm2⟩
       obtain ⟨x1, pb, pc, rfl, hx1, hpb, hpc⟩ := hN.out
       obtain ⟨a1, l1, c1, rfl, _⟩ := hx1.slice
       have HX := hid hx1
       have HM2 := hid hm2
       clear hN hx1 hpb hm2)
    | (at_builtin; refine wpList_app29 rfl _ _ rfl rfl rfl (HX.out.mod0 ((Mod.refl [] w2).alloc (.cells #[.slice a1 l1 c1, .slice (some ⟨pb, 0, none⟩) 1 pc] 39))) ?_; intro v7 w7 hv7 hm7
       have HV7 := hid hv7
       have HM7 := hid ((HM2.out.alloc (.cells #[.slice a1 l1 c1, .slice (some ⟨pb, 0, none⟩) 1 pc] 39)).andThen hm7)
       clear hv7 hm7))
  go_ret2
  exact ⟨_, rfl, HV7.out, HM7.out⟩
end
end Go.Proofs.YtlhjocgkmeoheaaDoor
