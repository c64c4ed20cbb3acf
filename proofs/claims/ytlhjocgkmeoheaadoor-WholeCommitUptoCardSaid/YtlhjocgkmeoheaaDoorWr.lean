/-
  Commit: write, a name that is there.
-/
import Derived.Test.YtlhjocgkmeoheaaDoorWv
namespace Go.Proofs.YtlhjocgkmeoheaaDoor
open Go.RowKit Go.Tn Go.MapKept
open Go.Proofs
attribute [-go_sem] Builtin.append_
attribute [local go_sem] look41 look41b store41

/-- A slice of one change. -/
theorem Chg.one {w : World} {b c : Nat} {s : ByteArray} {a : Option Addr} {l n : Nat} (h : Blk w b 69 #[.string s, .slice a l n]) (hc : c = 1) : Chg w (.slice (some ⟨b, 0, none⟩) 1 c) 1 := by
  subst hc
  refine ⟨[.string s, .slice a l n], ⟨rfl, .inr ⟨b, 1, _, rfl, Nat.zero_le _, h, by omega, by decide, by simp, by simp⟩⟩, rfl, by omega, fun i hi => ?_⟩
  obtain rfl : i = 0 := by omega
  exact ⟨s, a, l, n, rfl, rfl⟩

section
variable {w : World} {m sb tx : Nat} {A : Tree}

set_option maxRecDepth 100000 in
set_option maxHeartbeats 4000000 in
theorem write_old (hT : TH w m A) {name : ByteArray} (hn : name ∈ nms A) {v : Value} {o : Option Int} (hv : NV w v o)
    (hview : Calls Tryd.prog 20 #[.pointer (some ⟨sb, 0, none⟩), .int .i64 tx] w fun e w' => e = .returned (.map (some m)) ∧ w = w') {R : World → World → Prop}
    (hch : ∀ w1 m' vl k, Tn.Mod [] w w1 → TH w1 m' (wA A name o) → w.heap.size ≤ m' → Chg w1 vl k → 1 ≤ k → k ≤ 256 → Calls Tryd.prog 22 #[.pointer (some ⟨sb, 0, none⟩), .int .i64 tx, .map (some m'), vl] w1 fun e w' => e = .returned (.tuple #[]) ∧ R w1 w') :
    Calls Tryd.prog 13 #[.pointer (some ⟨sb, 0, none⟩), .int .i64 0, .int .i64 tx, .string name, v, .bool false] w fun e w' => e = .returned (.int .i64 0) ∧ ∃ w1, Tn.Mod [] w w1 ∧ R w1 w' := by
  obtain ⟨o0, ho0⟩ : ∃ o0, LK A name = some o0 := by
    cases h : LK A name with
    | none => exact absurd hn (LK_none.1 h)
    | some x => exact ⟨x, rfl⟩
  obtain ⟨x, hx, hN⟩ := hT.yes name o0 ho0
  obtain ⟨x1, pb, pc, rfl, hx1, hpb, hpc⟩ := hN.out
  obtain ⟨a1, l1, c1, rfl, _⟩ := hx1.slice
  have his := hT.is
  have HV := hid hview
  have HCH := hid hch
  have HT := hid hT
  have HN := hid hN
  have HPB := hid hpb
  have HVV := hid hv
  have HX1 := hid hx1
  clear hview hch hT hN hpb hv hx1 ho0
  go_enter Tryd.func13, Tryd.ntmps13
  go_wp2_with (first
    | (go_at_call 20; refine HV.out.mono ?_; rintro e w' ⟨rfl, rfl⟩)
    | (go_at_call 21; refine (writes_f (HN.out.mod0 ((Mod.refl [] _).alloc _))).mono ?_; rintro e w2 ⟨rfl, hm2⟩; replace hm2 := hid hm2)
    | (go_at_call 11; refine (copied_f (HT.out.mod0 (((Mod.refl [] _).alloc _).andThen hm2.out))).mono ?_; rintro e w3 ⟨u, rfl, hu, hul, hm3⟩; replace hu := hid hu; have hul3 := hid (Nat.le_trans hm2.out.size hul); have HM13 := hid (hm2.out.andThen hm3); clear hul hm3))
  have HM3 := hid (((Mod.refl [] w).alloc _).andThen HM13.out)
  have hb3 := (Blk.new w 39 #[.slice a1 l1 c1, .slice (some ⟨pb, 0, none⟩) 1 pc]).mod HM13.out (by simp)
  have n3 := hb3.cell 1
  simp only [List.getElem?_toArray, List.getElem?_cons_zero, List.getElem?_cons_succ] at n3
  have hul4 : w.heap.size < u := by have := hul3.out; simp at this; omega
  obtain ⟨v', w4, hap, hv4, hm4⟩ := app29 (HVV.out.mod0 HM3.out.drew) 29
  have hm4' : Tn.Mod [] w3 w4 := ((Mod.refl [] w3).drew).andThen hm4
  have hb4 := hb3.mod hm4' (by simp)
  have n4 := hb4.cell 1
  simp only [List.getElem?_toArray, List.getElem?_cons_zero, List.getElem?_cons_succ] at n4
  have hu4 := hu.out.mod0 hm4'
  have his4 := hu4.is
  obtain ⟨y1, y2, y3, rfl, _⟩ := hv4.slice
  have HN3 := hid n3
  have HN4 := hid n4
  have HU4 := hid hu4
  have HV4 := hid hv4
  have HB4 := hid hb4
  have HM4 := hid (HM3.out.andThen hm4')
  clear hb3 hb4 hu4 hv4 hm4 hm4'
  go_region_held3 (fun w' => w'.cell? ⟨w.heap.size, 1, none⟩ = some (.slice (some ⟨pb, 0, none⟩) 1 pc)) (first | exact HN3.out | exact HN4.out | go_keep) (fail)
  have hlt4 := HU4.out.is.lt
  have HT5 := hid (HU4.out.put_set (Node.mk' HV4.out (HPB.out.mod0 HM4.out) hpc) hn)
  have HM5 := hid (HM4.out.trans (sput_mod w4 u name (.agg #[.slice y1 y2 y3, .slice (some ⟨pb, 0, none⟩) 1 pc])) (by simp; omega))
  have HB6 := hid (Blk.new (sput w4 u name (.agg #[.slice y1 y2 y3, .slice (some ⟨pb, 0, none⟩) 1 pc])) 69 #[.string name, .slice (some ⟨pb, 0, none⟩) 1 pc])
  rw [sput_size] at HB6
  have HW := hid (show wA A name o = setA A name o by unfold wA; rw [if_pos hn])
  go_wp2_with (go_at_call 22; refine (HCH.out _ u _ 1 (HM5.out.alloc _) (by rw [HW.out]; exact HT5.out.mod0 ((Mod.refl [] _).alloc _)) (by omega) (Chg.one HB6.out rfl) (by omega) (by omega)).mono ?_; rintro e w9 ⟨rfl, hR⟩; replace hR := hid hR)
  go_ret
  exact ⟨rfl, _, HM5.out.alloc _, hR.out⟩
end
end Go.Proofs.YtlhjocgkmeoheaaDoor
