/-
  Commit: the law's walk.
-/
import Derived.Test.YtlhjocgkmeoheaaDoorJu
import Derived.Test.YtlhjocgkmeoheaaDoorCv
namespace Go.Proofs.YtlhjocgkmeoheaaDoor
open Go.RowKit Go.Tn Go.MapKept
open Go.Proofs
attribute [-go_sem] Builtin.append_

def byteO (i : Nat) : Option Int := some ((i % 256 : Nat) : Int)
def noneO (_ : Nat) : Option Int := none

set_option maxRecDepth 100000 in
set_option maxHeartbeats 4000000 in
theorem law_f {w : World} {P1 P2 : Option Addr} {c1 c2 : Nat} {ns bs : List ByteArray} {cm : Bool} {mx : Int} (h1 : Giv w P1 ns) (h2 : Giv w P2 bs) (hn : ns.length ≤ 1048576) (hb : bs.length ≤ 1048576) (hm : w.cell? ⟨0, 0, none⟩ = some (.int .i64 mx)) :
    Calls Tryd.prog 3 #[.slice P1 ns.length c1, .slice P2 bs.length c2, .bool cm] w fun e w' => e = .returned (.bool true) ∧ Tn.Mod [] w w' := by
  have G1 := hid h1
  have G2 := hid h2
  clear h1 h2
  go_enter Tryd.func3, Tryd.ntmps3
  go_wp2_with (first
    | (go_at_call 4; have hq := hS1; refine (new_f _).mono ?_; rintro e w2 ⟨sb2, mt2, mo2, rfl, hS2, f21, f22, f23, hm2⟩
       replace hS2 := hid hS2
       have HS1 := hid (hS1.out.mod0 hm2)
       have HM2 := hid (hM1.out.andThen hm2)
       have hsz1 := hS1.out.blk.lt
       have hszo := hS1.out.mo.lt
       have hszm := hM1.out.size
       clear hm2 hS1 hM1 hq)
    | (go_at_call 4; refine (new_f _).mono ?_; rintro e w1 ⟨sb, mt, mo, rfl, hS1, f11, f12, f13, hm1⟩
       replace hS1 := hid hS1
       have hM1 := hid hm1
       clear hm1)
    | (go_at_call 5; refine (begin_f (B := w.heap.size) HM2.out.size HS1.out).mono ?_; rintro e w3 ⟨rfl, tb, m2, hs3, hx3, f31, f32, hm3⟩
       have HJ := hid (show JT w w3 sb mt mo sb2 mt2 mo2 tb m2 A0 A0 A0 0 0 0 0 from ⟨HM2.out.trans hm3 (by simp; omega), hs3, hS2.out.modM HS1.out.mo (by omega) (by omega) hm3, hx3, by omega, by omega, by omega, by have := HS1.out.mo.lt; omega, by omega, by omega, by omega, by have := HM2.out.size; omega⟩)
       clear hs3 hx3 hm3))
  go_loopw [11, 12] (fun ch i wr => ∃ (k m2 cnt : Nat), k ≤ ns.length ∧ ch = .bool (came A0 ns byteO k) ∧ i = .int .i64 (k : Nat) ∧ Hid (JT w wr sb mt mo sb2 mt2 mo2 tb m2 A0 A0 (wAll A0 ns byteO k) 0 0 0 cnt) ∧ Hid (cnt ≤ 256 * k ∧ (cnt = 0 ↔ came A0 ns byteO k = false))) (fun _ i _ => ns.length - (intOf i).toNat)
  case atStart => exact ⟨0, m2, 0, Nat.zero_le _, rfl, rfl, HJ, hid ⟨by omega, by simp [came]⟩⟩
  case round =>
    clear HJ
    obtain ⟨k, m2, cnt, hk, rfl, rfl, HJ, hcnt⟩ := hrel
    by_cases hlt : k < ns.length
    · have hltI : (k : Int) < ns.length := by omega
      obtain ⟨b, off, hP, q0⟩ := (G1.out.mod0 HJ.out.md) k hlt
      subst hP
      obtain ⟨nm, hnm⟩ : ∃ nm, ns.getD k ByteArray.empty = nm := ⟨_, rfl⟩
      rw [hnm] at q0
      have HNM := hid hnm
      clear hnm
      have hqlt := cell_lt q0
      have HNV := hid (show NV (wr.alloc (.cells #[.int .u8 ((k : Int) % 256)] 5)) (.slice (some ⟨wr.heap.size, 0, none⟩) 1 1) (byteO k) from ⟨wr.heap.size, 1, rfl, _, Blk.new wr 5 _, by simp⟩)
      have HJ5 := hid (HJ.out.mod0 ((Mod.refl [] wr).alloc (.cells #[.int .u8 ((k : Int) % 256)] 5)))
      have hkb : (k : Int) < 1048576 := by omega
      have hstep := hid (show came A0 ns byteO (k + 1) = (came A0 ns byteO k || decide (errW (wAll A0 ns byteO k) nm = 0)) ∧ wAll A0 ns byteO (k + 1) = resW (wAll A0 ns byteO k) nm (byteO k) from ⟨by rw [← HNM.out]; rfl, by rw [← HNM.out]; rfl⟩)
      have HGk := hid (GT0.wAll ns byteO k)
      by_cases he : errW (wAll A0 ns byteO k) nm = 0
      · go_wp2_with (go_at_call 6; refine (HJ5.out.writeX HGk.out (by have := hcnt.out.1; omega) nm HNV.out).mono ?_; rintro e w5 ⟨rfl, m2', cnt', hj5, hc5, hd5⟩; rw [he]; rw [if_pos he] at hd5; replace hj5 := hid hj5; replace hd5 := hid hd5; replace hc5 := hid hc5)
        go_roundw
        case rel =>
          refine ⟨k + 1, m2', cnt', by omega, by rw [hstep.out.1, he]; simp, by go_num, by rw [hstep.out.2]; exact hj5, hid ⟨by have := hcnt.out.1; have := hc5.out; omega, ?_⟩⟩
          rw [hstep.out.1, he]
          have := hd5.out
          simp
          omega
        case measure => simp [intOf]; omega
      · have heb : (errW (wAll A0 ns byteO k) nm == 0) = false := by simpa using he
        go_wp2_with (go_at_call 6; refine (HJ5.out.writeX HGk.out (by have := hcnt.out.1; omega) nm HNV.out).mono ?_; rintro e w5 ⟨rfl, m2', cnt', hj5, hc5, hd5⟩; rw [if_neg he] at hd5; replace hj5 := hid hj5; replace hd5 := hid hd5; replace hc5 := hid hc5)
        go_roundw
        case rel =>
          refine ⟨k + 1, m2', cnt', by omega, by rw [hstep.out.1]; simp [he], by go_num, by rw [hstep.out.2]; exact hj5, hid ⟨by have := hcnt.out.1; have := hc5.out; omega, ?_⟩⟩
          rw [hstep.out.1, hd5.out]
          have := hcnt.out.2
          simp [he, this]
        case measure => simp [intOf]; omega
    · obtain rfl : ns.length = k := by omega
      clear hk hlt
      generalize hch : came A0 ns byteO ns.length = ch at *
      generalize hAx : wAll A0 ns byteO ns.length = Ax at *
      have HCH := hid hch
      have HAX := hid hAx
      clear hch hAx
      go_wp2
      go_loopw [13, 14] (fun mt_ i wz => ∃ (j mt mt2 : Nat), j ≤ bs.length ∧ mt_ = .bool (came A0 bs noneO j) ∧ i = .int .i64 (j : Nat) ∧ Hid (JT w wz sb mt mo sb2 mt2 mo2 tb m2 (wAll A0 bs noneO j) (wAll A0 bs noneO j) Ax (many A0 bs noneO j) (many A0 bs noneO j) 0 cnt)) (fun _ i _ => bs.length - (intOf i).toNat)
      case atStart => exact ⟨0, _, _, Nat.zero_le _, rfl, rfl, HJ⟩
      case round =>
        clear HJ
        obtain ⟨j, mt, mt2, hj, rfl, rfl, HJ⟩ := hrel
        by_cases hlt : j < bs.length
        · have hltI : (j : Int) < bs.length := by omega
          obtain ⟨b, off, hP, qw⟩ := G2.out j hlt
          subst hP
          obtain ⟨nm, hnm⟩ : ∃ nm, bs.getD j ByteArray.empty = nm := ⟨_, rfl⟩
          rw [hnm] at qw
          have HNM := hid hnm
          clear hnm
          have q0 := (HJ.out.md.cell (p := ⟨b, off + j, none⟩) (cell_lt qw) (by simp)).trans qw
          have QW := hid qw
          have hjb : (j : Int) < 1048576 := by omega
          have hml := many_le A0 bs noneO j
          have HGj := hid (GT0.wAll bs noneO j)
          have hstep := hid (show came A0 bs noneO (j + 1) = (came A0 bs noneO j || decide (errW (wAll A0 bs noneO j) nm = 0)) ∧ wAll A0 bs noneO (j + 1) = resW (wAll A0 bs noneO j) nm none ∧ many A0 bs noneO (j + 1) = many A0 bs noneO j + (if errW (wAll A0 bs noneO j) nm = 0 then 1 else 0) from ⟨by rw [← HNM.out]; rfl, by rw [← HNM.out]; rfl, by rw [← HNM.out]; rfl⟩)
          clear qw
          cases hcj : came A0 bs noneO j
          all_goals
            by_cases he : errW (wAll A0 bs noneO j) nm = 0
            all_goals
              have HE := hid he
              have heb : (errW (wAll A0 bs noneO j) nm == 0) = decide (errW (wAll A0 bs noneO j) nm = 0) := by
                by_cases h : errW (wAll A0 bs noneO j) nm = 0 <;> simp [h]
              generalize hee : errW (wAll A0 bs noneO j) nm = e0 at heb he
              have HEE := hid hee
              have HCJ := hid hcj
              clear hee hcj
              go_wp2_with (first
                | (go_at_call 6; have hq := HJ6; refine (HJ6.out.writeT HGj.out (by omega) nm (v := .slice none 0 0) (o := none) rfl).mono ?_; rintro e w6 ⟨rfl, mt2', hj7⟩; rw [HEE.out]; have HJ7 := hid hj7; clear hj7 hq)
                | (go_at_call 6; refine (HJ.out.writeS HGj.out (by omega) nm (v := .slice none 0 0) (o := none) rfl).mono ?_; rintro e w5 ⟨rfl, mt', hj6⟩; rw [HEE.out]; have q5 := (hj6.md.cell (p := ⟨b, off + j, none⟩) (cell_lt QW.out) (by simp)).trans QW.out; have HJ6 := hid hj6; clear hj6))
              go_roundw
              case rel =>
                refine ⟨j + 1, mt', mt2', by omega, by rw [hstep.out.1, HCJ.out, HEE.out]; simp [he], by go_num, hid (by rw [hstep.out.2.1, hstep.out.2.2]; exact HJ7.out)⟩
              case measure => simp [intOf]; omega
        · obtain rfl : bs.length = j := by omega
          clear hj hlt
          have HGB := hid (GT0.wAll bs noneO bs.length)
          have h0lt : 0 < w.heap.size := cell_lt hm
          cases cm
          · go_wp2_with (first
              | (go_at_call 7; have hq := HU9; refine (end_none HU9.out.s true).mono ?_; rintro e w10 ⟨rfl, rfl⟩; clear hq)
              | (go_at_call 7; refine (HJ.out.endIdle false (.inl rfl)).mono ?_; rintro e w7 ⟨rfl, hju⟩; have HU := hid hju; clear hju)
              | (go_at_call 8; have hq := HL; refine (nodes_f HU8.out.t HGB.out ((HU8.out.md.cell (p := ⟨0, 0, none⟩) h0lt (by simp)).trans hm)).mono ?_; rintro e w9 ⟨q2, cap2, rfl, hr2, hm9⟩; have HL2 := hid hr2; have HL1 := hid (HL.out.mod hm9 (by simp)); have HU9 := hid (HU8.out.mod0 hm9); clear hr2 hm9 hq)
              | (go_at_call 8; refine (nodes_f HU.out.s HGB.out ((HU.out.md.cell (p := ⟨0, 0, none⟩) h0lt (by simp)).trans hm)).mono ?_; rintro e w8 ⟨q, cap, rfl, hr, hm8⟩; have HL := hid hr; have HU8 := hid (HU.out.mod0 hm8); clear hr hm8))
            go_loopw [20] (fun i wz => ∃ j : Nat, j ≤ (wAll A0 bs noneO bs.length).length ∧ i = .int .i64 (j : Nat) ∧ Hid (JU w wz sb mt mo sb2 mt2 mo2 (wAll A0 bs noneO bs.length) (wAll A0 bs noneO bs.length) (many A0 bs noneO bs.length) (many A0 bs noneO bs.length)) ∧ Hid (RowS wz q (ordr (wAll A0 bs noneO bs.length))) ∧ Hid (RowS wz q2 (ordr (wAll A0 bs noneO bs.length)))) (fun i _ => (wAll A0 bs noneO bs.length).length - (intOf i).toNat)
            case atStart => exact ⟨0, Nat.zero_le _, rfl, HU9, HL1, HL2⟩
            case round =>
              clear HU9 HL1 HL2 HU8 HL HU HJ
              obtain ⟨j, hj, rfl, HU, HL1, HL2⟩ := hrel
              by_cases hlt : j < (wAll A0 bs noneO bs.length).length
              · have hjI : (j : Int) < ((wAll A0 bs noneO bs.length).length : Nat) := by omega
                have hol := ordr_length (wAll A0 bs noneO bs.length)
                obtain ⟨nm, hnm⟩ : ∃ nm, (ordr (wAll A0 bs noneO bs.length)).getD j ByteArray.empty = nm := ⟨_, rfl⟩
                have p1 := (HL1.out j (by omega)).1
                have p2 := (HL2.out j (by omega)).1
                rw [hnm] at p1 p2
                have hin : nm ∈ nms (wAll A0 bs noneO bs.length) := ordr_mem HGB.out nm (by
                  rw [← hnm, List.getD_eq_getElem?_getD, List.getElem?_eq_getElem (by omega)]
                  exact List.getElem_mem _)
                have hvn := hid (HGB.out.val nm hin)
                obtain ⟨o, ho⟩ : ∃ o, LK (wAll A0 bs noneO bs.length) nm = some o := by
                  cases h : LK (wAll A0 bs noneO bs.length) nm with
                  | none => exact absurd hin (LK_none.1 h)
                  | some x => exact ⟨x, rfl⟩
                have HO := hid ho
                have HNM := hid hnm
                clear hnm hin ho
                go_wp2_with (first
                  | (go_at_call 9; have hq := HV1; refine (read_f HU1.out.t hvn.out HO.out).mono ?_; rintro e wb ⟨v2, rfl, hv2, hmb⟩
                     obtain ⟨x2, y2, z2, rfl, _⟩ := hv2.slice
                     have HV2 := hid hv2
                     have HV1b := hid (HV1.out.mod0 hmb)
                     have HU2 := hid (HU1.out.mod0 hmb)
                     have HL1b := hid (HL1a.out.mod hmb (by simp))
                     have HL2b := hid (HL2a.out.mod hmb (by simp))
                     clear hv2 hmb hq)
                  | (go_at_call 9; refine (read_f HU.out.s hvn.out HO.out).mono ?_; rintro e wa ⟨v1, rfl, hv1, hma⟩
                     obtain ⟨x1, y1, z1, rfl, _⟩ := hv1.slice
                     have HV1 := hid hv1
                     have HU1 := hid (HU.out.mod0 hma)
                     have HL1a := hid (HL1.out.mod hma (by simp))
                     have HL2a := hid (HL2.out.mod hma (by simp))
                     have p1a := (HL1a.out j (by omega)).1
                     rw [HNM.out] at p1a
                     clear hv1 hma))
                have HQ1 := hid (show wb.drew.cell? ⟨q, j, none⟩ = some (.string nm) ∧ wb.drew.cell? ⟨q2, j, none⟩ = some (.string nm) from ⟨by have := (HL1b.out j (by omega)).1; rw [HNM.out] at this; exact this, by have := (HL2b.out j (by omega)).1; rw [HNM.out] at this; exact this⟩)
                obtain ⟨S, hS⟩ := conv29 HV1b.out
                have hcv1 := hS wb.drew ((Mod.refl [] wb).drew) _ (HV1b.out.mod0 ((Mod.refl [] wb).drew))
                have hcv2 := hS wb.drew ((Mod.refl [] wb).drew) _ (HV2.out.mod0 ((Mod.refl [] wb).drew))
                clear hS
                have hlenC := HGB.out.len
                have hjb : (j : Int) < 256 := by omega
                have HQ2 := hid (And.intro HQ1.out.1 (And.intro HQ1.out.2 (And.intro hcv1 hcv2)))
                go_region_held3 (fun w' => w'.cell? ⟨q, j, none⟩ = some (.string nm) ∧ w'.cell? ⟨q2, j, none⟩ = some (.string nm) ∧ (convert 29 9 (.slice x1 y1 z1)).run Tryd.prog w' = .ok (.string S) w' ∧ (convert 29 9 (.slice x2 y2 z2)).run Tryd.prog w' = .ok (.string S) w') (first | exact HQ2.out | go_keep) (fail)
                go_wp2
                go_roundw
                case rel => exact ⟨j + 1, by omega, by go_num, hid (HU2.out.mod0 ((Mod.refl [] wb).drew)), hid (HL1b.out.mod ((Mod.refl [] wb).drew) (by simp)), hid (HL2b.out.mod ((Mod.refl [] wb).drew) (by simp))⟩
                case measure => simp [intOf]; omega
              · have hjn : ¬ ((j : Int) < ((wAll A0 bs noneO bs.length).length : Nat)) := by omega
                go_wp2
                go_ret
                exact ⟨rfl, HU.out.md⟩
          · have hz := many_zero A0 bs noneO bs.length
            cases ch
            · have HC0 := hid (hcnt.out.2.2 rfl)
              go_wp2_with (go_at_call 7; refine (HJ.out.endIdle true (.inr HC0.out)).mono ?_; rintro e w7 ⟨rfl, hju⟩; have HU := hid hju; clear hju)
              go_loopw [17] (fun i wz => ∃ (k mt2 : Nat), k ≤ ns.length ∧ i = .int .i64 (k : Nat) ∧ Hid (JU w wz sb mt mo sb2 mt2 mo2 (wAll A0 bs noneO bs.length) (wAll (wAll A0 bs noneO bs.length) ns byteO k) (many A0 bs noneO bs.length) ((many A0 bs noneO bs.length) + many (wAll A0 bs noneO bs.length) ns byteO k))) (fun i _ => ns.length - (intOf i).toNat)
              case atStart => exact ⟨0, _, Nat.zero_le _, rfl, HU⟩
              case round =>
                clear HU
                obtain ⟨k, mt2, hk, rfl, HU⟩ := hrel
                by_cases hlt : k < ns.length
                · have hltI : (k : Int) < ns.length := by omega
                  obtain ⟨b, off, hP, qw⟩ := G1.out k hlt
                  subst hP
                  obtain ⟨nm, hnm⟩ : ∃ nm, ns.getD k ByteArray.empty = nm := ⟨_, rfl⟩
                  rw [hnm] at qw
                  have HNM := hid hnm
                  clear hnm
                  have q0 := (HU.out.md.cell (p := ⟨b, off + k, none⟩) (cell_lt qw) (by simp)).trans qw
                  have hqlt := cell_lt q0
                  have HNV := hid (show NV (wr.alloc (.cells #[.int .u8 ((k : Int) % 256)] 5)) (.slice (some ⟨wr.heap.size, 0, none⟩) 1 1) (byteO k) from ⟨wr.heap.size, 1, rfl, _, Blk.new wr 5 _, by simp⟩)
                  have HU5 := hid (HU.out.mod0 ((Mod.refl [] wr).alloc (.cells #[.int .u8 ((k : Int) % 256)] 5)))
                  have hkb : (k : Int) < 1048576 := by omega
                  have hml := many_le (wAll A0 bs noneO bs.length) ns byteO k
                  have hmb := many_le A0 bs noneO bs.length
                  have hstep := hid (show wAll (wAll A0 bs noneO bs.length) ns byteO (k + 1) = resW (wAll (wAll A0 bs noneO bs.length) ns byteO k) nm (byteO k) ∧ many (wAll A0 bs noneO bs.length) ns byteO (k + 1) = many (wAll A0 bs noneO bs.length) ns byteO k + (if errW (wAll (wAll A0 bs noneO bs.length) ns byteO k) nm = 0 then 1 else 0) from ⟨by rw [← HNM.out]; rfl, by rw [← HNM.out]; rfl⟩)
                  have HGk := hid ((HGB.out).wAll ns byteO k)
                  go_wp2_with (go_at_call 6; refine (HU5.out.writeT HGk.out (by omega) nm HNV.out).mono ?_; rintro e w5 ⟨rfl, mt2', hj5⟩; replace hj5 := hid hj5)
                  go_roundw
                  case rel => exact ⟨k + 1, mt2', by omega, by go_num, hid (by rw [hstep.out.1, hstep.out.2, ← Nat.add_assoc]; exact hj5.out)⟩
                  case measure => simp [intOf]; omega
                · obtain rfl : ns.length = k := by omega
                  clear hk hlt
                  generalize hgt : (many A0 bs noneO bs.length) + many (wAll A0 bs noneO bs.length) ns byteO ns.length = gt2 at *
                  rw [fail_all HCH.out ns.length (Nat.le_refl _)] at HU
                  clear hgt
                  go_wp2_with (first
                    | (go_at_call 7; have hq := HU9; refine (end_none HU9.out.s true).mono ?_; rintro e w10 ⟨rfl, rfl⟩; clear hq)
                    | (go_at_call 8; have hq := HL; refine (nodes_f HU8.out.t HGB.out ((HU8.out.md.cell (p := ⟨0, 0, none⟩) h0lt (by simp)).trans hm)).mono ?_; rintro e w9 ⟨q2, cap2, rfl, hr2, hm9⟩; have HL2 := hid hr2; have HL1 := hid (HL.out.mod hm9 (by simp)); have HU9 := hid (HU8.out.mod0 hm9); clear hr2 hm9 hq)
                    | (go_at_call 8; refine (nodes_f HU.out.s HGB.out ((HU.out.md.cell (p := ⟨0, 0, none⟩) h0lt (by simp)).trans hm)).mono ?_; rintro e w8 ⟨q, cap, rfl, hr, hm8⟩; have HL := hid hr; have HU8 := hid (HU.out.mod0 hm8); clear hr hm8))
                  go_loopw [20] (fun i wz => ∃ j : Nat, j ≤ (wAll A0 bs noneO bs.length).length ∧ i = .int .i64 (j : Nat) ∧ Hid (JU w wz sb mt mo sb2 mt2 mo2 (wAll A0 bs noneO bs.length) (wAll A0 bs noneO bs.length) (many A0 bs noneO bs.length) gt2) ∧ Hid (RowS wz q (ordr (wAll A0 bs noneO bs.length))) ∧ Hid (RowS wz q2 (ordr (wAll A0 bs noneO bs.length)))) (fun i _ => (wAll A0 bs noneO bs.length).length - (intOf i).toNat)
                  case atStart => exact ⟨0, Nat.zero_le _, rfl, HU9, HL1, HL2⟩
                  case round =>
                    clear HU9 HL1 HL2 HU8 HL HU
                    obtain ⟨j, hj, rfl, HU, HL1, HL2⟩ := hrel
                    by_cases hlt : j < (wAll A0 bs noneO bs.length).length
                    · have hjI : (j : Int) < ((wAll A0 bs noneO bs.length).length : Nat) := by omega
                      have hol := ordr_length (wAll A0 bs noneO bs.length)
                      obtain ⟨nm, hnm⟩ : ∃ nm, (ordr (wAll A0 bs noneO bs.length)).getD j ByteArray.empty = nm := ⟨_, rfl⟩
                      have p1 := (HL1.out j (by omega)).1
                      have p2 := (HL2.out j (by omega)).1
                      rw [hnm] at p1 p2
                      have hin : nm ∈ nms (wAll A0 bs noneO bs.length) := ordr_mem HGB.out nm (by
                        rw [← hnm, List.getD_eq_getElem?_getD, List.getElem?_eq_getElem (by omega)]
                        exact List.getElem_mem _)
                      have hvn := hid (HGB.out.val nm hin)
                      obtain ⟨o, ho⟩ : ∃ o, LK (wAll A0 bs noneO bs.length) nm = some o := by
                        cases h : LK (wAll A0 bs noneO bs.length) nm with
                        | none => exact absurd hin (LK_none.1 h)
                        | some x => exact ⟨x, rfl⟩
                      have HO := hid ho
                      have HNM := hid hnm
                      clear hnm hin ho
                      go_wp2_with (first
                        | (go_at_call 9; have hq := HV1; refine (read_f HU1.out.t hvn.out HO.out).mono ?_; rintro e wb ⟨v2, rfl, hv2, hmb⟩
                           obtain ⟨x2, y2, z2, rfl, _⟩ := hv2.slice
                           have HV2 := hid hv2
                           have HV1b := hid (HV1.out.mod0 hmb)
                           have HU2 := hid (HU1.out.mod0 hmb)
                           have HL1b := hid (HL1a.out.mod hmb (by simp))
                           have HL2b := hid (HL2a.out.mod hmb (by simp))
                           clear hv2 hmb hq)
                        | (go_at_call 9; refine (read_f HU.out.s hvn.out HO.out).mono ?_; rintro e wa ⟨v1, rfl, hv1, hma⟩
                           obtain ⟨x1, y1, z1, rfl, _⟩ := hv1.slice
                           have HV1 := hid hv1
                           have HU1 := hid (HU.out.mod0 hma)
                           have HL1a := hid (HL1.out.mod hma (by simp))
                           have HL2a := hid (HL2.out.mod hma (by simp))
                           have p1a := (HL1a.out j (by omega)).1
                           rw [HNM.out] at p1a
                           clear hv1 hma))
                      have HQ1 := hid (show wb.drew.cell? ⟨q, j, none⟩ = some (.string nm) ∧ wb.drew.cell? ⟨q2, j, none⟩ = some (.string nm) from ⟨by have := (HL1b.out j (by omega)).1; rw [HNM.out] at this; exact this, by have := (HL2b.out j (by omega)).1; rw [HNM.out] at this; exact this⟩)
                      obtain ⟨S, hS⟩ := conv29 HV1b.out
                      have hcv1 := hS wb.drew ((Mod.refl [] wb).drew) _ (HV1b.out.mod0 ((Mod.refl [] wb).drew))
                      have hcv2 := hS wb.drew ((Mod.refl [] wb).drew) _ (HV2.out.mod0 ((Mod.refl [] wb).drew))
                      clear hS
                      have hlenC := HGB.out.len
                      have hjb : (j : Int) < 256 := by omega
                      have HQ2 := hid (And.intro HQ1.out.1 (And.intro HQ1.out.2 (And.intro hcv1 hcv2)))
                      go_region_held3 (fun w' => w'.cell? ⟨q, j, none⟩ = some (.string nm) ∧ w'.cell? ⟨q2, j, none⟩ = some (.string nm) ∧ (convert 29 9 (.slice x1 y1 z1)).run Tryd.prog w' = .ok (.string S) w' ∧ (convert 29 9 (.slice x2 y2 z2)).run Tryd.prog w' = .ok (.string S) w') (first | exact HQ2.out | go_keep) (fail)
                      go_wp2
                      go_roundw
                      case rel => exact ⟨j + 1, by omega, by go_num, hid (HU2.out.mod0 ((Mod.refl [] wb).drew)), hid (HL1b.out.mod ((Mod.refl [] wb).drew) (by simp)), hid (HL2b.out.mod ((Mod.refl [] wb).drew) (by simp))⟩
                      case measure => simp [intOf]; omega
                    · have hjn : ¬ ((j : Int) < ((wAll A0 bs noneO bs.length).length : Nat)) := by omega
                      go_wp2
                      go_ret
                      exact ⟨rfl, HU.out.md⟩
            · cases hmt : came A0 bs noneO bs.length
              · have HB0 := hid (show (wAll A0 bs noneO bs.length) = A0 from wAll_same hmt)
                have HM0 := hid (show (many A0 bs noneO bs.length) = 0 from hz.2 hmt)
                have HCNT := hid (show cnt ≠ 0 from fun e => by have := hcnt.out.2.1 e; simp at this)
                have HGX := hid (show GT Ax from HAX.out ▸ GT0.wAll ns byteO ns.length)
                rw [HB0.out, HM0.out] at HJ
                clear hz hmt
                go_wp2_with (go_at_call 7; refine (HJ.out.endGood HCNT.out (by omega)).mono ?_; rintro e w7 ⟨rfl, hju⟩; have HU := hid hju; clear hju)
                go_loopw [17] (fun i wz => ∃ (k mt2 : Nat), k ≤ ns.length ∧ i = .int .i64 (k : Nat) ∧ Hid (JU w wz sb m2 mo sb2 mt2 mo2 Ax (wAll A0 ns byteO k) (0 + 1) (0 + many A0 ns byteO k))) (fun i _ => ns.length - (intOf i).toNat)
                case atStart => exact ⟨0, _, Nat.zero_le _, rfl, HU⟩
                case round =>
                  clear HU
                  obtain ⟨k, mt2, hk, rfl, HU⟩ := hrel
                  by_cases hlt : k < ns.length
                  · have hltI : (k : Int) < ns.length := by omega
                    obtain ⟨b, off, hP, qw⟩ := G1.out k hlt
                    subst hP
                    obtain ⟨nm, hnm⟩ : ∃ nm, ns.getD k ByteArray.empty = nm := ⟨_, rfl⟩
                    rw [hnm] at qw
                    have HNM := hid hnm
                    clear hnm
                    have q0 := (HU.out.md.cell (p := ⟨b, off + k, none⟩) (cell_lt qw) (by simp)).trans qw
                    have hqlt := cell_lt q0
                    have HNV := hid (show NV (wr.alloc (.cells #[.int .u8 ((k : Int) % 256)] 5)) (.slice (some ⟨wr.heap.size, 0, none⟩) 1 1) (byteO k) from ⟨wr.heap.size, 1, rfl, _, Blk.new wr 5 _, by simp⟩)
                    have HU5 := hid (HU.out.mod0 ((Mod.refl [] wr).alloc (.cells #[.int .u8 ((k : Int) % 256)] 5)))
                    have hkb : (k : Int) < 1048576 := by omega
                    have hml := many_le A0 ns byteO k
                    have hmb := many_le A0 bs noneO bs.length
                    have hstep := hid (show wAll A0 ns byteO (k + 1) = resW (wAll A0 ns byteO k) nm (byteO k) ∧ many A0 ns byteO (k + 1) = many A0 ns byteO k + (if errW (wAll A0 ns byteO k) nm = 0 then 1 else 0) from ⟨by rw [← HNM.out]; rfl, by rw [← HNM.out]; rfl⟩)
                    have HGk := hid ((GT0).wAll ns byteO k)
                    go_wp2_with (go_at_call 6; refine (HU5.out.writeT HGk.out (by omega) nm HNV.out).mono ?_; rintro e w5 ⟨rfl, mt2', hj5⟩; replace hj5 := hid hj5)
                    go_roundw
                    case rel => exact ⟨k + 1, mt2', by omega, by go_num, hid (by rw [hstep.out.1, hstep.out.2, ← Nat.add_assoc]; exact hj5.out)⟩
                    case measure => simp [intOf]; omega
                  · obtain rfl : ns.length = k := by omega
                    clear hk hlt
                    generalize hgt : 0 + many A0 ns byteO ns.length = gt2 at *
                    rw [HAX.out] at HU
                    clear hgt
                    go_wp2_with (first
                      | (go_at_call 7; have hq := HU9; refine (end_none HU9.out.s true).mono ?_; rintro e w10 ⟨rfl, rfl⟩; clear hq)
                      | (go_at_call 8; have hq := HL; refine (nodes_f HU8.out.t HGX.out ((HU8.out.md.cell (p := ⟨0, 0, none⟩) h0lt (by simp)).trans hm)).mono ?_; rintro e w9 ⟨q2, cap2, rfl, hr2, hm9⟩; have HL2 := hid hr2; have HL1 := hid (HL.out.mod hm9 (by simp)); have HU9 := hid (HU8.out.mod0 hm9); clear hr2 hm9 hq)
                      | (go_at_call 8; refine (nodes_f HU.out.s HGX.out ((HU.out.md.cell (p := ⟨0, 0, none⟩) h0lt (by simp)).trans hm)).mono ?_; rintro e w8 ⟨q, cap, rfl, hr, hm8⟩; have HL := hid hr; have HU8 := hid (HU.out.mod0 hm8); clear hr hm8))
                    go_loopw [20] (fun i wz => ∃ j : Nat, j ≤ Ax.length ∧ i = .int .i64 (j : Nat) ∧ Hid (JU w wz sb m2 mo sb2 mt2 mo2 Ax Ax (0 + 1) gt2) ∧ Hid (RowS wz q (ordr Ax)) ∧ Hid (RowS wz q2 (ordr Ax))) (fun i _ => Ax.length - (intOf i).toNat)
                    case atStart => exact ⟨0, Nat.zero_le _, rfl, HU9, HL1, HL2⟩
                    case round =>
                      clear HU9 HL1 HL2 HU8 HL HU
                      obtain ⟨j, hj, rfl, HU, HL1, HL2⟩ := hrel
                      by_cases hlt : j < Ax.length
                      · have hjI : (j : Int) < (Ax.length : Nat) := by omega
                        have hol := ordr_length Ax
                        obtain ⟨nm, hnm⟩ : ∃ nm, (ordr Ax).getD j ByteArray.empty = nm := ⟨_, rfl⟩
                        have p1 := (HL1.out j (by omega)).1
                        have p2 := (HL2.out j (by omega)).1
                        rw [hnm] at p1 p2
                        have hin : nm ∈ nms Ax := ordr_mem HGX.out nm (by
                          rw [← hnm, List.getD_eq_getElem?_getD, List.getElem?_eq_getElem (by omega)]
                          exact List.getElem_mem _)
                        have hvn := hid (HGX.out.val nm hin)
                        obtain ⟨o, ho⟩ : ∃ o, LK Ax nm = some o := by
                          cases h : LK Ax nm with
                          | none => exact absurd hin (LK_none.1 h)
                          | some x => exact ⟨x, rfl⟩
                        have HO := hid ho
                        have HNM := hid hnm
                        clear hnm hin ho
                        go_wp2_with (first
                          | (go_at_call 9; have hq := HV1; refine (read_f HU1.out.t hvn.out HO.out).mono ?_; rintro e wb ⟨v2, rfl, hv2, hmb⟩
                             obtain ⟨x2, y2, z2, rfl, _⟩ := hv2.slice
                             have HV2 := hid hv2
                             have HV1b := hid (HV1.out.mod0 hmb)
                             have HU2 := hid (HU1.out.mod0 hmb)
                             have HL1b := hid (HL1a.out.mod hmb (by simp))
                             have HL2b := hid (HL2a.out.mod hmb (by simp))
                             clear hv2 hmb hq)
                          | (go_at_call 9; refine (read_f HU.out.s hvn.out HO.out).mono ?_; rintro e wa ⟨v1, rfl, hv1, hma⟩
                             obtain ⟨x1, y1, z1, rfl, _⟩ := hv1.slice
                             have HV1 := hid hv1
                             have HU1 := hid (HU.out.mod0 hma)
                             have HL1a := hid (HL1.out.mod hma (by simp))
                             have HL2a := hid (HL2.out.mod hma (by simp))
                             have p1a := (HL1a.out j (by omega)).1
                             rw [HNM.out] at p1a
                             clear hv1 hma))
                        have HQ1 := hid (show wb.drew.cell? ⟨q, j, none⟩ = some (.string nm) ∧ wb.drew.cell? ⟨q2, j, none⟩ = some (.string nm) from ⟨by have := (HL1b.out j (by omega)).1; rw [HNM.out] at this; exact this, by have := (HL2b.out j (by omega)).1; rw [HNM.out] at this; exact this⟩)
                        obtain ⟨S, hS⟩ := conv29 HV1b.out
                        have hcv1 := hS wb.drew ((Mod.refl [] wb).drew) _ (HV1b.out.mod0 ((Mod.refl [] wb).drew))
                        have hcv2 := hS wb.drew ((Mod.refl [] wb).drew) _ (HV2.out.mod0 ((Mod.refl [] wb).drew))
                        clear hS
                        have hlenC := HGX.out.len
                        have hjb : (j : Int) < 256 := by omega
                        have HQ2 := hid (And.intro HQ1.out.1 (And.intro HQ1.out.2 (And.intro hcv1 hcv2)))
                        go_region_held3 (fun w' => w'.cell? ⟨q, j, none⟩ = some (.string nm) ∧ w'.cell? ⟨q2, j, none⟩ = some (.string nm) ∧ (convert 29 9 (.slice x1 y1 z1)).run Tryd.prog w' = .ok (.string S) w' ∧ (convert 29 9 (.slice x2 y2 z2)).run Tryd.prog w' = .ok (.string S) w') (first | exact HQ2.out | go_keep) (fail)
                        go_wp2
                        go_roundw
                        case rel => exact ⟨j + 1, by omega, by go_num, hid (HU2.out.mod0 ((Mod.refl [] wb).drew)), hid (HL1b.out.mod ((Mod.refl [] wb).drew) (by simp)), hid (HL2b.out.mod ((Mod.refl [] wb).drew) (by simp))⟩
                        case measure => simp [intOf]; omega
                      · have hjn : ¬ ((j : Int) < (Ax.length : Nat)) := by omega
                        go_wp2
                        go_ret
                        exact ⟨rfl, HU.out.md⟩
              · have HCNT := hid (show cnt ≠ 0 from fun e => by have := hcnt.out.2.1 e; simp at this)
                have HMZ := hid (show 0 ≠ many A0 bs noneO bs.length from fun e => by have := hz.1 e.symm; rw [hmt] at this; simp at this)
                clear hz hmt
                go_wp2_with (first
                  | (go_at_call 7; have hq := HU9; refine (end_none HU9.out.s true).mono ?_; rintro e w10 ⟨rfl, rfl⟩; clear hq)
                  | (go_at_call 7; refine (HJ.out.endMet HCNT.out HMZ.out).mono ?_; rintro e w7 ⟨rfl, hju⟩; have HU := hid hju; clear hju)
                  | (go_at_call 8; have hq := HL; refine (nodes_f HU8.out.t HGB.out ((HU8.out.md.cell (p := ⟨0, 0, none⟩) h0lt (by simp)).trans hm)).mono ?_; rintro e w9 ⟨q2, cap2, rfl, hr2, hm9⟩; have HL2 := hid hr2; have HL1 := hid (HL.out.mod hm9 (by simp)); have HU9 := hid (HU8.out.mod0 hm9); clear hr2 hm9 hq)
                  | (go_at_call 8; refine (nodes_f HU.out.s HGB.out ((HU.out.md.cell (p := ⟨0, 0, none⟩) h0lt (by simp)).trans hm)).mono ?_; rintro e w8 ⟨q, cap, rfl, hr, hm8⟩; have HL := hid hr; have HU8 := hid (HU.out.mod0 hm8); clear hr hm8))
                go_loopw [20] (fun i wz => ∃ j : Nat, j ≤ (wAll A0 bs noneO bs.length).length ∧ i = .int .i64 (j : Nat) ∧ Hid (JU w wz sb mt mo sb2 mt2 mo2 (wAll A0 bs noneO bs.length) (wAll A0 bs noneO bs.length) (many A0 bs noneO bs.length) (many A0 bs noneO bs.length)) ∧ Hid (RowS wz q (ordr (wAll A0 bs noneO bs.length))) ∧ Hid (RowS wz q2 (ordr (wAll A0 bs noneO bs.length)))) (fun i _ => (wAll A0 bs noneO bs.length).length - (intOf i).toNat)
                case atStart => exact ⟨0, Nat.zero_le _, rfl, HU9, HL1, HL2⟩
                case round =>
                  clear HU9 HL1 HL2 HU8 HL HU HJ
                  obtain ⟨j, hj, rfl, HU, HL1, HL2⟩ := hrel
                  by_cases hlt : j < (wAll A0 bs noneO bs.length).length
                  · have hjI : (j : Int) < ((wAll A0 bs noneO bs.length).length : Nat) := by omega
                    have hol := ordr_length (wAll A0 bs noneO bs.length)
                    obtain ⟨nm, hnm⟩ : ∃ nm, (ordr (wAll A0 bs noneO bs.length)).getD j ByteArray.empty = nm := ⟨_, rfl⟩
                    have p1 := (HL1.out j (by omega)).1
                    have p2 := (HL2.out j (by omega)).1
                    rw [hnm] at p1 p2
                    have hin : nm ∈ nms (wAll A0 bs noneO bs.length) := ordr_mem HGB.out nm (by
                      rw [← hnm, List.getD_eq_getElem?_getD, List.getElem?_eq_getElem (by omega)]
                      exact List.getElem_mem _)
                    have hvn := hid (HGB.out.val nm hin)
                    obtain ⟨o, ho⟩ : ∃ o, LK (wAll A0 bs noneO bs.length) nm = some o := by
                      cases h : LK (wAll A0 bs noneO bs.length) nm with
                      | none => exact absurd hin (LK_none.1 h)
                      | some x => exact ⟨x, rfl⟩
                    have HO := hid ho
                    have HNM := hid hnm
                    clear hnm hin ho
                    go_wp2_with (first
                      | (go_at_call 9; have hq := HV1; refine (read_f HU1.out.t hvn.out HO.out).mono ?_; rintro e wb ⟨v2, rfl, hv2, hmb⟩
                         obtain ⟨x2, y2, z2, rfl, _⟩ := hv2.slice
                         have HV2 := hid hv2
                         have HV1b := hid (HV1.out.mod0 hmb)
                         have HU2 := hid (HU1.out.mod0 hmb)
                         have HL1b := hid (HL1a.out.mod hmb (by simp))
                         have HL2b := hid (HL2a.out.mod hmb (by simp))
                         clear hv2 hmb hq)
                      | (go_at_call 9; refine (read_f HU.out.s hvn.out HO.out).mono ?_; rintro e wa ⟨v1, rfl, hv1, hma⟩
                         obtain ⟨x1, y1, z1, rfl, _⟩ := hv1.slice
                         have HV1 := hid hv1
                         have HU1 := hid (HU.out.mod0 hma)
                         have HL1a := hid (HL1.out.mod hma (by simp))
                         have HL2a := hid (HL2.out.mod hma (by simp))
                         have p1a := (HL1a.out j (by omega)).1
                         rw [HNM.out] at p1a
                         clear hv1 hma))
                    have HQ1 := hid (show wb.drew.cell? ⟨q, j, none⟩ = some (.string nm) ∧ wb.drew.cell? ⟨q2, j, none⟩ = some (.string nm) from ⟨by have := (HL1b.out j (by omega)).1; rw [HNM.out] at this; exact this, by have := (HL2b.out j (by omega)).1; rw [HNM.out] at this; exact this⟩)
                    obtain ⟨S, hS⟩ := conv29 HV1b.out
                    have hcv1 := hS wb.drew ((Mod.refl [] wb).drew) _ (HV1b.out.mod0 ((Mod.refl [] wb).drew))
                    have hcv2 := hS wb.drew ((Mod.refl [] wb).drew) _ (HV2.out.mod0 ((Mod.refl [] wb).drew))
                    clear hS
                    have hlenC := HGB.out.len
                    have hjb : (j : Int) < 256 := by omega
                    have HQ2 := hid (And.intro HQ1.out.1 (And.intro HQ1.out.2 (And.intro hcv1 hcv2)))
                    go_region_held3 (fun w' => w'.cell? ⟨q, j, none⟩ = some (.string nm) ∧ w'.cell? ⟨q2, j, none⟩ = some (.string nm) ∧ (convert 29 9 (.slice x1 y1 z1)).run Tryd.prog w' = .ok (.string S) w' ∧ (convert 29 9 (.slice x2 y2 z2)).run Tryd.prog w' = .ok (.string S) w') (first | exact HQ2.out | go_keep) (fail)
                    go_wp2
                    go_roundw
                    case rel => exact ⟨j + 1, by omega, by go_num, hid (HU2.out.mod0 ((Mod.refl [] wb).drew)), hid (HL1b.out.mod ((Mod.refl [] wb).drew) (by simp)), hid (HL2b.out.mod ((Mod.refl [] wb).drew) (by simp))⟩
                    case measure => simp [intOf]; omega
                  · have hjn : ¬ ((j : Int) < ((wAll A0 bs noneO bs.length).length : Nat)) := by omega
                    go_wp2
                    go_ret
                    exact ⟨rfl, HU.out.md⟩
end Go.Proofs.YtlhjocgkmeoheaaDoor
