/-
  Commit: write, a name that is not there.
-/
import Derived.Test.YtlhjocgkmeoheaaDoorW2
import Derived.OwnWalk
namespace Go.Proofs.YtlhjocgkmeoheaaDoor
open Go.RowKit Go.Tn Go.MapKept
open Go.Proofs
attribute [-go_sem] Builtin.append_

theorem len41 {w : World} {b : Nat} (h : IsS w b) (ty : TypeId) : (Builtin.len_ #[41] ty #[.map (some b)]).run Tryd.prog w = .ok (.int .i64 (slen w b)) w := h.runLen Tryd.underlying41 ty
theorem field39 (w : World) (a b : Value) : (Instr.field 39 (.agg #[a, b]) 1).run Tryd.prog w = .ok b w := by kernel_rfl
attribute [local go_sem] look41 look41b store41 len41 field39

def strs (l : List ByteArray) : List Value := l.map .string
def strLen : Value → Nat | .string s => s.size | _ => 0

theorem new_cell {W : World} {cs : Array Value} {t : TypeId} {b i : Nat} {x : Value} (hb : W.heap.size = b) (hx : cs[i]? = some x) : (W.alloc (.cells cs t)).cell? ⟨b, i, none⟩ = some x := by
  subst hb
  rw [(Blk.new W t cs).cell i, hx]

section
variable {w : World} {m sb tx : Nat} {A : Tree}

set_option maxRecDepth 100000 in
set_option maxHeartbeats 4000000 in
theorem write_new (hT : TH w m A) (G : GT A) {name : ByteArray} (hn : name ∉ nms A) (hval : Val name.data.toList) {v : Value} {o : Option Int} (hv : NV w v o)
    (hview : Calls Tryd.prog 20 #[.pointer (some ⟨sb, 0, none⟩), .int .i64 tx] w fun e w' => e = .returned (.map (some m)) ∧ w = w') {R : World → World → Prop}
    (hch : ∀ w1 m' vl k, Tn.Mod [] w w1 → TH w1 m' (wA A name o) → w.heap.size ≤ m' → Chg w1 vl k → 1 ≤ k → k ≤ 256 → Calls Tryd.prog 22 #[.pointer (some ⟨sb, 0, none⟩), .int .i64 tx, .map (some m'), vl] w1 fun e w' => e = .returned (.tuple #[]) ∧ R w1 w') :
    Calls Tryd.prog 13 #[.pointer (some ⟨sb, 0, none⟩), .int .i64 0, .int .i64 tx, .string name, v, .bool false] w fun e w' => (wOk A name ∧ e = .returned (.int .i64 0) ∧ ∃ w1, Tn.Mod [] w w1 ∧ R w1 w') ∨ (¬ wOk A name ∧ e = .returned (.int .i64 71) ∧ Tn.Mod [] w w') := by
  have his := hT.is
  have hx := hT.no name (LK_none.2 hn)
  have HV := hid hview
  have HCH := hid hch
  have HT := hid hT
  have HVV := hid hv
  have HG := hid G
  have HVL := hid hval
  obtain ⟨i0, hi0, hz0, hz1, hz2⟩ := info_parts info9
  obtain ⟨i69, hi69, hy0, hy1, hy2⟩ := info_parts info69
  clear hview hch hT hv hval G
  go_enter Tryd.func13, Tryd.ntmps13
  go_wp2_with (go_at_call 20; refine HV.out.mono ?_; rintro e w' ⟨rfl, rfl⟩)
  have HL0 := hid (Look.start (A := A) HVL.out)
  have hlen0 := HVL.out.len
  have hm0 : Tn.Mod [] w (w.alloc (.cells #[.slice none 0 0, .slice none 0 0] 39)) := (Mod.refl [] w).alloc _
  go_loopw [16, 17] (fun vm vt wr => ∃ (pre : List ByteArray) (top : ByteArray), vt = .string top ∧ Hid (Look A name pre top) ∧ Hid (wr.ownsRow w.heap.size 9 1 vm pre.length (strs pre)) ∧ Hid (Tn.Mod [] w wr)) (fun _ vt _ => strLen vt)
  case atStart => exact ⟨[], name, rfl, HL0, hid (show World.ownsRow _ _ _ _ _ _ _ from ⟨rfl, .inl ⟨rfl, rfl⟩⟩), hid hm0⟩
  case round =>
    obtain ⟨pre, top, rfl, hlk, hown, hM⟩ := hrel
    obtain ⟨P, cap, rfl⟩ : ∃ P cap, u16 = .slice P pre.length cap := by
      rcases hown.out.2 with ⟨rfl, h0⟩ | ⟨g2, cap2, cur2, h3, _⟩
      · exact ⟨_, _, by rw [h0]⟩
      · exact ⟨_, _, h3⟩
    have his2 := (HT.out.mod0 hM.out).is
    have hsz := hlk.out.size
    have hsn : name.size ≤ 256 := by simpa using hlen0
    clear hx hm0
    by_cases htop : top ∈ nms A
    · have hpre := hlk.out.done htop
      have HPRE := hid hpre
      clear hpre
      have hne : 1 ≤ pre.length := by
        rcases Nat.eq_zero_or_pos pre.length with h0 | h0
        · have := hlk.out.head
          rw [if_neg (by omega)] at this
          exact absurd (this ▸ htop) hn
        · exact h0
      obtain ⟨o1, ho1⟩ : ∃ o1, LK A top = some o1 := by
        cases h : LK A top with
        | none => exact absurd htop (LK_none.1 h)
        | some x => exact ⟨x, rfl⟩
      obtain ⟨x, hx, hN⟩ := (HT.out.mod0 hM.out).yes top o1 ho1
      obtain ⟨x1, pb, pc, rfl, hx1, hpb, hpc⟩ := hN.out
      obtain ⟨a1, l1, c1, rfl, _⟩ := hx1.slice
      have hl2 : slen wr m = A.length := (HT.out.mod0 hM.out).len
      have hAl := HG.out.len
      have HN := hid hN
      have hmA : Tn.Mod [] wr (wr.alloc (.cells #[.slice a1 l1 c1, .slice (some ⟨pb, 0, none⟩) 1 pc] 39)) := (Mod.refl [] wr).alloc _
      have his3 := ((HT.out.mod0 hM.out).mod0 hmA).is
      have hx3 : sget (wr.alloc (.cells #[.slice a1 l1 c1, .slice (some ⟨pb, 0, none⟩) 1 pc] 39)) m top = some (.agg #[.slice a1 l1 c1, .slice (some ⟨pb, 0, none⟩) 1 pc]) := by rw [sget_alloc _ _ _ his2]; exact hx
      have hl3 : slen (wr.alloc (.cells #[.slice a1 l1 c1, .slice (some ⟨pb, 0, none⟩) 1 pc] 39)) m = A.length := ((HT.out.mod0 hM.out).mod0 hmA).len
      have hMA := hid hmA
      clear hN hx1 hpb ho1 hmA
      obtain ⟨qa, rfl⟩ : ∃ q, P = some ⟨q, 0, none⟩ := by
        rcases hown.out.2 with ⟨_, h0⟩ | ⟨g2, cap2, cur2, h3, _⟩
        · omega
        · injection h3 with h3; exact ⟨_, h3⟩
      have hqb : w.heap.size ≤ qa := (hown.out.lt qa rfl).1
      have hrow : RowS wr qa pre := fun i hi => by
        refine ⟨?_, hown.out.frozenAt i⟩
        rw [hown.out.cellAt i (by omega)]
        simp [strs, List.getD_eq_getElem?_getD, List.getElem?_eq_getElem hi]
      have hblk : ∃ cs, Blk wr qa 9 cs := by
        rcases hown.out.2 with ⟨h3, _⟩ | ⟨g2, cap2, cur2, h3, _, hh, _⟩
        · cases h3
        · injection h3 with h3; injection h3 with h3; injection h3 with h3; subst h3; exact ⟨_, hh⟩
      have HROW := hid hrow
      have HBLK := hid hblk
      clear hown hrow hblk
      by_cases hok : A.length + pre.length ≤ 256
      · have hokI : (A.length : Int) + pre.length ≤ 256 := by omega
        go_wp2_with (first
          | (go_at_call 21; refine (writes_f (HN.out.mod0 hMA.out)).mono ?_; rintro e w2 ⟨rfl, hm2⟩; have HM2 := hid ((hM.out.andThen hMA.out).andThen hm2); have his4 := (HT.out.mod0 HM2.out).is; have hl4 : slen w2 m = A.length := (HT.out.mod0 HM2.out).len; have HM12 := hid (hMA.out.andThen hm2); clear hm2)
          | (go_at_call 24; refine (rev_f (HROW.out.mod HM12.out (by simp)) (HBLK.out.imp fun _ h => h.mod HM12.out (by simp)) (by omega)).mono ?_; rintro e w3 ⟨rfl, hr3, hb3, hm3⟩; have HM3 := hid (HM2.out.trans hm3 (by simp; omega)); replace hr3 := hid hr3; replace hb3 := hid hb3; clear hm3 his4 hl4)
          | (go_at_call 11; refine (copied_f (HT.out.mod0 HM3.out)).mono ?_; rintro e w4 ⟨u, rfl, hu, hul, hm4⟩; have HW4 := hid (show W2 w w4 qa u A name o pre.reverse 0 (.slice none 0 0) from ⟨HM3.out.andThen hm4, hr3.out.mod hm4 (by simp), hb3.out.imp (fun _ h => h.mod hm4 (by simp)), (by unfold addA; simpa using hu), Nat.le_trans HM3.out.size hul, ChgO.nil _ _⟩); clear hu hul hm4))
        have hlr : pre.reverse.length = pre.length := List.length_reverse
        have HLK := hid hlk.out
        clear his2 hx hx3 hl2 hl3 his3
        go_loopw [20, 92] (fun vl i wz => ∃ k : Nat, k ≤ pre.length ∧ i = .int .i64 (k : Nat) ∧ Hid (W2 w wz qa u A name o pre.reverse k vl)) (fun _ i _ => pre.length - (intOf i).toNat)
        case atStart => exact ⟨0, Nat.zero_le _, rfl, HW4⟩
        case round =>
          obtain ⟨k, hk, rfl, hW⟩ := hrel
          by_cases hlt : k < pre.length
          · have hltI : (k : Int) < pre.length := by omega
            obtain ⟨mm, hmm⟩ : ∃ mm, pre.reverse.getD k ByteArray.empty = mm := ⟨_, rfl⟩
            obtain ⟨hvm, hum⟩ := up_there (name := name) (o := o) HLK.out htop (k := k) (by omega)
            rw [hmm] at hvm hum
            have hcell := (hW.out.row k (by omega)).1
            rw [hmm] at hcell
            have his5 := hW.out.th.is
            obtain ⟨o2, ho2⟩ : ∃ o2, LK (addA A name o (pre.reverse.take k)) (upB mm) = some o2 := by
              cases h : LK (addA A name o (pre.reverse.take k)) (upB mm) with
              | none => exact absurd hum (LK_none.1 h)
              | some x => exact ⟨x, rfl⟩
            obtain ⟨x5, hx5, hN5⟩ := hW.out.th.yes _ o2 ho2
            obtain ⟨x6, pb2, pc2, rfl, hx6, hpb2, hpc2⟩ := hN5.out
            obtain ⟨a6, l6, c6, rfl, _⟩ := hx6.slice
            have HPB2 := hid hpb2
            have HMM := hid hmm
            clear ho2 hN5 hx6 hpb2 hum hmm
            by_cases hme : mm = name
            · subst hme
              go_wp2_with (first
                | (go_at_call 23; refine (up_f mm hvm _).mono ?_; rintro e w5 ⟨rfl, rfl⟩)
                | (go_at_call 25; refine (heirs_f HPB2.out hpc2).mono ?_; rintro e w6 ⟨nb, rfl, hpb6, hm6⟩; replace hpb6 := hid hpb6; have HW6 := hid (hW.out.mod0 (hm6.alloc (.cells #[.slice none 0 0, .slice (some ⟨nb, 0, none⟩) 1 1] 39))); have hw6 : w.heap.size ≤ w6.heap.size := (by have := hm6.size; have := hW.out.md.size; omega); clear hm6)
                | (at_builtin; refine wpList_app29 rfl _ _ rfl rfl rfl (HVV.out.mod0 HW6.out.md) ?_; intro v7 w7 hv7 hm7; obtain ⟨y1, y2, y3, rfl, _⟩ := hv7.slice
                   have hb7 := (Blk.new w6 39 #[.slice none 0 0, .slice (some ⟨nb, 0, none⟩) 1 1]).mod hm7 (by simp)
                   have n0 := hb7.cell 0
                   have n1 := hb7.cell 1
                   have f0 := hb7.frozen 0
                   simp only [List.getElem?_toArray, List.getElem?_cons_zero, List.getElem?_cons_succ] at n0 n1
                   have m8 : Tn.Mod [w6.heap.size] w7 (w7.setCell ⟨w6.heap.size, 0, none⟩ (.slice y1 y2 y3)) := (Mod.refl _ w7).setCell (.inl (by simp)) _
                   have hW8 := (HW6.out.mod0 hm7).mod39 hb7 hw6 m8
                   have his8 := hW8.th.is
                   have hN8 := hid (Node.mk' (hv7.mod m8 ((Cold.nil _).cons (cold_blk hb7 (by decide) (by decide)))) ((hpb6.out.mod0 (((Mod.refl [] w6).alloc _).andThen hm7)).mod m8 ((Cold.nil _).cons (cold_blk hb7 (by decide) (by decide)))) (Nat.le_refl 1))
                   have HW8 := hid hW8
                   obtain ⟨xs8, hxs8, hxl8, hxp8⟩ := HW8.out.ch
                   clear hv7 hm7 hb7 m8 hW8)
                | (at_builtin; refine wpList_append_own _ rfl _ _ 50 rfl w.heap.size 69 i69 _ 2 40 Tryd.underlying50 hi69 hy0 hy1 hy2 rfl (by decide) _ _ _ rfl (HW8.out.row10 hxs8 _ _ _) ⟨w7.heap.size, 0, none⟩ 1 1 [.string mm, .slice (some ⟨nb, 0, none⟩) 1 1] rfl ?c0 ?c1 ?c2 ?c3 ?c4 ?c5 ?_))
              case c0 => rfl
              case c1 =>
                intro j u' hj
                rw [Addr.add_lit, Nat.zero_add]
                exact new_cell (by simp) (by simpa using hj)
              case c2 => intro u' hu'; simp at hu'; rcases hu' with rfl | rfl <;> rfl
              case c3 => unfold maxLen; omega
              case c4 => omega
              case c5 => have := HW8.out.md.size; simp at this ⊢; omega
              intro v' w11 hown' hgrow _
              have HS := hid (HW8.out.step (v' := v') (by omega) ((List.reverse_perm pre).nodup_iff.2 HLK.out.nd) (fun m' hm' => (HLK.out.no m' (List.mem_reverse.1 hm')).1) (by rw [HMM.out, if_pos rfl]; exact hN8.out) (by rw [HMM.out]; exact hgrow) hxs8 hxl8 hxp8 (by rw [HMM.out]; exact hown'))
              clear hown' hgrow
              go_wp2
              go_roundw
              case rel => exact ⟨k + 1, by omega, by go_num, HS⟩
              case measure => simp [intOf]; omega
            · have hbe : (mm.toList == name.toList) = false := beq_eq_false_iff_ne.2 (fun e => hme (by rw [Lib.toList_data, Lib.toList_data] at e; rw [← ba_toList mm, ← ba_toList name, e]))
              go_wp2_with (first
                | (go_at_call 23; refine (up_f mm hvm _).mono ?_; rintro e w5 ⟨rfl, rfl⟩)
                | (go_at_call 25; refine (heirs_f HPB2.out hpc2).mono ?_; rintro e w7 ⟨nb, rfl, hpb6, hm6⟩; have HW8 := hid (hW.out.mod0 (hm6.alloc (.cells #[.slice none 0 0, .slice (some ⟨nb, 0, none⟩) 1 1] 39))); have hN8 := hid (Node.mk' (v := .slice none 0 0) (o := none) rfl (hpb6.mod0 ((Mod.refl [] w7).alloc (.cells #[.slice none 0 0, .slice (some ⟨nb, 0, none⟩) 1 1] 39))) (Nat.le_refl 1)); have his8 := HW8.out.th.is; obtain ⟨xs8, hxs8, hxl8, hxp8⟩ := HW8.out.ch; clear hm6 hpb6)
                | (at_builtin; refine wpList_append_own _ rfl _ _ 50 rfl w.heap.size 69 i69 _ 2 40 Tryd.underlying50 hi69 hy0 hy1 hy2 rfl (by decide) _ _ _ rfl (HW8.out.row10 hxs8 _ _ _) ⟨w7.heap.size + 1, 0, none⟩ 1 1 [.string mm, .slice (some ⟨nb, 0, none⟩) 1 1] rfl ?c0 ?c1 ?c2 ?c3 ?c4 ?c5 ?_))
              case c0 => rfl
              case c1 =>
                intro j u' hj
                rw [Addr.add_lit, Nat.zero_add]
                exact new_cell (by simp) (by simpa using hj)
              case c2 => intro u' hu'; simp at hu'; rcases hu' with rfl | rfl <;> rfl
              case c3 => unfold maxLen; omega
              case c4 => omega
              case c5 => have := HW8.out.md.size; simp at this ⊢; omega
              intro v' w11 hown' hgrow _
              have HS := hid (HW8.out.step (v' := v') (by omega) ((List.reverse_perm pre).nodup_iff.2 HLK.out.nd) (fun m' hm' => (HLK.out.no m' (List.mem_reverse.1 hm')).1) (by rw [HMM.out, if_neg hme]; exact hN8.out) (by rw [HMM.out]; exact hgrow) hxs8 hxl8 hxp8 (by rw [HMM.out]; exact hown'))
              clear hown' hgrow
              go_wp2
              go_roundw
              case rel => exact ⟨k + 1, by omega, by go_num, HS⟩
              case measure => simp [intOf]; omega
          · obtain rfl : pre.length = k := by omega
            have HTH := hid (show TH wr u (wA A name o) from by
              have := hW.out.th
              rw [← hlr, List.take_length] at this
              unfold wA
              rw [if_neg hn, ← HPRE.out]
              exact this)
            go_wp2_with (go_at_call 22; refine (HCH.out wr u u20 pre.length hW.out.md HTH.out hW.out.ul (hW.out.ch.chg (by omega)) hne (by omega)).mono ?_; rintro e w9 ⟨rfl, hR⟩; replace hR := hid hR)
            go_ret
            exact .inl ⟨.inr (by rw [← HPRE.out]; exact hok), rfl, _, hW.out.md, hR.out⟩
      · have hokI : ¬ (A.length : Int) + pre.length ≤ 256 := by omega
        have hokJ : (256 : Int) < (A.length : Int) + pre.length := by omega
        go_wp2_with (go_at_call 21; refine (writes_f (HN.out.mod0 hMA.out)).mono ?_; rintro e w2 ⟨rfl, hm2⟩; have HM2 := hid ((hM.out.andThen hMA.out).andThen hm2); have his4 := (HT.out.mod0 HM2.out).is; have hl4 : slen w2 m = A.length := (HT.out.mod0 HM2.out).len; clear hm2)
        go_ret
        refine .inr ⟨?_, rfl, HM2.out⟩
        rintro (h | h)
        · exact hn h
        · rw [← HPRE.out] at h; exact hok h
    · have hx2 := (HT.out.mod0 hM.out).no top (LK_none.2 htop)
      have his3 : IsS (wr.alloc (.cells #[.slice none 0 0, .slice none 0 0] 39)) m := IsS.alloc _ _ his2 _
      have HS3 := hid his3
      have HO3 := hid (show (wr.alloc (.cells #[.slice none 0 0, .slice none 0 0] 39)).ownsRow w.heap.size 9 1 (.slice P pre.length cap) pre.length (strs pre) from hown.out.alloc _)
      have hown4 : ((wr.alloc (.cells #[.slice none 0 0, .slice none 0 0] 39)).alloc (.cells #[.string top] 9)).ownsRow w.heap.size 9 1 (.slice P pre.length cap) pre.length (strs pre) := (hown.out.alloc _).alloc _
      have hwr := hM.out.size
      clear his3 his
      go_wp2_with (at_builtin; refine wpList_append_own _ rfl _ _ 22 rfl w.heap.size 9 i0 _ 1 16 Tryd.underlying22 hi0 hz0 hz1 hz2 rfl (by decide) _ _ _ rfl hown4 ⟨wr.heap.size + 1, 0, none⟩ 1 1 [.string top] rfl ?c0 ?c1 ?c2 ?c3 ?c4 ?c5 ?_)
      case c0 => rfl
      case c1 =>
        intro j u hj
        match j, hj with
        | 0, hj => simp at hj; subst hj; simp [Addr.add]
      case c2 => intro u hu; simp at hu; subst hu; rfl
      case c3 => unfold maxLen; omega
      case c4 => omega
      case c5 => simp; omega
      intro v' w1 hown' hgrow _
      have hrow : ∀ b, (Value.slice P pre.length cap).ownBlock = some b → w.heap.size ≤ b := fun b hb => (hown.out.lt b hb).1
      have hM1 : Tn.Mod [] w w1 := ((hM.out.alloc _).alloc _).grown hgrow (fun b hb => .inr (hrow b hb))
      replace hM1 := hid hM1
      have hs2 : strs pre ++ [.string top] = strs (pre ++ [top]) := by simp [strs]
      rw [hs2] at hown'
      have HO' := hid (show w1.ownsRow w.heap.size 9 1 v' (pre ++ [top]).length (strs (pre ++ [top])) from by rw [List.length_append]; exact hown')
      have HLK := hid (hlk.out.step HG.out htop)
      have hup := hid (upB_val hlk.out.val (Val.ne_root HG.out htop))
      clear hown' hown4 hgrow hrow hs2
      go_wp2_with (go_at_call 23; refine (up_f top hlk.out.val _).mono ?_; rintro e w2 ⟨rfl, rfl⟩)
      go_roundw
      case rel => exact ⟨pre ++ [top], upB top, rfl, HLK, HO', hM1⟩
      case measure => exact hup.out.2
end
end Go.Proofs.YtlhjocgkmeoheaaDoor
