/-
  Frames: come: what is delivered to a front now was sent last, by another one.
-/
import Derived.Test.YtfolppcadckmaaaGreatCi
namespace Go.Proofs.YtfolppcadckmaaaGreat
open Go.RowKit Go.Tn
open Go.Proofs
set_option maxRecDepth 100000

theorem buffer_f (w : World) : Calls Tryz.prog 54 #[.int .i64 3, .int .i64 7] w fun e w' => ∃ q, w.heap.size ≤ q ∧ e = .returned (.tuple #[.slice (some ⟨q, 0, none⟩) 16 16, .int .i64 0]) ∧ Bys w' (some ⟨q, 0, none⟩) 16 (rq 0 7) ∧ Tn.Mod [] w w' := by
  have hP : ∀ W, Calls Tryz.prog 16 #[.int .i64 3, .int .i64 0, .int .i64 0, .int .i64 7] W _ := fun W => packet_f 0 7 (by omega) (by omega) W
  have HP := hid hP
  clear hP
  go_enter Tryz.func54, Tryz.ntmps54
  go_wp2_with (go_at_call 16; refine (HP.out _).mono ?_; rintro e w5 ⟨q, hq, rfl, hb, hm⟩; have HQ := hid hq; have HB := hid hb; have HM := hid hm; clear hq hb hm)
  go_ret2
  exact ⟨q, HQ.out, rfl, HB.out, HM.out⟩

section
variable {w w' : World} {b x d o i s bp bk : Nat} {FP : List Nat} {C : Nat → Option Addr × Nat} {S : P14.St}
variable {m fb mb kb p bf bpl gt dp fi : Nat} {L : List Int} {F : Nat → Nat → Int} {f : Int → Option Value} {es : Array MapEntry} {c : Nat}

theorem SG.only (h : SG w m fb x mb kb p bf bpl d gt dp L F f es c) {F' : Nat → Nat → Int} {mfn : Nat} (ho : OnlyP F F' mfn dp) (hg1 : gt ≠ mfn) (hg2 : gt ≠ dp) (hp : PH w' m fb F') (hg : GH w' x m mb kb f es c) (hq : Pm.PM w' p bf bpl L) : SG w' m fb x mb kb p bf bpl d gt dp L F' f es c :=
  ⟨hp, hg, hq, h.fo, h.lv, h.le, h.d8, h.g14, h.d14, (ho dp 0 (by omega)).trans h.og, (ho dp 1 (by omega)).trans h.ty, fun j hj => (ho gt _ (.inr ⟨hg1, hg2⟩)).trans (h.ent j hj)⟩

/-- The blocks that a delivery may turn are none of these. -/
structure Out (T : List Nat) (m x mb kb p bf bpl b : Nat) : Prop where
  m : m ∉ T
  x : x ∉ T
  mb : mb ∉ T
  kb : kb ∉ T
  p : p ∉ T
  bf : bf ∉ T
  bpl : bpl ∉ T
  b : b ∉ T

set_option maxHeartbeats 16000000 in
/-- 'come', where no frame waits. -/
theorem come_no {mfn s0 ic oc k cS cB : Nat} {A B : Option Addr} (h : NB w b x d o i s) (sg : SG w m fb x mb kb p bf bpl d gt dp L F f es c) (hb : Br.BM w s bp bk FP C S) {M : Int} (G : P14.Ok S M)
    (ro : RB w i mfn oc oc s0) (rf : RF w fi m mfn ic oc) (hI : InR F mfn ic oc) (hmf : mfn < 14) (hown : F mfn 0 ≠ -1) (hg1 : gt ≠ mfn) (hg2 : gt ≠ dp) (ot : Out [fb, fi] m x mb kb p bf bpl b) (hffi : fb ≠ fi) (hiF : i ∉ FP) (hiT : i ∉ [fb, fi]) (hfF : fb ∉ FP) (hfiF : fi ∉ FP) (hfii : fi ≠ i) (hfbi : fb ≠ i) (hmi : m ≠ i)
    (hdn : d < S.n) (hq : (S.L d).q = []) :
    Calls Tryz.prog 21 #[.pointer (some ⟨m, 0, none⟩), .pointer (some ⟨b, 0, none⟩), .pointer (some ⟨fi, 0, none⟩), .int .i64 (dp : Nat), .int .i64 (d : Nat), .slice A k cS, .slice B k cB] w fun e w' => e = .returned (.bool true) ∧
      ∃ F' i' o' s', InR F' mfn i' o' ∧ OnlyP F F' mfn dp ∧ PH w' m fb F' ∧ RF w' fi m mfn i' o' ∧ RB w' i mfn o' o' s' ∧ Tn.Mod [fb, i, fi] w w' := by
  have HPut := hid fun (W : World) (q : Nat) (hm : Tn.Mod [] w W) (hB : Bys W (some ⟨q, 0, none⟩) 16 (rq 0 7)) (hq : w.heap.size ≤ q) => rput_any (dp := dp) (rf.mod0 hm) (sg.ph.mod0 hm) hI hmf hown (some ⟨q, 0, none⟩) 16 (rq 0 7) rfl hB (fun q' off e => by
    injection e with e; injection e with e1 e2 e3; subst e1
    have h1 := sg.ph.fr.lt
    have h2 := Blk.lt rf
    exact ⟨by omega, by omega⟩)
  have SS := hid fun (W : World) (F1 : Nat → Nat → Int) (hm : Tn.Mod [fb, fi] w W) (hp : PH W m fb F1) (ho : OnlyP F F1 mfn dp) => sg.only ho hg1 hg2 hp (sg.gh.mod hm ot.x ot.mb ot.kb) (sg.pm.mod hm ot.p ot.bf ot.bpl)
  have SN := hid fun (W : World) (hm : Tn.Mod [fb, fi] w W) => h.mod hm ot.b
  have SB := hid fun (W : World) (hm : Tn.Mod [fb, fi] w W) => hb.same hm (fun t ht e => by
    rcases List.mem_cons.1 e with rfl | e
    · exact hfF ht
    · exact hfiF (List.mem_singleton.1 e ▸ ht))
  have SR := hid fun (W : World) (hm : Tn.Mod [fb, fi] w W) => ro.mod hm hiT
  have HG := hid G
  have HN := hid (And.intro hI.o6 (And.intro hmf (And.intro hiF (And.intro hdn (And.intro hq (And.intro hfii (And.intro hfbi hmi)))))))
  have HOLD := hid hb.rows.old
  have HLV := hid (And.intro sg.ph.blk.lt (And.intro sg.ph.fr.lt (Blk.lt rf)))
  clear h sg hb G ro rf hI hmf hown hg1 hg2 ot hffi hiF hiT hfF hfiF hfii hfbi hmi hdn hq
  go_enter Tryz.func21, Tryz.ntmps21
  go_wp2_with (first
    | (go_at_call 54; refine (buffer_f _).mono ?_; rintro e w1 ⟨q, hq, rfl, hb1, hm1⟩; have HPu := hid (HPut.out _ q hm1 hb1 hq); have HM1 := hid hm1; clear hq hb1 hm1)
    | (go_at_call 18; refine HPu.out.mono ?_; rintro e w2 ⟨⟨z, rfl⟩, F1, i', hi2, hd2, ho2, hp2, hf2, hm2⟩
       have HI2 := hid (And.intro hi2 (And.intro hd2 ho2))
       have HM2 := hid ((HM1.out.mono (T := [fb, fi]) (by simp)).andThen hm2)
       have HP2 := hid hp2
       have HF2 := hid hf2
       clear hi2 hd2 ho2 hp2 hf2 hm2)
    | (go_at_call 17; refine (vnew_f HP2.out).mono ?_; rintro e w3 ⟨v, db, hv, hdb, rfl, hv3, hm3⟩
       have HM3 := hid (HM2.out.andThen (hm3.mono (by simp)))
       have HP3 := hid (HP2.out.mod0 hm3)
       have HF3 := hid (HF2.out.mod0 hm3)
       have hvw : w.heap.size ≤ v := by have := HM2.out.size; omega
       have HVW := hid hvw
       have HDl := hid (deliver_no (SN.out _ HM3.out) (SS.out _ _ HM3.out HP3.out HI2.out.2.2) hv3 (by omega) (SB.out _ HM3.out) HG.out (SR.out _ HM3.out) HN.out.1 HI2.out.1.i6 HN.out.2.1 HI2.out.1.d8 HI2.out.1.x0 HI2.out.1.x1 (fun e => by have := HOLD.out _ e; omega) HN.out.2.2.1 HN.out.2.2.2.1 HN.out.2.2.2.2.1)
       clear hv hdb hv3 hm3 hvw)
    | (go_at_call 55; refine HDl.out.mono ?_; rintro e w4 ⟨rfl, hr4, hm4⟩; have HR4 := hid hr4; have HM4 := hid hm4; clear hr4 hm4))
  all_goals go_ret
  all_goals
    have hvw := HVW.out
    have hlv := HLV.out
    have hn := HN.out
    refine ⟨rfl, F1, i', oc, i', HI2.out.1, HI2.out.2.2, HP3.out.mod HM4.out ?_ ?_, HF3.out.mod HM4.out ?_, HR4.out, (HM3.out.mono (T := [fb, i, fi]) (by simp)).trans HM4.out (fun t ht => ?_)⟩
    · have h1 : m ≠ v := by omega
      simpa using And.intro h1 hn.2.2.2.2.2.2.2
    · have h1 : fb ≠ v := by omega
      simpa using And.intro h1 hn.2.2.2.2.2.2.1
    · have h1 : fi ≠ v := by omega
      simpa using And.intro h1 hn.2.2.2.2.2.1
    · rcases List.mem_cons.1 ht with rfl | ht
      · exact .inr hvw
      · obtain rfl := List.mem_singleton.1 ht
        exact .inl (by simp)
end
end Go.Proofs.YtfolppcadckmaaaGreat
