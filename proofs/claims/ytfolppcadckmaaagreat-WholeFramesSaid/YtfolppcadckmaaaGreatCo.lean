/-
  Frames: come, where one frame waits.
-/
import Derived.Test.YtfolppcadckmaaaGreatCm
namespace Go.Proofs.YtfolppcadckmaaaGreat
open Go.RowKit Go.Tn
open Go.Proofs
set_option maxRecDepth 100000

/-- The frames behind a delivery. -/
def dlv (F : Nat → Nat → Int) (dp mfn n o : Nat) (G R : Nat → Int) : Nat → Nat → Int := wrB (wrB (wrB F dp 0 n G) mfn (rs o) 8 R) mfn 2 2 (tb (sc o))
theorem rs_mod (o : Nat) : rs o = 144 + 8 * (o % 8) := rfl
theorem dlv_resp {F : Nat → Nat → Int} {dp mfn n o j : Nat} {G R : Nat → Int} (hj : j < 8) : dlv F dp mfn n o G R mfn (4 + rs o + j) = R j := by
  have := rs_mod o
  unfold dlv wrB
  rw [if_neg (by omega), if_pos (by omega)]
  congr 1
  omega
theorem dlv_laid {F : Nat → Nat → Int} {dp mfn n o : Nat} {G R : Nat → Int} : dlv F dp mfn n o G R mfn 6 = ((sc o % 256 : Nat) : Int) ∧ dlv F dp mfn n o G R mfn 7 = ((sc o / 256 : Nat) : Int) := by
  unfold dlv wrB
  rw [if_pos (by omega), if_pos (by omega)]
  simp [tb]
theorem dlv_page {F : Nat → Nat → Int} {dp mfn n o j : Nat} {G R : Nat → Int} (hne : dp ≠ mfn) (hj : j < n) : dlv F dp mfn n o G R dp (4 + 0 + j) = G j := by
  unfold dlv wrB
  rw [if_neg (by omega), if_neg (by omega), if_pos (by omega)]
  congr 1
  omega

section
variable {w w' : World} {b x d o i s bp bk : Nat} {FP : List Nat} {C : Nat → Option Addr × Nat} {S : P14.St}
variable {m fb mb kb p bf bpl gt dp fi : Nat} {L : List Int} {F : Nat → Nat → Int} {f : Int → Option Value} {es : Array MapEntry} {c : Nat}

set_option maxHeartbeats 16000000 in
/-- 'come', where one frame waits: it is the last one that was sent, by another one. -/
theorem come_one {mfn s0 ic oc k cS cB sb so yb yo cA : Nat} {A : Option Addr} {fr : List Int} {d0 : Int} (h : NB w b x d o i s) (sg : SG w m fb x mb kb p bf bpl d gt dp L F f es c) (hb : Br.BM w s bp bk FP C S) {M : Int} (G : P14.Ok S M) (hM : M ≤ 1152921504606846900)
    (ro : RB w i mfn oc oc s0) (rf : RF w fi m mfn ic oc) (hI : InR F mfn ic oc) (hmf : mfn < 14) (hown : F mfn 0 ≠ -1) (hg1 : gt ≠ mfn) (hg2 : gt ≠ dp) (hdm : dp ≠ mfn) (ot : Out [fb, fi] m x mb kb p bf bpl b) (hiF : i ∉ FP) (hiT : i ∉ [fb, fi]) (hfF : fb ∉ FP) (hfiF : fi ∉ FP) (hmF : m ∉ FP) (hbF : b ∉ FP) (hfii : fi ≠ i) (hffi : fb ≠ fi)
    (hdn : d < S.n) (hq : (S.L d).q = [fr]) (l : Nat) (hl : l = k + 1) (hk : k < 4611686018427387904) (hd0 : d0 ≠ (d : Nat))
    (HK : ∀ W, Tn.Mod (fb :: i :: fi :: FP) w W → W.cell? ⟨sb, so + k, none⟩ = some (.slice A fr.length cA) ∧ W.cell? ⟨yb, yo + k, none⟩ = some (.int .i64 d0) ∧ Bys W A fr.length (P14.fAt fr)) :
    Calls Tryz.prog 21 #[.pointer (some ⟨m, 0, none⟩), .pointer (some ⟨b, 0, none⟩), .pointer (some ⟨fi, 0, none⟩), .int .i64 (dp : Nat), .int .i64 (d : Nat), .slice (some ⟨sb, so, none⟩) l cS, .slice (some ⟨yb, yo, none⟩) l cB] w fun e w' => e = .returned (.bool true) ∧
      ∃ F' i' o' s', InR F' mfn i' o' ∧ OnlyP F F' mfn dp ∧ PH w' m fb F' ∧ RF w' fi m mfn i' o' ∧ RB w' i mfn o' o' s' ∧ Af w w' s bp bk FP (P14.doneS S (d : Nat) true) ∧ Tn.Mod (fb :: i :: fi :: FP) w w' := by
  have HPut := hid fun (W : World) (q : Nat) (hm : Tn.Mod [] w W) (hB : Bys W (some ⟨q, 0, none⟩) 16 (rq 0 7)) (hq : w.heap.size ≤ q) => rput_any (dp := dp) (rf.mod0 hm) (sg.ph.mod0 hm) hI hmf hown (some ⟨q, 0, none⟩) 16 (rq 0 7) rfl hB (fun q' off e => by
    injection e with e; injection e with e1 e2 e3; subst e1
    have h1 := sg.ph.fr.lt
    have h2 := Blk.lt rf
    exact ⟨by omega, by omega⟩)
  have SS := hid fun (W : World) (F1 : Nat → Nat → Int) (hm : Tn.Mod [fb, fi] w W) (hp : PH W m fb F1) (ho : OnlyP F F1 mfn dp) => sg.only ho hg1 hg2 hp (sg.gh.mod hm ot.x ot.mb ot.kb) (sg.pm.mod hm ot.p ot.bf ot.bpl)
  have SN := hid fun (W : World) (hm : Tn.Mod [fb, fi] w W) => h.mod hm ot.b
  have SB := hid fun (W : World) (hm : Tn.Mod [fb, fi] w W) => hb.same hm (fun t ht e => by
    rcases List.mem_cons.1 e with rfl | e
    · exact hfF ht
    · exact hfiF (List.mem_singleton.1 e ▸ ht))
  have SR := hid fun (W : World) (hm : Tn.Mod [fb, fi] w W) => ro.mod hm hiT
  have hfrk := G.fr d hdn fr (by rw [hq]; simp)
  have HG := hid G
  have HFR := hid hfrk
  have HN := hid (And.intro hI.o6 (And.intro hmf (And.intro hown (And.intro hdn (And.intro hq (And.intro hfii (And.intro hffi (And.intro hdm hM))))))))
  have HF := hid (And.intro hiF (And.intro hfF (And.intro hfiF (And.intro hmF (And.intro hbF hiT)))))
  have HOLD := hid hb.rows.old
  have HLV := hid (And.intro sg.ph.blk.lt (And.intro sg.ph.fr.lt (And.intro (Blk.lt rf) (And.intro (Blk.lt ro) (Blk.lt h)))))
  have HKK := hid HK
  have HD0 : (d0 != ((d : Nat) : Int)) = true := by simpa using hd0
  have hl0 : ((l : Int) == 0) = false := by simp; omega
  have hl1 : (k : Int) < 4611686018427387904 := by omega
  have hl2 : (l : Int) - 1 = (k : Int) := by omega
  have hl3 : (k : Int) < (l : Int) := by omega
  have hl4 : k < l := by omega
  have hmfb : m ≠ fb := sg.ph.blk.ne_ sg.ph.fr (by decide)
  have HMF := hid hmfb
  have HD14 := hid sg.d14
  clear h sg hb G hM ro rf hI hmf hown hg1 hg2 hdm ot hiF hiT hfF hfiF hmF hbF hfii hffi hdn hq hk hl hd0 HK hfrk hmfb
  go_enter Tryz.func21, Tryz.ntmps21
  go_wp2_with (first
    | (go_at_call 54; refine (buffer_f _).mono ?_; rintro e w1 ⟨q, hq, rfl, hb1, hm1⟩; have HPu := hid (HPut.out _ q hm1 hb1 hq); have HM1 := hid hm1; clear hq hb1 hm1)
    | (go_at_call 18; refine HPu.out.mono ?_; rintro e w2 ⟨⟨z, rfl⟩, F1, i', hi2, hd2, ho2, hp2, hf2, hm2⟩
       have HI2 := hid (And.intro hi2 (And.intro hd2 ho2))
       have HM2 := hid ((HM1.out.mono (T := [fb, fi]) (by simp)).andThen hm2)
       have HP2 := hid hp2
       have HF2 := hid hf2
       clear hi2 hd2 ho2 hp2 hf2 hm2)
    | (go_at_call 17; refine (vnew_f HP2.out).mono ?_; rintro e w3 ⟨v, db, hv, hdb, rfl, hv3, hm3⟩
       have HM3 := hid (HM2.out.andThen (hm3.mono (by simp)))
       have HF3 := hid (HF2.out.mod0 hm3)
       have hvw : w.heap.size ≤ v := by have := HM2.out.size; omega
       have hdw : w.heap.size ≤ db := by have := HM2.out.size; omega
       have HVW := hid hvw
       have HDl := hid (deliver_one (SN.out _ HM3.out) (SS.out _ _ HM3.out (HP2.out.mod0 hm3) HI2.out.2.2) hv3 (by omega) (SB.out _ HM3.out) HG.out HN.out.2.2.2.2.2.2.2.2 (SR.out _ HM3.out) HN.out.1 HI2.out.1.i6 HN.out.2.1 (by rw [HI2.out.2.2 mfn 0 (by omega)]; exact HN.out.2.2.1) HI2.out.1.d8 HI2.out.2.1 HI2.out.1.x0 HI2.out.1.x1 (by have e := HI2.out.1.pe 0 (Nat.pos_of_ne_zero HI2.out.2.1); rw [Nat.add_zero, Nat.mod_eq_of_lt HN.out.1] at e; exact e) ⟨HF.out.2.2.2.1, HF.out.2.1, fun e => by have := HOLD.out _ e; omega, fun e => by have := HOLD.out _ e; omega, HF.out.2.2.2.2.1, HF.out.1⟩ HN.out.2.2.2.1 HN.out.2.2.2.2.1)
       clear hv hdb hv3 hm3 hvw hdw)
    | (go_at_call 55; refine HDl.out.mono ?_; rintro e w4 ⟨rfl, ⟨R, hR2, hR3, hp4⟩, hr4, haf4, hm4⟩
       have hp4' : PH w4 m fb (dlv F1 dp mfn fr.length oc (P14.fAt fr) R) := hp4
       have hff : fi ∉ fb :: v :: i :: FP := by
         have h1 := HVW.out
         have h2 := HLV.out
         have h3 : fi ≠ v := by omega
         simpa using And.intro HN.out.2.2.2.2.2.2.1.symm (And.intro h3 (And.intro HN.out.2.2.2.2.2.1 HF.out.2.2.1))
       have HG4 := hid (rget_f (HF3.out.mod hm4 hff) hp4' HI2.out.1.i6 HN.out.1 HN.out.2.1 HI2.out.2.1 (sc oc) (sc_lt oc) (by have := HN.out.1; unfold sc; omega) dlv_laid.1 dlv_laid.2)
       have HR := hid (And.intro hR2 hR3)
       have HR4 := hid hr4
       have HAF := hid haf4
       have HM4 := hid ((HM3.out.mono (T := fb :: i :: fi :: FP) (by simp)).trans hm4 (fun t ht => by
         rcases List.mem_cons.1 ht with rfl | ht
         · exact .inl (by simp)
         rcases List.mem_cons.1 ht with rfl | ht
         · exact .inr HVW.out
         rcases List.mem_cons.1 ht with rfl | ht
         · exact .inl (by simp)
         · exact .inl (by simp [ht])))
       have HM34 := hid hm4
       clear hR2 hR3 hp4 hp4' hr4 haf4 hm4 hff)
    | (go_at_call 20; refine HG4.out.mono ?_; rintro e w5 ⟨g, hg, rfl, hb5, hf5, hp5, hm5⟩
       have hRe := reply_f (cp := 8) hb5 (by rw [dlv_resp (by omega), HR.out.1]; omega) (by rw [dlv_resp (by omega), HR.out.2]; have := HFR.out.2.1; omega)
       rw [dlv_resp (by omega), dlv_resp (by omega), HR.out.1, HR.out.2] at hRe
       have HRe := hid hRe
       have HF5 := hid hf5
       have HP5 := hid hp5
       have HM45 := hid hm5
       have HM5 := hid (HM4.out.andThen (hm5.mono (by simp)))
       clear hRe hb5 hf5 hp5 hm5 hg)
    | (go_at_call 56; refine HRe.out.mono ?_; rintro e w6 ⟨⟨u, rfl⟩, hm6⟩
       have HRd := hid (show Calls Tryz.prog 52 #[.pointer (some ⟨m, 0, none⟩), .int .i64 (dp : Nat), .int .i64 0, .int .i64 (fr.length : Nat)] w6 _ from read_f (HP5.out.mod0 hm6) dp 0 fr.length HD14.out (by have := HFR.out.2.1; omega))
       have HM56 := hid hm6
       clear hm6)
    | (go_at_call 52; refine HRd.out.mono ?_; rintro e w7 ⟨g7, hg7, rfl, hb7, hm7⟩
       have HB7 := hid hb7
       have HM57 := hid (HM56.out.andThen hm7)
       clear hg7 hb7 hm7))
  have hmw7 : Tn.Mod (fb :: i :: fi :: FP) w w7 := HM5.out.andThen (HM57.out.mono (by simp))
  have hmd7 : Tn.Mod (fb :: i :: fi :: FP) w w7.drew := hmw7.drew
  have hn0 : 0 < fr.length := by have := HFR.out.1; omega
  obtain ⟨k1, k2, k3⟩ := HKK.out _ hmd7
  have hB7 : Bys w7.drew (some ⟨g7, 0, none⟩) fr.length (P14.fAt fr) := fun h0 => by
    obtain ⟨b', off, he, hlt, hc⟩ := (HB7.out.mod ((Mod.refl [] w7).drew) (by simp)) h0
    exact ⟨b', off, he, hlt, fun j hj => (hc j hj).trans (congrArg (fun z => some (Value.int .u8 z)) (dlv_page HN.out.2.2.2.2.2.2.2.1 hj))⟩
  have v1 := conv22 (cap := fr.length) hB7 hn0
  have v2 := conv22 (cap := cA) k3 hn0
  generalize strOfNums ((List.range fr.length).map (P14.fAt fr)) = T at v1 v2
  have HS := hid (And.intro k2 (And.intro k1 (And.intro v1 v2)))
  have HMW := hid hmw7
  clear k1 k2 k3 hB7 v1 v2 hmw7 hmd7 hn0
  go_region_held3 (fun w' => w'.cell? ⟨yb, yo + k, none⟩ = some (.int .i64 d0) ∧ w'.cell? ⟨sb, so + k, none⟩ = some (.slice A fr.length cA) ∧ (convert 22 9 (.slice (some ⟨g7, 0, none⟩) fr.length fr.length)).run Tryz.prog w' = .ok (.string T) w' ∧ (convert 22 9 (.slice A fr.length cA)).run Tryz.prog w' = .ok (.string T) w') (first | exact HS.out | go_keep) (fail)
  go_wp2
  go_ret
  have hn := HN.out
  have hlv := HLV.out
  have hd7 : Tn.Mod [] w5 w7.drew := HM57.out.drew
  have h47 : Tn.Mod [fi] w4 w7.drew := HM45.out.andThen (hd7.mono (by simp))
  refine ⟨rfl, dlv F1 dp mfn fr.length oc (P14.fAt fr) R, i', sc oc, i', inR_done HI2.out.1 HI2.out.2.1 hn.2.2.2.2.2.2.2.1, HI2.out.2.2.wr2.wr1.wr1, HP5.out.mod0 hd7, HF5.out.mod0 hd7, HR4.out.mod h47 (by simpa using hn.2.2.2.2.2.1.symm), ?_, HMW.out.drew⟩
  obtain ⟨FP', C', hb4, hup, hnew⟩ := HAF.out
  have h2 := HM3.out.size
  refine ⟨FP', C', hb4.same h47 (fun t ht e => ?_), hup, fun t ht => ?_⟩
  · obtain rfl := List.mem_singleton.1 e
    rcases hnew _ ht with h3 | h3
    · exact HF.out.2.2.1 h3
    · omega
  · rcases hnew t ht with h3 | h3
    · exact .inl h3
    · exact .inr (by omega)
end
end Go.Proofs.YtfolppcadckmaaaGreat
