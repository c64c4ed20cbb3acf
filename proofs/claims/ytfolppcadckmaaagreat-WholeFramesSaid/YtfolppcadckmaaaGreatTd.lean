/-
  Frames: the network backend: a delivering turn: Deliver.
-/
import Derived.Test.YtfolppcadckmaaaGreatTs
import Derived.Test.YtfolppcadckmaaaGreatOk
namespace Go.Proofs.YtfolppcadckmaaaGreat
open Go.RowKit Go.Tn
open Go.Proofs
set_option maxRecDepth 100000

def noU8 : Value → Bool
  | .int .u8 _ => false
  | _ => true
theorem not_u8 {w : World} {b t k : Nat} {cs : Array Value} {y : Int} (h : Blk w b t cs) (hc : cs.all noU8 = true) : w.cell? ⟨b, k, none⟩ ≠ some (.int .u8 y) := by
  rw [h.cell]
  intro e
  obtain ⟨h1, h2⟩ := Array.getElem?_eq_some_iff.1 e
  have h3 := Array.all_eq_true.1 hc k h1
  rw [h2] at h3
  cases h3
theorem bytes_ne {w : World} {A : Option Addr} {fr : List Int} {b t : Nat} {cs : Array Value} (hA : P14.Bytes w A fr) (h0 : 0 < fr.length) (h : Blk w b t cs) (hc : cs.all noU8 = true) : ∀ g off, A = some ⟨g, off, none⟩ → g ≠ b := by
  rintro g off rfl rfl
  obtain ⟨b', off', he, _, hcell⟩ := hA.2 h0
  injection he with he
  injection he with e1 e2 e3
  subst e1 e2
  exact not_u8 h hc (hcell 0 _ (Br.fAt_get h0))

section
variable {w w' : World} {b x d o i s bp bk : Nat} {FP : List Nat} {C : Nat → Option Addr × Nat} {S : P14.St}
variable {m fb mb kb p bf bpl gt dp v db r : Nat} {L : List Int} {F : Nat → Nat → Int} {f : Int → Option Value} {es : Array MapEntry} {c : Nat}

theorem headE_nil {S : P14.St} {d : Nat} (hd : d < S.n) (hq : (S.L d).q = []) : P14.headE S (d : Nat) = 6 ∧ P14.headV S (d : Nat) = [] := by
  have hp : P14.isP S (d : Nat) = true := P14.isP_nat.2 hd
  unfold P14.headE P14.headV
  simp [hp, hq]
theorem headE_one {S : P14.St} {d : Nat} {fr : List Int} {q : List (List Int)} (hd : d < S.n) (hq : (S.L d).q = fr :: q) : P14.headE S (d : Nat) = 0 ∧ P14.headV S (d : Nat) = fr := by
  have hp : P14.isP S (d : Nat) = true := P14.isP_nat.2 hd
  unfold P14.headE P14.headV
  simp [hp, hq]
theorem done_q {S : P14.St} {d : Nat} {fr : List Int} {q : List (List Int)} (hd : d < S.n) (hq : (S.L d).q = fr :: q) (on : Bool) : ((P14.doneS S (d : Nat) on).L d).q = q ∧ (P14.doneS S (d : Nat) on).n = S.n := by
  unfold P14.doneS
  rw [if_pos (headE_one hd hq).1]
  refine ⟨?_, rfl⟩
  rw [P14.onP_L]
  unfold P14.doneP
  cases on <;> simp [P14.Po.inc, P14.Po.set, P14.Po.setq, hq]

set_option maxHeartbeats 16000000 in
/-- No frame waits. -/
theorem turnD_no {mfn n0 n1 s0 : Nat} (h : NB w b x d o i s) (sg : SG w m fb x mb kb p bf bpl d gt dp L F f es c) (hv : VH w v m db r) (hr : r ≤ 9000) (hb : Br.BM w s bp bk FP C S) {M : Int} (G : P14.Ok S M)
    (ro : RB w i mfn n0 n0 s0) (hn0 : n0 < 65536) (hn1 : n1 < 65536) (hmf : mfn < 14) (hdf : df n1 n0 ≤ 8) (hp0 : F mfn 4 = ((n1 % 256 : Nat) : Int)) (hp1 : F mfn 5 = ((n1 / 256 : Nat) : Int)) (hvF : v ∉ FP) (hiF : i ∉ FP) (hdn : d < S.n) (hq : (S.L d).q = []) :
    Calls Tryz.prog 70 #[.pointer (some ⟨v, 0, none⟩), .pointer (some ⟨i, 0, none⟩), .int .i64 8, .func (.func 71) #[.pointer (some ⟨b, 0, none⟩)] #[], .func (.func 72) #[.pointer (some ⟨b, 0, none⟩)] #[]] w fun e w' => e = .returned (.tuple #[.int .i64 0, .int .i64 0]) ∧ RB w' i mfn n0 n0 n1 ∧ Tn.Mod [v, i] w w' := by
  have HL := hid (look_f ro hv sg.ph (by omega) hn0 hmf n1 hn1 hdf hp0 hp1)
  have hov : i ≠ v := Blk.ne_ ro hv.blk (by decide)
  have hob : i ≠ b := Blk.ne_ ro h (by decide)
  have hbv : b ≠ v := Blk.ne_ h hv.blk (by decide)
  obtain ⟨e6, ev⟩ := headE_nil hdn hq
  have HW := hid fun (W : World) (hm : Tn.Mod [v, i] w W) => waitn_f (h.mod hm (by simpa using And.intro hbv hob.symm)) (hb.same hm (fun t ht e => by
    rcases List.mem_cons.1 e with rfl | e
    · exact hvF ht
    · exact hiF (List.mem_singleton.1 e ▸ ht))) G
  rw [e6, ev] at HW
  generalize df n1 n0 = dd at HL
  clear h sg hv hr hb G ro hn0 hn1 hmf hdf hp0 hp1 hvF hiF hdn hq hov hob hbv e6 ev
  go_enter Tryz.func70, Tryz.ntmps70
  go_wp2_with (go_at_call 64; refine HL.out.mono ?_; rintro e w1 ⟨rfl, hr1, _, _, hm1⟩; have HR1 := hid hr1; have HM1 := hid hm1; clear hr1 hm1)
  go_loopw [34] (fun t wr => t = .int .i64 0 ∧ Hid (RB wr i mfn n0 n0 n1 ∧ Tn.Mod [v, i] w wr)) (fun t _ => 8 - (intOf t).toNat)
  case atStart => exact ⟨rfl, hid ⟨HR1.out, HM1.out⟩⟩
  case round =>
    clear HR1 HM1 HL
    obtain ⟨rfl, HA⟩ := hrel
    go_wp2_with (go_at_call 71; refine (HW.out _ HA.out.2).mono ?_; rintro e w2 ⟨⟨A, cap, rfl, _⟩, hm2⟩; have HM2 := hid hm2; clear hm2)
    go_ret2
    exact ⟨rfl, HA.out.1.mod0 HM2.out, HA.out.2.andThen (HM2.out.mono (by simp))⟩

set_option maxHeartbeats 16000000 in
/-- One frame waits. -/
theorem turnD_one {mfn n0 n1 s0 : Nat} {fr : List Int} (h : NB w b x d o i s) (sg : SG w m fb x mb kb p bf bpl d gt dp L F f es c) (hv : VH w v m db r) (hr : r ≤ 9000) (hb : Br.BM w s bp bk FP C S) {M : Int} (G : P14.Ok S M) (hM : M ≤ 1152921504606846900)
    (ro : RB w i mfn n0 n0 s0) (hn0 : n0 < 65536) (hn1 : n1 < 65536) (hmf : mfn < 14) (hown : F mfn 0 ≠ -1) (hdf : df n1 n0 ≤ 8) (hdf0 : df n1 n0 ≠ 0) (hp0 : F mfn 4 = ((n1 % 256 : Nat) : Int)) (hp1 : F mfn 5 = ((n1 / 256 : Nat) : Int))
    (hq0 : F mfn (4 + qs n0) = 3) (ap : Apart w FP m fb v db b i) (hdn : d < S.n) (hq : (S.L d).q = [fr]) :
    Calls Tryz.prog 70 #[.pointer (some ⟨v, 0, none⟩), .pointer (some ⟨i, 0, none⟩), .int .i64 8, .func (.func 71) #[.pointer (some ⟨b, 0, none⟩)] #[], .func (.func 72) #[.pointer (some ⟨b, 0, none⟩)] #[]] w fun e w' => e = .returned (.tuple #[.int .i64 1, .int .i64 0]) ∧
      (∃ R, R 2 = 0 ∧ R 3 = ((fr.length : Nat) : Int) ∧ PH w' m fb (wrB (wrB (wrB F dp 0 fr.length (P14.fAt fr)) mfn (rs n0) 8 R) mfn 2 2 (tb (sc n0)))) ∧ RB w' i mfn (sc n0) (sc n0) n1 ∧ Af w w' s bp bk FP (P14.doneS S (d : Nat) true) ∧ Tn.Mod (fb :: v :: i :: FP) w w' := by
  have hfrk := G.fr d hdn fr (by rw [hq]; simp)
  obtain ⟨hl2, hl8, _⟩ := hfrk
  obtain ⟨e0, ev⟩ := headE_one hdn hq
  have hdq := done_q hdn hq true
  obtain ⟨e6, ev6⟩ := headE_nil (S := P14.doneS S (d : Nat) true) (d := d) (by rw [hdq.2]; exact hdn) hdq.1
  have G2 := P14.ok_done G (d : Nat) true
  have HL := hid (look_f ro hv sg.ph (by omega) hn0 hmf n1 hn1 hdf hp0 hp1)
  have hov : i ≠ v := Blk.ne_ ro hv.blk (by decide)
  have hob : i ≠ b := Blk.ne_ ro h (by decide)
  have hbv : b ≠ v := Blk.ne_ h hv.blk (by decide)
  have hof : i ≠ fb := Blk.ne_ ro sg.ph.fr (by decide)
  have hbf : b ≠ fb := Blk.ne_ h sg.ph.fr (by decide)
  have hT : VR w [v, i] := fun t ht => by
    rcases List.mem_cons.1 ht with rfl | ht
    · exact ⟨_, _, hv.blk, .inl rfl⟩
    · obtain rfl := List.mem_singleton.1 ht
      exact ⟨_, _, ro, .inr (.inl rfl)⟩
  have SSG := hid fun (W : World) (hm : Tn.Mod [v, i] w W) => sg.modT hm hT
  have SNB := hid fun (W : World) (hm : Tn.Mod [v, i] w W) => h.mod hm (by simpa using And.intro hbv hob.symm)
  have SBM := hid fun (W : World) (hm : Tn.Mod [v, i] w W) => hb.same hm (fun t ht e => by
    rcases List.mem_cons.1 e with rfl | e
    · exact ap.v ht
    · exact ap.o (List.mem_singleton.1 e ▸ ht))
  have HG := hid G
  have HG2 := hid G2
  have HE0 := hid e0
  have HEV := hid ev
  have HE6 := hid (And.intro e6 ev6)
  have AP := hid ap
  have HQ := hid hq0
  have HNE := hid (And.intro hov (And.intro hob (And.intro hbv (And.intro hof hbf))))
  have HNN := hid (And.intro hn0 (And.intro hmf (And.intro hown (And.intro hn1 (And.intro hr (And.intro hM (And.intro hdf (And.intro hdf0 (And.intro hl2 hl8)))))))))
  have HNB := hid h
  have HMV := hid (And.intro (sg.ph.blk.ne_ hv.blk (by decide)) (And.intro (sg.ph.fr.ne_ hv.blk (by decide)) (sg.ph.blk.ne_ sg.ph.fr (by decide))))
  have HOLDN := hid hb.rows.old
  have HLV := hid (And.intro hv.blk.lt (And.intro hv.mm.lt (And.intro sg.ph.fr.lt (And.intro sg.ph.blk.lt (And.intro (Blk.lt ro) (Blk.lt h))))))
  clear h sg hv hr hb G G2 hM ro hn0 hn1 hmf hown hdf hdf0 hp0 hp1 hq0 ap hov hob hbv hof hbf hT hdn hq hdq e0 ev e6 ev6 hl2 hl8
  generalize df n1 n0 = dd at HL
  go_enter Tryz.func70, Tryz.ntmps70
  go_wp2_with (go_at_call 64; refine HL.out.mono ?_; rintro e w1 ⟨rfl, hr1, hv1, hp1', hm1⟩; have HR1 := hid hr1; have HV1 := hid hv1; have HP1 := hid hp1'; have HM1 := hid hm1; clear hr1 hv1 hp1' hm1)
  go_loopw [34] (fun t wr => (t = .int .i64 0 ∧ Hid (RB wr i mfn n0 n0 n1 ∧ VH wr v m db (r + 1) ∧ PH wr m fb F ∧ Tn.Mod [v, i] w wr)) ∨
      (t = .int .i64 1 ∧ Hid ((∃ R, R 2 = 0 ∧ R 3 = ((fr.length : Nat) : Int) ∧ PH wr m fb (wrB (wrB (wrB F dp 0 fr.length (P14.fAt fr)) mfn (rs n0) 8 R) mfn 2 2 (tb (sc n0)))) ∧ RB wr i mfn (sc n0) (sc n0) n1 ∧ Af w wr s bp bk FP (P14.doneS S (d : Nat) true) ∧ Tn.Mod (fb :: v :: i :: FP) w wr))) (fun t _ => 8 - (intOf t).toNat)
  case atStart => exact .inl ⟨rfl, hid ⟨HR1.out, HV1.out, HP1.out, HM1.out⟩⟩
  case round =>
    clear HR1 HV1 HP1 HM1 HL
    rcases hrel with ⟨rfl, HA⟩ | ⟨rfl, HA⟩
    · have HW := hid (waitn_f (SNB.out _ HA.out.2.2.2) (SBM.out _ HA.out.2.2.2) HG.out)
      rw [HE0.out, HEV.out] at HW
      have HTk := hid fun (W : World) (hm : Tn.Mod [] wr W) => take_f (HA.out.1.mod0 hm) (HA.out.2.1.mod0 hm) (HA.out.2.2.1.mod0 hm) (by have := HNN.out.2.2.2.2.1; omega) HNN.out.1 HNN.out.1 HNN.out.2.2.2.1 HNN.out.2.1 HNN.out.2.2.2.2.2.2.2.1 (by have := HNN.out.1; unfold df; omega)
      go_wp2_with (first
        | (go_at_call 71; refine HW.out.mono ?_; rintro e w2 ⟨⟨A, cap, rfl, hby⟩, hm2⟩; have HM2 := hid hm2; have HBY := hid hby; clear hm2 hby)
        | (go_at_call 65; refine (HTk.out _ HM2.out).mono ?_; rintro e w3 ⟨q, hq, rfl, hb3, hr3, hv3, hp3, hm3⟩
           have HB3 := hid hb3; have HR3 := hid hr3; have HV3 := hid hv3; have HP3 := hid hp3; have HM3 := hid ((HA.out.2.2.2.andThen (HM2.out.mono (T := [v, i]) (by simp))).andThen hm3)
           have hqw : w.heap.size ≤ q := by have h1 := HA.out.2.2.2.size; have h2 := HM2.out.size; omega
           have hqv : q ≠ v := by have := HLV.out.1; omega
           have hqf : q ≠ fb := by have := HLV.out.2.2.1; omega
           have hs0 : w3.cell? ⟨q, 0, none⟩ = some (.int .u8 3) := (hb3.at_ 0 (by omega)).trans (congrArg (fun z => some (Value.int .u8 z)) HQ.out)
           have hl0 : 0 < fr.length := by have := HNN.out.2.2.2.2.2.2.2.2.1; omega
           have hA3 : P14.Bytes w3 A fr := HBY.out.mod hm3 (fun t ht e => by
             cases A with
             | none => simp [blkOf] at ht
             | some a =>
               obtain ⟨g, off, sp⟩ := a
               obtain ⟨g', off', he, _, _⟩ := HBY.out.2 hl0
               injection he with he
               injection he with e1 e2 e3
               subst e1 e2 e3
               simp [blkOf] at ht
               subst ht
               rcases List.mem_cons.1 e with e | e
               · exact bytes_ne HBY.out hl0 (HA.out.2.1.mod0 HM2.out).blk (by simp [noU8]) _ _ rfl e
               · exact bytes_ne HBY.out hl0 (HA.out.1.mod0 HM2.out) (by simp [noU8]) _ _ rfl (List.mem_singleton.1 e))
           have HDv := hid (ndeliver_f (SNB.out _ HM3.out) (SSG.out _ HM3.out) hv3 (by have := HNN.out.2.2.2.2.1; omega) (SBM.out _ HM3.out) HG.out (by have := HNN.out.2.2.2.2.2.1; omega) q 16 cap A fr HE0.out (by have := HNN.out.2.2.2.2.2.2.2.2.2; omega) hA3 (bytes_ne hA3 hl0 hv3.blk (by simp [noU8])) hs0 hqv hqf AP.out.v AP.out.db AP.out.b AP.out.fb AP.out.m)
           have HQW := hid (And.intro hqw (And.intro hqv hqf))
           clear hq hb3 hr3 hv3 hp3 hm3 hqw hqv hqf hs0 hl0 hA3)
        | (go_at_call 72; refine HDv.out.mono ?_; rintro e w4 ⟨rfl, hp4, haf, hv4, hm4⟩
           have HAF := hid haf
           have HP4 := hid hp4
           have HV4 := hid hv4
           have HM4 := hid hm4
           clear haf hv4 hm4 hp4))
      have hqF : q ∉ fb :: v :: FP := by
        have h1 := HQW.out
        intro e
        rcases List.mem_cons.1 e with e | e
        · exact h1.2.2 e
        rcases List.mem_cons.1 e with e | e
        · exact h1.2.1 e
        · have h3 := HOLDN.out q e
          omega
      have e4 : w4.cell? ⟨q, 4, none⟩ = some (.int .u8 (F mfn (4 + qs n0 + 4))) := (HM4.out.cell (p := ⟨q, 4, none⟩) (cell_lt (HB3.out.at_ 4 (by omega))) hqF).trans (HB3.out.at_ 4 (by omega))
      have e5 : w4.cell? ⟨q, 5, none⟩ = some (.int .u8 (F mfn (4 + qs n0 + 5))) := (HM4.out.cell (p := ⟨q, 5, none⟩) (cell_lt (HB3.out.at_ 5 (by omega))) hqF).trans (HB3.out.at_ 5 (by omega))
      obtain ⟨s4, hs4⟩ : ∃ z, F mfn (4 + qs n0 + 4) = z := ⟨_, rfl⟩
      obtain ⟨s5, hs5⟩ : ∃ z, F mfn (4 + qs n0 + 5) = z := ⟨_, rfl⟩
      rw [hs4] at e4
      rw [hs5] at e5
      have hsw : IntKind.u8.wrap ((fr.length : Nat) : Int) = ((fr.length : Nat) : Int) := by have := HNN.out.2.2.2.2.2.2.2.2.2; rw [IntKind.wrap_u8]; omega
      have h0w : IntKind.u8.wrap 0 = 0 := by decide
      have HR4 := hid (HR3.out.mod HM4.out (by simpa using And.intro HNE.out.2.2.2.1 (And.intro HNE.out.1 AP.out.o)))
      have HAn := hid fun (W : World) (g : Nat) (G : Nat → Int) (hm : Tn.Mod [] w4 W) (hB : Bys W (some ⟨g, 0, none⟩) 8 G) => answer_f (cp := 8) (HR4.out.mod0 hm) (HV4.out.mod0 hm) (HP4.out.mod0 hm) (sc_lt n0) HNN.out.1 HNN.out.2.1 (by unfold wrB; rw [if_neg (by omega)]; exact HNN.out.2.2.1) (by have := HNN.out.1; unfold df sc; omega) (some ⟨g, 0, none⟩) G hB
      have hd4 : Tn.Mod [] w4 (w4.alloc (.cells #[.int .i64 0, .int .i64 (fr.length : Nat)] 153)).drew := ((Mod.refl [] w4).alloc _).drew
      have hbk := (Blk.new w4 153 #[.int .i64 0, .int .i64 (fr.length : Nat)]).mod ((Mod.refl [] _).drew) (by simp)
      have c0 := hbk.cell 0
      have c1 := hbk.cell 1
      simp only [List.getElem?_toArray, List.getElem?_cons_zero, List.getElem?_cons_succ] at c0 c1
      have HS4 := hid (And.intro ((hd4.cell (p := ⟨q, 4, none⟩) (cell_lt e4) (by simp)).trans e4) (And.intro ((hd4.cell (p := ⟨q, 5, none⟩) (cell_lt e5) (by simp)).trans e5) (And.intro c0 c1)))
      have g4 := fun o => ((((Mod.refl [] w4).alloc (.cells #[.int .i64 0, .int .i64 (fr.length : Nat)] 153)).alloc o).drew.cell (p := ⟨q, 4, none⟩) (cell_lt e4) (by simp)).trans e4
      have g5 := fun o => ((((Mod.refl [] w4).alloc (.cells #[.int .i64 0, .int .i64 (fr.length : Nat)] 153)).alloc o).drew.cell (p := ⟨q, 5, none⟩) (cell_lt e5) (by simp)).trans e5
      have hAB := (an_bys (w4.alloc (.cells #[.int .i64 0, .int .i64 (fr.length : Nat)] 153)) s4 s5 0 (fr.length : Nat)).mod ((Mod.refl [] _).drew) (by simp)
      rw [World.size_alloc] at hAB
      have HC := hid (HAn.out _ _ _ (((Mod.refl [] w4).alloc (.cells #[.int .i64 0, .int .i64 (fr.length : Nat)] 153)).alloc (.cells #[.int .u8 s4, .int .u8 s5, .int .u8 0, .int .u8 (fr.length : Nat), .int .u8 0, .int .u8 0, .int .u8 0, .int .u8 0] 5)).drew hAB)
      clear hAB
      have HE45 := hid (And.intro e4 e5)
      clear hd4 hbk c0 c1 hqF e4 e5 hs4 hs5
      go_region_held3 (fun w' => w'.cell? ⟨q, 4, none⟩ = some (.int .u8 s4) ∧ w'.cell? ⟨q, 5, none⟩ = some (.int .u8 s5) ∧ w'.cell? ⟨w4.heap.size, 0, none⟩ = some (.int .i64 0) ∧ w'.cell? ⟨w4.heap.size, 1, none⟩ = some (.int .i64 (fr.length : Nat))) (first | exact HS4.out | go_keep)
        (first
          | (go_at_call 66
             refine HC.out.mono ?_
             rintro e w6 ⟨rfl, hp6, hr6, hv6, hm6⟩
             have hm46 : Tn.Mod [fb, i] w4 w6 := ((((Mod.refl [fb, i] w4).alloc (.cells #[.int .i64 0, .int .i64 (fr.length : Nat)] 153)).alloc _).drew).andThen hm6
             have hbk6 := (Blk.new w4 153 #[.int .i64 0, .int .i64 (fr.length : Nat)]).mod (((((Mod.refl [fb, i] (w4.alloc (.cells #[.int .i64 0, .int .i64 (fr.length : Nat)] 153))).alloc _).drew).andThen hm6)) (by have h1 := HLV.out; have h2 := HM4.out.size; have h3 := HM3.out.size; simp; omega)
             have y0 := hbk6.cell 0
             have y1 := hbk6.cell 1
             simp only [List.getElem?_toArray, List.getElem?_cons_zero, List.getElem?_cons_succ] at y0 y1
             have hqn : q ∉ [fb, i] := by have h1 := HLV.out; have h2 := HQW.out.1; simp; omega
             have z4 := (hm46.cell (p := ⟨q, 4, none⟩) (cell_lt HE45.out.1) hqn).trans HE45.out.1
             have z5 := (hm46.cell (p := ⟨q, 5, none⟩) (cell_lt HE45.out.2) hqn).trans HE45.out.2
             have HP6 := hid hp6
             have HR6 := hid hr6
             have HM46 := hid hm46
             clear hp6 hr6 hv6 hm46 hm6 hbk6 hqn))
      clear g4 g5
      go_wp2
      have hmod : Tn.Mod (fb :: v :: i :: FP) w w6 := by
        refine ((HM3.out.mono (T := fb :: v :: i :: FP) (by simp)).andThen (HM4.out.mono (fun t ht => .inl ?_))).andThen (HM46.out.mono (by simp))
        rcases List.mem_cons.1 ht with rfl | ht
        · simp
        rcases List.mem_cons.1 ht with rfl | ht
        · simp
        · simp [ht]
      have haf : Af w w6 s bp bk FP (P14.doneS S (d : Nat) true) := by
        obtain ⟨FP', C', hb4, hup, hnew⟩ := HAF.out
        have h1 := HLV.out
        have h2 := HM3.out.size
        refine ⟨FP', C', hb4.same HM46.out (fun t ht e => ?_), hup, fun t ht => ?_⟩
        · simp at e
          rcases hnew t ht with h3 | h3
          · rcases e with rfl | rfl
            · exact AP.out.fb h3
            · exact AP.out.o h3
          · rcases e with rfl | rfl <;> omega
        · rcases hnew t ht with h3 | h3
          · exact .inl h3
          · exact .inr (by omega)
      exact ⟨.inr ⟨rfl, hid ⟨⟨an s4 s5 0 (fr.length : Nat), rfl, rfl, HP6.out⟩, HR6.out, haf, hmod⟩⟩, by simp [intOf]⟩
    · obtain ⟨FP', C', hb4, hup, hnew⟩ := HA.out.2.2.1
      have hbn : b ∉ fb :: v :: i :: FP := by simpa using And.intro HNE.out.2.2.2.2 (And.intro HNE.out.2.2.1 (And.intro HNE.out.2.1.symm AP.out.b))
      have HW := hid (waitn_f (HNB.out.mod HA.out.2.2.2 hbn) hb4 HG2.out)
      rw [HE6.out.1, HE6.out.2] at HW
      clear hb4 hup hnew hbn
      go_wp2_with (go_at_call 71; refine HW.out.mono ?_; rintro e w2 ⟨⟨A, cap, rfl, _⟩, hm2⟩; have HM2 := hid hm2; clear hm2)
      go_ret2
      obtain ⟨⟨R, hR2, hR3, hp⟩, hro, ⟨FP', C', hb4, hup, hnew⟩, hmd⟩ := HA.out
      exact ⟨rfl, ⟨R, hR2, hR3, hp.mod0 HM2.out⟩, hro.mod0 HM2.out, ⟨FP', C', hb4.newer HM2.out, hup, hnew⟩, hmd.andThen (HM2.out.mono (by simp))⟩

set_option maxHeartbeats 4000000 in
theorem deliver_no {mfn n0 n1 s0 : Nat} (h : NB w b x d o i s) (sg : SG w m fb x mb kb p bf bpl d gt dp L F f es c) (hv : VH w v m db r) (hr : r ≤ 9000) (hb : Br.BM w s bp bk FP C S) {M : Int} (G : P14.Ok S M)
    (ro : RB w i mfn n0 n0 s0) (hn0 : n0 < 65536) (hn1 : n1 < 65536) (hmf : mfn < 14) (hdf : df n1 n0 ≤ 8) (hp0 : F mfn 4 = ((n1 % 256 : Nat) : Int)) (hp1 : F mfn 5 = ((n1 / 256 : Nat) : Int)) (hvF : v ∉ FP) (hiF : i ∉ FP) (hdn : d < S.n) (hq : (S.L d).q = []) :
    Calls Tryz.prog 55 #[.pointer (some ⟨b, 0, none⟩), .pointer (some ⟨v, 0, none⟩), .int .i64 8] w fun e w' => e = .returned (.tuple #[.int .i64 0, .int .i64 0]) ∧ RB w' i mfn n0 n0 n1 ∧ Tn.Mod [v, i] w w' := by
  obtain ⟨c0, c1, c2, c3, c4, c5, c6⟩ := h.cells
  have HT := hid (turnD_no h sg hv hr hb G ro hn0 hn1 hmf hdf hp0 hp1 hvF hiF hdn hq)
  have HB := hid h
  have HV := hid hv
  clear h sg hv hr hb G ro hn0 hn1 hmf hdf hp0 hp1 hvF hiF hdn hq
  go_enter Tryz.func55, Tryz.ntmps55
  go_wp2_with (first
    | (go_at_call 46; refine (nbnone_f HB.out).mono ?_; rintro e w' ⟨rfl, rfl⟩)
    | (go_at_call 47; refine (vmachine_f HV.out).mono ?_; rintro e w' ⟨rfl, rfl⟩)
    | (go_at_call 70; refine HT.out.mono ?_; rintro e w2 ⟨rfl, h2⟩; have H2 := hid h2; clear h2))
  go_ret2
  exact ⟨rfl, H2.out⟩

set_option maxHeartbeats 4000000 in
theorem deliver_one {mfn n0 n1 s0 : Nat} {fr : List Int} (h : NB w b x d o i s) (sg : SG w m fb x mb kb p bf bpl d gt dp L F f es c) (hv : VH w v m db r) (hr : r ≤ 9000) (hb : Br.BM w s bp bk FP C S) {M : Int} (G : P14.Ok S M) (hM : M ≤ 1152921504606846900)
    (ro : RB w i mfn n0 n0 s0) (hn0 : n0 < 65536) (hn1 : n1 < 65536) (hmf : mfn < 14) (hown : F mfn 0 ≠ -1) (hdf : df n1 n0 ≤ 8) (hdf0 : df n1 n0 ≠ 0) (hp0 : F mfn 4 = ((n1 % 256 : Nat) : Int)) (hp1 : F mfn 5 = ((n1 / 256 : Nat) : Int))
    (hq0 : F mfn (4 + qs n0) = 3) (ap : Apart w FP m fb v db b i) (hdn : d < S.n) (hq : (S.L d).q = [fr]) :
    Calls Tryz.prog 55 #[.pointer (some ⟨b, 0, none⟩), .pointer (some ⟨v, 0, none⟩), .int .i64 8] w fun e w' => e = .returned (.tuple #[.int .i64 1, .int .i64 0]) ∧
      (∃ R, R 2 = 0 ∧ R 3 = ((fr.length : Nat) : Int) ∧ PH w' m fb (wrB (wrB (wrB F dp 0 fr.length (P14.fAt fr)) mfn (rs n0) 8 R) mfn 2 2 (tb (sc n0)))) ∧ RB w' i mfn (sc n0) (sc n0) n1 ∧ Af w w' s bp bk FP (P14.doneS S (d : Nat) true) ∧ Tn.Mod (fb :: v :: i :: FP) w w' := by
  obtain ⟨c0, c1, c2, c3, c4, c5, c6⟩ := h.cells
  have HT := hid (turnD_one h sg hv hr hb G hM ro hn0 hn1 hmf hown hdf hdf0 hp0 hp1 hq0 ap hdn hq)
  have HB := hid h
  have HV := hid hv
  clear h sg hv hr hb G hM ro hn0 hn1 hmf hown hdf hdf0 hp0 hp1 hq0 ap hdn hq
  generalize P14.doneS S (d : Nat) true = ss at HT ⊢
  go_enter Tryz.func55, Tryz.ntmps55
  go_wp2_with (first
    | (go_at_call 46; refine (nbnone_f HB.out).mono ?_; rintro e w' ⟨rfl, rfl⟩)
    | (go_at_call 47; refine (vmachine_f HV.out).mono ?_; rintro e w' ⟨rfl, rfl⟩)
    | (go_at_call 70; refine HT.out.mono ?_; rintro e w2 ⟨rfl, h2⟩; have H2 := hid h2; clear h2))
  go_ret2
  exact ⟨rfl, H2.out⟩
end
end Go.Proofs.YtfolppcadckmaaaGreat
