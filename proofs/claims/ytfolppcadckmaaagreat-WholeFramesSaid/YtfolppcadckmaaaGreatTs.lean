/-
  Frames: the network backend: a sending turn: Send.
-/
import Derived.Test.YtfolppcadckmaaaGreatNd
import Derived.Test.YtfolppcadckmaaaGreatRl
import Derived.LoopTactic
namespace Go.Proofs.YtfolppcadckmaaaGreat
open Go.RowKit Go.Tn
open Go.Proofs
set_option maxRecDepth 100000

section
variable {w w' : World} {b x d o i s bp bk : Nat} {FP : List Nat} {C : Nat → Option Addr × Nat} {S : P14.St}
variable {m fb mb kb p bf bpl gt dp v db r : Nat} {L : List Int} {F : Nat → Nat → Int} {f : Int → Option Value} {es : Array MapEntry} {c : Nat}

theorem SG.mod (h : SG w m fb x mb kb p bf bpl d gt dp L F f es c) {T : List Nat} (hm : Tn.Mod T w w') (h1 : m ∉ T) (h2 : fb ∉ T) (h3 : x ∉ T) (h4 : mb ∉ T) (h5 : kb ∉ T) (h6 : p ∉ T) (h7 : bf ∉ T) (h8 : bpl ∉ T) : SG w' m fb x mb kb p bf bpl d gt dp L F f es c :=
  ⟨h.ph.mod hm h1 h2, h.gh.mod hm h3 h4 h5, h.pm.mod hm h6 h7 h8, h.fo, h.lv, h.le, h.d8, h.g14, h.d14, h.og, h.ty, h.ent⟩

/-- Blocks that are views, or rings' ends. -/
def VR (w : World) (T : List Nat) : Prop := ∀ t ∈ T, ∃ ty cs, Blk w t ty cs ∧ (ty = 123 ∨ ty = 147 ∨ ty = 108)
theorem VR.blk {w : World} {T : List Nat} (h : VR w T) {a ty : Nat} {cs : Array Value} (hb : Blk w a ty cs) (hne : ty ≠ 123 ∧ ty ≠ 147 ∧ ty ≠ 108) : a ∉ T := fun ha => by
  obtain ⟨t2, cs2, h2, h3⟩ := h a ha
  have h4 : t2 ≠ ty := by
    rcases h3 with rfl | rfl | rfl
    · exact hne.1.symm
    · exact hne.2.1.symm
    · exact hne.2.2.symm
  exact Blk.ne_ hb h2 h4.symm rfl
theorem VR.map {w : World} {T : List Nat} (h : VR w T) {a : Nat} (hb : IsM w a) : a ∉ T := fun ha => by
  obtain ⟨t2, cs2, h2, _⟩ := h a ha
  exact h2.ne_map hb.imap rfl
theorem VR.mapC {w : World} {T : List Nat} (h : VR w T) {a : Nat} {es : Array MapEntry} {c : Nat} (hb : w.heap[a]? = some (.map es c)) : a ∉ T := fun ha => by
  obtain ⟨t2, cs2, h2, _⟩ := h a ha
  exact ne_mapC h2 hb rfl
theorem SG.modT (h : SG w m fb x mb kb p bf bpl d gt dp L F f es c) {T : List Nat} (hm : Tn.Mod T w w') (hT : VR w T) : SG w' m fb x mb kb p bf bpl d gt dp L F f es c :=
  h.mod hm (hT.blk h.ph.blk (by decide)) (hT.blk h.ph.fr (by decide)) (hT.blk h.gh.blk (by decide)) (hT.map h.gh.mm) (hT.mapC h.gh.km) (hT.blk h.pm.blk (by decide)) (hT.map h.pm.mf) (hT.map h.pm.mp)

/-- Eight bytes of an answer. -/
def an (s4 s5 st n : Int) (j : Nat) : Int := if j = 0 then s4 else if j = 1 then s5 else if j = 2 then st else if j = 3 then n else 0
theorem an_bys (w : World) (s4 s5 st n : Int) : Bys (w.alloc (.cells #[.int .u8 s4, .int .u8 s5, .int .u8 st, .int .u8 n, .int .u8 0, .int .u8 0, .int .u8 0, .int .u8 0] 5)) (some ⟨w.heap.size, 0, none⟩) 8 (an s4 s5 st n) := fun _ => by
  have hb := Blk.new w 5 #[.int .u8 s4, .int .u8 s5, .int .u8 st, .int .u8 n, .int .u8 0, .int .u8 0, .int .u8 0, .int .u8 0]
  refine ⟨w.heap.size, 0, rfl, hb.lt, fun j hj => ?_⟩
  rw [Nat.zero_add, hb.cell]
  have hj : j = 0 ∨ j = 1 ∨ j = 2 ∨ j = 3 ∨ j = 4 ∨ j = 5 ∨ j = 6 ∨ j = 7 := by omega
  rcases hj with rfl | rfl | rfl | rfl | rfl | rfl | rfl | rfl <;> rfl

/-- What a turn leaves of the switch's footprint. -/
structure Apart (w : World) (FP : List Nat) (m fb v db b o : Nat) : Prop where
  m : m ∉ FP
  fb : fb ∉ FP
  v : v ∉ FP
  db : db ∉ FP
  b : b ∉ FP
  o : o ∉ FP

set_option maxHeartbeats 16000000 in
theorem turnS_f {mfn n0 s0 n : Nat} (h : NB w b x d o i s) (sg : SG w m fb x mb kb p bf bpl d gt dp L F f es c) (hv : VH w v m db r) (hr : r ≤ 9000) (hb : Br.BM w s bp bk FP C S) {M : Int} (G : P14.Ok S M) (hM : M ≤ 1152921504606846976)
    (ro : RB w o mfn n0 n0 s0) (hn0 : n0 < 65536) (hmf : mfn < 14) (hown : F mfn 0 ≠ -1) (hn : n ≤ 255) (hp0 : F mfn 4 = ((sc n0 % 256 : Nat) : Int)) (hp1 : F mfn 5 = ((sc n0 / 256 : Nat) : Int))
    (hq0 : F mfn (4 + qs n0) = 3) (hq1 : F mfn (4 + qs n0 + 1) = 0) (hq2 : F mfn (4 + qs n0 + 2) = (n : Nat)) (ap : Apart w FP m fb v db b o) (hfr : ∀ j, j < n → 0 ≤ F dp (4 + j) ∧ F dp (4 + j) ≤ 255) :
    Calls Tryz.prog 48 #[.pointer (some ⟨v, 0, none⟩), .pointer (some ⟨o, 0, none⟩), .int .i64 8, .func (.func 49) #[] #[], .func (.func 50) #[.pointer (some ⟨b, 0, none⟩)] #[]] w fun e w' => e = .returned (.tuple #[.int .i64 1, .int .i64 0]) ∧
      (∃ R, PH w' m fb (wrB (wrB F mfn (rs n0) 8 R) mfn 2 2 (tb (sc n0)))) ∧ RB w' o mfn (sc n0) (sc n0) (sc n0) ∧ Af w w' s bp bk FP (P14.sendS S (d : Nat) (frOf F dp n)) ∧ Tn.Mod (fb :: v :: o :: FP) w w' := by
  have hd1 : df (sc n0) n0 = 1 := by unfold df sc; omega
  have hL := look_f ro hv sg.ph (by omega) hn0 hmf (sc n0) (sc_lt n0) (by omega) hp0 hp1
  rw [hd1] at hL
  have HL := hid hL
  have hov : o ≠ v := Blk.ne_ ro hv.blk (by decide)
  have hob : o ≠ b := Blk.ne_ ro h (by decide)
  have hbv : b ≠ v := Blk.ne_ h hv.blk (by decide)
  have hof : o ≠ fb := Blk.ne_ ro sg.ph.fr (by decide)
  have hT : VR w [v, o] := fun t ht => by
    rcases List.mem_cons.1 ht with rfl | ht
    · exact ⟨_, _, hv.blk, .inl rfl⟩
    · obtain rfl := List.mem_singleton.1 ht
      exact ⟨_, _, ro, .inr (.inl rfl)⟩
  have SSG := hid fun (W : World) (hm : Tn.Mod [v, o] w W) => sg.modT hm hT
  have SNB := hid fun (W : World) (hm : Tn.Mod [v, o] w W) => h.mod hm (by simpa using And.intro hbv hob.symm)
  have SBM := hid fun (W : World) (hm : Tn.Mod [v, o] w W) => hb.same hm (fun t ht e => by
    rcases List.mem_cons.1 e with rfl | e
    · exact ap.v ht
    · exact ap.o (List.mem_singleton.1 e ▸ ht))
  have HG := hid G
  have AP := hid ap
  have HFR := hid hfr
  have HQ := hid (And.intro hq0 (And.intro hq1 hq2))
  have HNE := hid (And.intro hov (And.intro hob (And.intro hbv hof)))
  have HNN := hid (And.intro hn0 (And.intro hmf (And.intro hown (And.intro hn (And.intro hr hM)))))
  have HNB := hid h
  have HMV := hid (And.intro (sg.ph.blk.ne_ hv.blk (by decide)) (sg.ph.fr.ne_ hv.blk (by decide)))
  have HOLDN := hid hb.rows.old
  have HLV := hid (And.intro hv.blk.lt (And.intro hv.mm.lt (And.intro sg.ph.fr.lt (And.intro sg.ph.blk.lt (Blk.lt ro)))))
  clear hL h sg hv hr hb G hM ro hn0 hmf hown hn hp0 hp1 hq0 hq1 hq2 ap hfr hov hob hbv hof hT hd1
  go_enter Tryz.func48, Tryz.ntmps48
  go_wp2_with (go_at_call 64; refine HL.out.mono ?_; rintro e w1 ⟨rfl, hr1, hv1, hp1', hm1⟩; have HR1 := hid hr1; have HV1 := hid hv1; have HP1 := hid hp1'; have HM1 := hid hm1; clear hr1 hv1 hp1' hm1)
  go_loopw [34] (fun t wr => (t = .int .i64 0 ∧ Hid (RB wr o mfn n0 n0 (sc n0) ∧ VH wr v m db (r + 1) ∧ PH wr m fb F ∧ Tn.Mod [v, o] w wr)) ∨
      (t = .int .i64 1 ∧ Hid ((∃ R, PH wr m fb (wrB (wrB F mfn (rs n0) 8 R) mfn 2 2 (tb (sc n0)))) ∧ RB wr o mfn (sc n0) (sc n0) (sc n0) ∧ (∃ r', VH wr v m db r') ∧ Af w wr s bp bk FP (P14.sendS S (d : Nat) (frOf F dp n)) ∧ Tn.Mod (fb :: v :: o :: FP) w wr))) (fun t _ => 8 - (intOf t).toNat)
  case atStart => exact .inl ⟨rfl, hid ⟨HR1.out, HV1.out, HP1.out, HM1.out⟩⟩
  case round =>
    clear HR1 HV1 HP1 HM1 HL
    rcases hrel with ⟨rfl, HA⟩ | ⟨rfl, HA⟩
    · have HTk := hid fun (W : World) (hm : Tn.Mod [] wr W) => take_f (HA.out.1.mod0 hm) (HA.out.2.1.mod0 hm) (HA.out.2.2.1.mod0 hm) (by have := HNN.out.2.2.2.2.1; omega) HNN.out.1 HNN.out.1 (sc_lt n0) HNN.out.2.1 (by have := HNN.out.1; unfold df sc; omega) (by have := HNN.out.1; unfold df; omega)
      go_wp2_with (first
        | (go_at_call 49; refine (nothing_f _).mono ?_; rintro e w2 ⟨rfl, hm2⟩; have HM2 := hid (hm2.alloc (.cells #[] 135)); clear hm2)
        | (go_at_call 65; refine (HTk.out _ HM2.out).mono ?_; rintro e w3 ⟨q, hq, rfl, hb3, hr3, hv3, hp3, hm3⟩; have HB3 := hid hb3; have HR3 := hid hr3; have HV3 := hid hv3; have HP3 := hid hp3; have HM3 := hid ((HA.out.2.2.2.andThen (HM2.out.mono (T := [v, o]) (by simp))).andThen hm3)
           have hqw : w.heap.size ≤ q := by have h1 := HA.out.2.2.2.size; have h2 := HM2.out.size; omega
           have hqv : q ≠ v := by have := HLV.out.1; omega
           have hs0 : w3.cell? ⟨q, 0, none⟩ = some (.int .u8 3) := (hb3.at_ 0 (by omega)).trans (congrArg (fun z => some (Value.int .u8 z)) HQ.out.1)
           have hs1 : w3.cell? ⟨q, 1, none⟩ = some (.int .u8 0) := (hb3.at_ 1 (by omega)).trans (congrArg (fun z => some (Value.int .u8 z)) HQ.out.2.1)
           have hs2 : w3.cell? ⟨q, 2, none⟩ = some (.int .u8 (n : Nat)) := (hb3.at_ 2 (by omega)).trans (congrArg (fun z => some (Value.int .u8 z)) HQ.out.2.2)
           have HSd := hid (nsend_f (SNB.out _ HM3.out) (SSG.out _ HM3.out) hv3 (by have := HNN.out.2.2.2.2.1; omega) (SBM.out _ HM3.out) HG.out HNN.out.2.2.2.2.2 n q 16 HNN.out.2.2.2.1 ⟨hs0, hs1, hs2⟩ hqv AP.out.v AP.out.db AP.out.b HFR.out)
           have HQW := hid (And.intro hqw hqv)
           clear hq hb3 hr3 hv3 hp3 hm3 hqw hqv hs0 hs1 hs2)
        | (go_at_call 50; refine HSd.out.mono ?_; rintro e w4 ⟨⟨st, rfl, hst⟩, haf, hv4, hm4⟩
           have HAF := hid haf
           have HV4 := hid hv4
           have HM4 := hid hm4
           have HST := hid hst
           clear haf hv4 hm4 hst))
      have hw34 := HM4.out.size
      have hw13 := HM3.out.size
      have hqF : q ∉ v :: FP := by
        have h1 := HQW.out
        intro e
        rcases List.mem_cons.1 e with e | e
        · exact h1.2 e
        · obtain ⟨_, _, hb4, _, _⟩ := HAF.out
          have h2 := (SBM.out _ HM3.out).rows.old q e
          have h3 := HOLDN.out q e
          omega
      have e4 : w4.cell? ⟨q, 4, none⟩ = some (.int .u8 (F mfn (4 + qs n0 + 4))) := (HM4.out.cell (p := ⟨q, 4, none⟩) (cell_lt (HB3.out.at_ 4 (by omega))) hqF).trans (HB3.out.at_ 4 (by omega))
      have e5 : w4.cell? ⟨q, 5, none⟩ = some (.int .u8 (F mfn (4 + qs n0 + 5))) := (HM4.out.cell (p := ⟨q, 5, none⟩) (cell_lt (HB3.out.at_ 5 (by omega))) hqF).trans (HB3.out.at_ 5 (by omega))
      obtain ⟨s4, hs4⟩ : ∃ z, F mfn (4 + qs n0 + 4) = z := ⟨_, rfl⟩
      obtain ⟨s5, hs5⟩ : ∃ z, F mfn (4 + qs n0 + 5) = z := ⟨_, rfl⟩
      rw [hs4] at e4
      rw [hs5] at e5
      obtain ⟨sw, hsw⟩ : ∃ z, IntKind.u8.wrap st = z := ⟨_, rfl⟩
      have h0w : IntKind.u8.wrap 0 = 0 := by decide
      have HR4 := hid (HR3.out.mod HM4.out (by simpa using And.intro HNE.out.1 AP.out.o))
      have HP4 := hid (HP3.out.mod HM4.out (by have h1 := AP.out.m; have h2 := HLV.out; have h3 := HMV.out; simpa using And.intro h3.1 h1) (by have h3 := HMV.out; simpa using And.intro h3.2 AP.out.fb))
      have HAn := hid fun (W : World) (g : Nat) (G : Nat → Int) (hm : Tn.Mod [] w4 W) (hB : Bys W (some ⟨g, 0, none⟩) 8 G) => answer_f (cp := 8) (HR4.out.mod0 hm) (HV4.out.mod0 hm) (HP4.out.mod0 hm) (sc_lt n0) HNN.out.1 HNN.out.2.1 HNN.out.2.2.1 (by have := HNN.out.1; unfold df sc; omega) (some ⟨g, 0, none⟩) G hB
      have hd4 : Tn.Mod [] w4 (w4.alloc (.cells #[.int .i64 st, .int .i64 0] 153)).drew := ((Mod.refl [] w4).alloc _).drew
      have hbk := (Blk.new w4 153 #[.int .i64 st, .int .i64 0]).mod ((Mod.refl [] _).drew) (by simp)
      have c0 := hbk.cell 0
      have c1 := hbk.cell 1
      simp only [List.getElem?_toArray, List.getElem?_cons_zero, List.getElem?_cons_succ] at c0 c1
      have HS4 := hid (And.intro ((hd4.cell (p := ⟨q, 4, none⟩) (cell_lt e4) (by simp)).trans e4) (And.intro ((hd4.cell (p := ⟨q, 5, none⟩) (cell_lt e5) (by simp)).trans e5) (And.intro c0 c1)))
      have g4 := fun o => ((((Mod.refl [] w4).alloc (.cells #[.int .i64 st, .int .i64 0] 153)).alloc o).drew.cell (p := ⟨q, 4, none⟩) (cell_lt e4) (by simp)).trans e4
      have g5 := fun o => ((((Mod.refl [] w4).alloc (.cells #[.int .i64 st, .int .i64 0] 153)).alloc o).drew.cell (p := ⟨q, 5, none⟩) (cell_lt e5) (by simp)).trans e5
      have hAB := (an_bys (w4.alloc (.cells #[.int .i64 st, .int .i64 0] 153)) s4 s5 sw 0).mod ((Mod.refl [] _).drew) (by simp)
      rw [World.size_alloc] at hAB
      have HC := hid (HAn.out _ _ _ (((Mod.refl [] w4).alloc (.cells #[.int .i64 st, .int .i64 0] 153)).alloc (.cells #[.int .u8 s4, .int .u8 s5, .int .u8 sw, .int .u8 0, .int .u8 0, .int .u8 0, .int .u8 0, .int .u8 0] 5)).drew hAB)
      clear hAB
      have HE45 := hid (And.intro e4 e5)
      have HQF := hid hqF
      clear hd4 hbk c0 c1 hqF hw34 hw13 e4 e5 hs4 hs5
      go_region_held3 (fun w' => w'.cell? ⟨q, 4, none⟩ = some (.int .u8 s4) ∧ w'.cell? ⟨q, 5, none⟩ = some (.int .u8 s5) ∧ w'.cell? ⟨w4.heap.size, 0, none⟩ = some (.int .i64 st) ∧ w'.cell? ⟨w4.heap.size, 1, none⟩ = some (.int .i64 0)) (first | exact HS4.out | go_keep)
        (first
          | (go_at_call 66
             refine HC.out.mono ?_
             rintro e w6 ⟨rfl, hp6, hr6, hv6, hm6⟩
             have hm46 : Tn.Mod [fb, o] w4 w6 := ((((Mod.refl [fb, o] w4).alloc (.cells #[.int .i64 st, .int .i64 0] 153)).alloc _).drew).andThen hm6
             have hbk6 := (Blk.new w4 153 #[.int .i64 st, .int .i64 0]).mod (((((Mod.refl [fb, o] (w4.alloc (.cells #[.int .i64 st, .int .i64 0] 153))).alloc _).drew).andThen hm6)) (by have h1 := HLV.out; have h2 := HM4.out.size; have h3 := HM3.out.size; simp; omega)
             have y0 := hbk6.cell 0
             have y1 := hbk6.cell 1
             simp only [List.getElem?_toArray, List.getElem?_cons_zero, List.getElem?_cons_succ] at y0 y1
             have hqn : q ∉ [fb, o] := by have h1 := HLV.out; have h2 := HQW.out.1; simp; omega
             have z4 := (hm46.cell (p := ⟨q, 4, none⟩) (cell_lt HE45.out.1) hqn).trans HE45.out.1
             have z5 := (hm46.cell (p := ⟨q, 5, none⟩) (cell_lt HE45.out.2) hqn).trans HE45.out.2
             have HP6 := hid hp6
             have HR6 := hid hr6
             have HV6 := hid hv6
             have HM46 := hid hm46
             clear hp6 hr6 hv6 hm46 hm6 hbk6 hqn))
      clear g4 g5
      go_wp2
      have hmod : Tn.Mod (fb :: v :: o :: FP) w w6 := by
        refine ((HM3.out.mono (T := fb :: v :: o :: FP) (by simp)).andThen (HM4.out.mono (fun t ht => .inl ?_))).andThen (HM46.out.mono (by simp))
        rcases List.mem_cons.1 ht with rfl | ht
        · simp
        · simp [ht]
      have haf : Af w w6 s bp bk FP (P14.sendS S (d : Nat) (frOf F dp n)) := by
        obtain ⟨FP', C', hb4, hup, hnew⟩ := HAF.out
        have h1 := HLV.out
        have h2 := HM3.out.size
        refine ⟨FP', C', hb4.same HM46.out (fun t ht e => ?_), hup, fun t ht => ?_⟩
        · simp at e
          rcases hnew t ht with h3 | h3
          · rcases e with rfl | rfl
            · exact AP.out.fb h3
            · exact AP.out.o h3
          · rcases e with rfl | rfl <;> omega
        · rcases hnew t ht with h3 | h3
          · exact .inl h3
          · exact .inr (by omega)
      exact ⟨.inr ⟨rfl, hid ⟨⟨_, HP6.out⟩, HR6.out, ⟨_, HV6.out⟩, haf, hmod⟩⟩, by simp [intOf]⟩
    · obtain ⟨r', hvr⟩ := HA.out.2.2.1
      have HTn := hid fun (W : World) (hm : Tn.Mod [] wr W) => take_no (HA.out.2.1.mod0 hm) (hvr.mod0 hm) (sc_lt n0) (sc_lt n0) (df_self (sc_lt n0))
      clear hvr
      go_wp2_with (first
        | (go_at_call 49; refine (nothing_f _).mono ?_; rintro e w2 ⟨rfl, hm2⟩; have HM2 := hid (hm2.alloc (.cells #[] 135)); clear hm2)
        | (go_at_call 65; refine (HTn.out _ HM2.out).mono ?_; rintro e w3 ⟨rfl, hm3⟩; have HM3 := hid (HM2.out.andThen hm3); clear hm3))
      go_ret2
      obtain ⟨⟨R, hp⟩, hro, _, ⟨FP', C', hb4, hup, hnew⟩, hmd⟩ := HA.out
      exact ⟨rfl, ⟨R, hp.mod0 HM3.out⟩, hro.mod0 HM3.out, ⟨FP', C', hb4.newer HM3.out, hup, hnew⟩, hmd.andThen (HM3.out.mono (by simp))⟩

set_option maxHeartbeats 4000000 in
/-- 'Send', of one request. -/
theorem send_f {mfn n0 s0 n i2 : Nat} (h : NB w b x d o i2 s) (sg : SG w m fb x mb kb p bf bpl d gt dp L F f es c) (hv : VH w v m db r) (hr : r ≤ 9000) (hb : Br.BM w s bp bk FP C S) {M : Int} (G : P14.Ok S M) (hM : M ≤ 1152921504606846976)
    (ro : RB w o mfn n0 n0 s0) (hn0 : n0 < 65536) (hmf : mfn < 14) (hown : F mfn 0 ≠ -1) (hn : n ≤ 255) (hp0 : F mfn 4 = ((sc n0 % 256 : Nat) : Int)) (hp1 : F mfn 5 = ((sc n0 / 256 : Nat) : Int))
    (hq0 : F mfn (4 + qs n0) = 3) (hq1 : F mfn (4 + qs n0 + 1) = 0) (hq2 : F mfn (4 + qs n0 + 2) = (n : Nat)) (ap : Apart w FP m fb v db b o) (hfr : ∀ j, j < n → 0 ≤ F dp (4 + j) ∧ F dp (4 + j) ≤ 255) :
    Calls Tryz.prog 19 #[.pointer (some ⟨b, 0, none⟩), .pointer (some ⟨v, 0, none⟩), .int .i64 8] w fun e w' => e = .returned (.tuple #[.int .i64 1, .int .i64 0]) ∧
      (∃ R, PH w' m fb (wrB (wrB F mfn (rs n0) 8 R) mfn 2 2 (tb (sc n0)))) ∧ RB w' o mfn (sc n0) (sc n0) (sc n0) ∧ Af w w' s bp bk FP (P14.sendS S (d : Nat) (frOf F dp n)) ∧ Tn.Mod (fb :: v :: o :: FP) w w' := by
  obtain ⟨c0, c1, c2, c3, c4, c5, c6⟩ := h.cells
  have HT := hid (turnS_f h sg hv hr hb G hM ro hn0 hmf hown hn hp0 hp1 hq0 hq1 hq2 ap hfr)
  have HB := hid h
  have HV := hid hv
  clear h sg hv hr hb G hM ro hn0 hmf hown hn hp0 hp1 hq0 hq1 hq2 ap hfr
  generalize P14.sendS S (d : Nat) (frOf F dp n) = ss at HT ⊢
  go_enter Tryz.func19, Tryz.ntmps19
  go_wp2_with (first
    | (go_at_call 46; refine (nbnone_f HB.out).mono ?_; rintro e w' ⟨rfl, rfl⟩)
    | (go_at_call 47; refine (vmachine_f HV.out).mono ?_; rintro e w' ⟨rfl, rfl⟩)
    | (go_at_call 48; refine HT.out.mono ?_; rintro e w2 ⟨rfl, h2⟩; have H2 := hid h2; clear h2))
  go_ret2
  exact ⟨rfl, H2.out⟩
end
end Go.Proofs.YtfolppcadckmaaaGreat
