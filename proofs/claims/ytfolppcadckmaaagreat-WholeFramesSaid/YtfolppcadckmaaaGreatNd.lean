/-
  Frames: the network backend: deliver.
-/
import Derived.Test.YtfolppcadckmaaaGreatNs
namespace Go.Proofs.YtfolppcadckmaaaGreat
open Go.RowKit Go.Tn
open Go.Proofs
set_option maxRecDepth 100000

section
variable {w w' : World} {b x d o i s bp bk : Nat} {FP : List Nat} {C : Nat → Option Addr × Nat} {S : P14.St}
variable {m fb mb kb p bf bpl gt dp v db r : Nat} {L : List Int} {F : Nat → Nat → Int} {f : Int → Option Value} {es : Array MapEntry} {c : Nat}

theorem bys_of {w : World} {A : Option Addr} {fr : List Int} (h : P14.Bytes w A fr) : Bys w A fr.length (P14.fAt fr) := fun h0 => by
  obtain ⟨b, off, e, hl, hc⟩ := h.2 h0
  exact ⟨b, off, e, hl, fun j hj => hc j _ (Br.fAt_get hj)⟩

set_option maxHeartbeats 8000000 in
/-- 'deliver': the first frame that waits is laid into the front's page. -/
theorem ndeliver_f (h : NB w b x d o i s) (sg : SG w m fb x mb kb p bf bpl d gt dp L F f es c) (hv : VH w v m db r) (hr : r ≤ 99999) (hb : Br.BM w s bp bk FP C S) {M : Int} (G : P14.Ok S M) (hM : M ≤ 1152921504606846976)
    (q cp cf : Nat) (A : Option Addr) (fr : List Int) (hhd : P14.headE S (d : Nat) = 0) (hfl : fr.length ≤ 255) (hA : P14.Bytes w A fr) (hAv : ∀ g off, A = some ⟨g, off, none⟩ → g ≠ v)
    (hsl : w.cell? ⟨q, 0, none⟩ = some (.int .u8 3)) (hqv : q ≠ v) (hqf : q ≠ fb) (hvF : v ∉ FP) (hdF : db ∉ FP) (hbF : b ∉ FP) (hfF : fb ∉ FP) (hmF : m ∉ FP) :
    Calls Tryz.prog 72 #[.pointer (some ⟨b, 0, none⟩), .pointer (some ⟨v, 0, none⟩), .slice (some ⟨q, 0, none⟩) 16 cp, .slice A fr.length cf] w fun e w' => e = .returned (.agg #[.int .i64 0, .int .i64 (fr.length : Nat)]) ∧
      PH w' m fb (wrB F dp 0 fr.length (P14.fAt fr)) ∧ Af w w' s bp bk FP (P14.doneS S (d : Nat) true) ∧ VH w' v m db (r + 1) ∧ Tn.Mod (fb :: v :: FP) w w' := by
  obtain ⟨c0, c1, c2, c3, c4, c5, c6⟩ := h.cells
  have hbv : b ≠ v := Blk.ne_ h hv.blk (by decide)
  have hbf : b ≠ fb := Blk.ne_ h sg.ph.fr (by decide)
  have hfv := hv.ne sg.ph
  have hmf : m ≠ fb := sg.ph.blk.ne_ sg.ph.fr (by decide)
  have hnI : (fr.length : Int) ≤ 255 := by omega
  obtain ⟨w1, hw1⟩ : ∃ w1, w.alloc (.cells #[.int .i64 0, .int .i64 0] 153) = w1 := ⟨_, rfl⟩
  have hm1 : Tn.Mod [] w w1 := by rw [← hw1]; exact (Mod.refl [] w).alloc _
  have hrs : Blk w1 w.heap.size 153 #[.int .i64 0, .int .i64 0] := by rw [← hw1]; exact Blk.new w 153 _
  have HP := hid fun (W : World) (hm : Tn.Mod [] w W) => push_f (sg.mod0 hm) (hv.mod0 hm) hr fr.length cf hfl A (P14.fAt fr) ((bys_of hA).mod hm (by simp)) hAv
  have HB := hid fun (W : World) (hm : Tn.Mod [fb, v] w W) => Br.done_f (hb.same hm (fun t ht e => by
    simp at e
    rcases e with e | e
    · exact hfF (e ▸ ht)
    · exact hvF (e ▸ ht))) G hM (d : Nat) true
  rw [hhd] at HB
  have H := hid h
  have HV := hid hv
  have HQ := hid (show (∀ W, Tn.Mod [fb, v] w W → W.cell? ⟨q, 0, none⟩ = some (.int .u8 3)) from fun W hm => (hm.cell (p := ⟨q, 0, none⟩) (cell_lt hsl) (by simpa using And.intro hqf hqv)).trans hsl)
  have HNE := hid (And.intro hbv (And.intro hbf (And.intro hvF (And.intro hdF (And.intro hbF (And.intro hfF hmF))))))
  have HFV := hid (And.intro hfv hmf)
  have HM1 := hid hm1
  have HRS := hid hrs
  have HLV := hid (And.intro hv.blk.lt (And.intro hv.mm.lt (And.intro sg.ph.fr.lt sg.ph.blk.lt)))
  have HOLD := hid hb.rows.old
  generalize P14.doneS S (d : Nat) true = ss at HB ⊢
  generalize P14.fAt fr = fa at HP ⊢
  generalize fr.length = n at HP hnI ⊢
  subst hw1
  clear h sg hv hr hb G hM hfl hqv hqf hvF hdF hbF hfF hmF hbv hbf hfv hmf hm1 hrs hsl hA hAv hhd
  have wr3 : IntKind.i64.wrap 3 = 3 := by decide
  go_enter Tryz.func72, Tryz.ntmps72
  go_wp2
  have s1 := (H.out.mod0 (HM1.out.drew)).cells
  have s2 := HQ.out _ (HM1.out.drew.mono (T := [fb, v]) (by simp))
  have HS1 := hid (And.intro s1.1 (And.intro s1.2.1 (And.intro s1.2.2.1 s2)))
  clear s1 s2
  go_region_held3 (fun w' => w'.cell? ⟨b, 0, none⟩ = some (.pointer (some ⟨x, 0, none⟩)) ∧ w'.cell? ⟨b, 1, none⟩ = some (.int .i64 3) ∧ w'.cell? ⟨b, 2, none⟩ = some (.int .i64 (d : Nat)) ∧ w'.cell? ⟨q, 0, none⟩ = some (.int .u8 3)) (first | exact HS1.out | go_keep)
    (first
      | (go_at_call 83; refine (HP.out _ (HM1.out.drew)).mono ?_; rintro e w5 ⟨rfl, hp5, hv5, hm5⟩
         have hm15 : Tn.Mod [fb, v] w w5 := (HM1.out.drew.mono (T := [fb, v]) (by simp)).andThen hm5
         have h5 := H.out.mod hm15 (by simpa using And.intro HNE.out.2.1 HNE.out.1)
         have HV5 := hid hv5
         have HP5 := hid hp5
         have HM5 := hid hm15
         have hr5 := HRS.out.mod (((Mod.refl [fb, v] _).drew).andThen hm5) (by have := HLV.out; simp; omega)
         have HR5 := hid hr5
         obtain ⟨d0, d1, d2, d3, d4, d5, d6⟩ := h5.cells
         have e0 := HQ.out _ hm15
         have y0 := hr5.cell 0
         have y1 := hr5.cell 1
         simp only [List.getElem?_toArray, List.getElem?_cons_zero, List.getElem?_cons_succ] at y0 y1
         have fz5 := hr5.frozen
         have lz5 := hr5.lt
         clear h5 hm5 hm15 hv5 hp5 hr5))
  go_wp2
  have HS5 := hid (show w5.drew.cell? ⟨b, 5, none⟩ = some (.pointer (some ⟨s, 0, none⟩)) ∧ w5.drew.cell? ⟨b, 6, none⟩ = some (.int .i64 (d : Nat)) from ⟨(((Mod.refl [] w5).drew).cell (p := ⟨b, 5, none⟩) (cell_lt d5) (by simp)).trans d5, (((Mod.refl [] w5).drew).cell (p := ⟨b, 6, none⟩) (cell_lt d5) (by simp)).trans d6⟩)
  have hres : ∀ t ∈ FP, t ≠ w.heap.size := fun t ht e => by have := HOLD.out t ht; omega
  have HRES := hid hres
  clear hres e0
  go_region_held3 (fun w' => w'.cell? ⟨b, 5, none⟩ = some (.pointer (some ⟨s, 0, none⟩)) ∧ w'.cell? ⟨b, 6, none⟩ = some (.int .i64 (d : Nat))) (first | exact HS5.out | go_keep)
    (first
      | (go_at_call 84; refine (HB.out _ (HM5.out.drew)).mono ?_
         rintro e w7 ⟨rfl, FP', C', hb7, hs7⟩
         have hm57 : Tn.Mod FP w5 w7 := ((Mod.refl FP w5).drew).andThen hs7.mod
         have hm17 : Tn.Mod (fb :: v :: FP) w w7 := (HM5.out.mono (T := fb :: v :: FP) (by simp)).andThen (hm57.mono (fun t ht => .inl (List.mem_cons_of_mem _ (List.mem_cons_of_mem _ ht))))
         have h7 := H.out.mod hm17 (by simpa using And.intro HNE.out.2.1 (And.intro HNE.out.1 HNE.out.2.2.2.2.1))
         obtain ⟨k0, k1, k2, k3, k4, k5, k6⟩ := h7.cells
         have hr7 := HR5.out.mod hm57 (fun e => HRES.out _ e rfl)
         have HV7 := hid (HV5.out.mod hm57 HNE.out.2.2.1 HNE.out.2.2.2.1)
         have HP7 := hid (HP5.out.mod hm57 HNE.out.2.2.2.2.2.2 HNE.out.2.2.2.2.2.1)
         have HM7 := hid hm17
         have HB7 := hid hb7
         have HS7 := hid hs7
         have HR7 := hid hr7
         have x0 := hr7.cell 0
         have x1 := hr7.cell 1
         simp only [List.getElem?_toArray, List.getElem?_cons_zero, List.getElem?_cons_succ] at x0 x1
         have fz7 := hr7.frozen
         have lz7 := hr7.lt
         clear h7 hm57 hm17 hb7 hs7 hr7))
  have FIN : Hid (∀ z : Value, Blk (st2 w7 w.heap.size (.int .i64 0) z) w.heap.size 153 #[.int .i64 0, z] ∧ PH (st2 w7 w.heap.size (.int .i64 0) z) m fb (wrB F dp 0 n fa) ∧
      Af w (st2 w7 w.heap.size (.int .i64 0) z) s bp bk FP ss ∧ VH (st2 w7 w.heap.size (.int .i64 0) z) v m db (r + 1) ∧ Tn.Mod (fb :: v :: FP) w (st2 w7 w.heap.size (.int .i64 0) z)) := hid fun z => by
    have h9 := st2_row HR7.out (.int .i64 0) z
    have hsz := HM5.out.size
    have hlv := HLV.out
    refine ⟨h9.1, HP7.out.mod h9.2 (by simp; omega) (by simp; omega), ⟨FP', C', HB7.out.same h9.2 (fun t ht e => ?_), HS7.out.up, fun t ht => ?_⟩, HV7.out.mod h9.2 (by simp; omega) (by simp; omega), HM7.out.trans h9.2 (fun t ht => .inr (by simp at ht; omega))⟩
    · have e1 := List.mem_singleton.1 e
      rcases HS7.out.new t ht with h1 | h1
      · exact HRES.out t h1 e1
      · have h2 := HR5.out.lt
        have h3 : w5.heap.size ≤ t := h1
        omega
    · rcases HS7.out.new t ht with h1 | h1
      · exact .inl h1
      · have h3 : w5.heap.size ≤ t := h1
        exact .inr (by omega)
  go_wp2
  exact bodyPost_ret (ret_row1 rfl rfl (FIN.out (.int .i64 (n : Nat))).1 _ Tryz.underlying153 size153) rfl ⟨rfl, (FIN.out (.int .i64 (n : Nat))).2⟩
end
end Go.Proofs.YtfolppcadckmaaaGreat
