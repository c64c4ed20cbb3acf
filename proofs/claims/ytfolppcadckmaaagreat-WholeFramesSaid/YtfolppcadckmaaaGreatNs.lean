/-
  Frames: the network backend: none, waiting, send, deliver.
-/
import Derived.Test.YtfolppcadckmaaaGreatNt
import Derived.Test.YtfolppcadckmaaaGreatE
import Derived.Test.YtfolppcadckmaaaGreatH
namespace Go.Proofs.YtfolppcadckmaaaGreat
open Go.RowKit Go.Tn
open Go.Proofs
set_option maxRecDepth 100000

/-- A backend at b: of the grants at x, domain d's; its rings at o, i; the switch at s. -/
def NB (w : World) (b x d o i s : Nat) : Prop := Blk w b 101 #[.pointer (some ⟨x, 0, none⟩), .int .i64 3, .int .i64 (d : Nat), .pointer (some ⟨o, 0, none⟩), .pointer (some ⟨i, 0, none⟩), .pointer (some ⟨s, 0, none⟩), .int .i64 (d : Nat)]

section
variable {w w' : World} {b x d o i s : Nat}
theorem NB.mod (h : NB w b x d o i s) {S : List Nat} (hm : Tn.Mod S w w') (h1 : b ∉ S) : NB w' b x d o i s := Blk.mod h hm h1
theorem NB.mod0 (h : NB w b x d o i s) (hm : Tn.Mod [] w w') : NB w' b x d o i s := h.mod hm (by simp)
theorem NB.cells (h : NB w b x d o i s) : w.cell? ⟨b, 0, none⟩ = some (.pointer (some ⟨x, 0, none⟩)) ∧ w.cell? ⟨b, 1, none⟩ = some (.int .i64 3) ∧ w.cell? ⟨b, 2, none⟩ = some (.int .i64 (d : Nat)) ∧ w.cell? ⟨b, 3, none⟩ = some (.pointer (some ⟨o, 0, none⟩)) ∧ w.cell? ⟨b, 4, none⟩ = some (.pointer (some ⟨i, 0, none⟩)) ∧ w.cell? ⟨b, 5, none⟩ = some (.pointer (some ⟨s, 0, none⟩)) ∧ w.cell? ⟨b, 6, none⟩ = some (.int .i64 (d : Nat)) :=
  ⟨Blk.cell h 0, Blk.cell h 1, Blk.cell h 2, Blk.cell h 3, Blk.cell h 4, Blk.cell h 5, Blk.cell h 6⟩

theorem nbnone_f (h : NB w b x d o i s) : Calls Tryz.prog 46 #[.pointer (some ⟨b, 0, none⟩)] w fun e w' => e = .returned (.bool false) ∧ w = w' := by
  have c0 := h.cells.1
  clear h
  go_enter Tryz.func46, Tryz.ntmps46
  go_wp2
  go_ret
  exact ⟨rfl, rfl⟩

variable {bp bk : Nat} {FP : List Nat} {C : Nat → Option Addr × Nat} {S : P14.St}

set_option maxHeartbeats 4000000 in
/-- 'waiting'. -/
theorem waitn_f (h : NB w b x d o i s) (hb : Br.BM w s bp bk FP C S) {M : Int} (G : P14.Ok S M) : Calls Tryz.prog 71 #[.pointer (some ⟨b, 0, none⟩)] w fun e w' =>
    (∃ A cap, e = .returned (.tuple #[.slice A (P14.headV S (d : Nat)).length cap, .bool (P14.headE S (d : Nat) == 0)]) ∧ P14.Bytes w' A (P14.headV S (d : Nat))) ∧ Tn.Mod [] w w' := by
  obtain ⟨c0, c1, c2, c3, c4, c5, c6⟩ := h.cells
  have H := hid h
  have HH := hid fun (W : World) (hm : Tn.Mod [] w W) => Br.head_f (hb.newer hm) G (d : Nat)
  generalize P14.headV S (d : Nat) = hv at HH ⊢
  generalize P14.headE S (d : Nat) = he at HH ⊢
  clear h hb G
  go_enter Tryz.func71, Tryz.ntmps71
  go_wp2
  have s1 := (H.out.mod0 ((Mod.refl [] w).drew)).cells
  have HS1 := hid (And.intro s1.2.2.2.2.2.1 s1.2.2.2.2.2.2)
  clear s1
  go_region_held3 (fun w' => w'.cell? ⟨b, 5, none⟩ = some (.pointer (some ⟨s, 0, none⟩)) ∧ w'.cell? ⟨b, 6, none⟩ = some (.int .i64 (d : Nat))) (first | exact HS1.out | go_keep)
    (first
      | (go_at_call 82; refine (HH.out _ ((Mod.refl [] w).drew)).mono ?_; rintro e w5 ⟨⟨A, cap, rfl, hby⟩, hm5⟩
         have hm15 : Tn.Mod [] w w5 := ((Mod.refl [] w).drew).andThen hm5
         have h5 := H.out.mod0 hm15
         have HBY := hid hby
         have HM5 := hid hm15
         obtain ⟨d0, d1, d2, d3, d4, d5, d6⟩ := h5.cells
         clear h5 hm5 hm15 hby))
  go_wp2
  go_ret2
  exact ⟨⟨A, cap, rfl, HBY.out⟩, HM5.out⟩

variable {m fb mb kb p bf bpl gt dp v db r : Nat} {L : List Int} {F : Nat → Nat → Int} {f : Int → Option Value} {es : Array MapEntry} {c : Nat}

theorem Br_old (hb : Br.BM w s bp bk FP C S) {q : Nat} (hq : w.heap.size ≤ q) : q ∉ FP := fun h => by have := hb.rows.old q h; omega

/-- The switch reads as S'; its footprint has grown by new blocks. -/
def Af (w w' : World) (s bp bk : Nat) (FP : List Nat) (S' : P14.St) : Prop := ∃ FP' C', Br.BM w' s bp bk FP' C' S' ∧ (∀ b, b ∈ FP → b ∈ FP') ∧ ∀ b, b ∈ FP' → b ∈ FP ∨ w.heap.size ≤ b
/-- The frame that lies at a page's begin. -/
def frOf (F : Nat → Nat → Int) (dp n : Nat) : List Int := (List.range n).map fun j => F dp (4 + j)
theorem frOf_len (F : Nat → Nat → Int) (dp n : Nat) : (frOf F dp n).length = n := by simp [frOf]
theorem frOf_get {F : Nat → Nat → Int} {dp n j : Nat} {y : Int} (h : (frOf F dp n)[j]? = some y) : j < n ∧ y = F dp (4 + j) := by
  unfold frOf at h
  rw [List.getElem?_map] at h
  obtain ⟨k, hk, rfl⟩ := Option.map_eq_some_iff.1 h
  obtain ⟨h1, h2⟩ := List.getElem?_eq_some_iff.1 hk
  rw [List.length_range] at h1
  rw [List.getElem_range] at h2
  subst h2
  exact ⟨h1, rfl⟩

theorem size153 : (Tryz.prog.info? 153).map (·.size) = some 2 := by kernel_rfl
theorem ret_row1 {fn : Func} {p : Tmp} {ty t : TypeId} {tmps : Array Value} {w : World} {b : Nat} {cs : Array Value} (h : fn.results = #[.cell p ty]) (hp : tmps.getD p undef = .pointer (some ⟨b, 0, none⟩)) (hb : Blk w b t cs)
    (fs : Array Field) (hu : Tryz.prog.underlying ty = some (.struct fs)) (hi : (Tryz.prog.info? ty).map (·.size) = some cs.size) : (results fn tmps).run Tryz.prog w = .ok (.agg cs) w := by
  have hr := run_loadVar_row w b t ty cs (0, 0) _ hb hu rfl hi
  have hp' : tmps[p]?.getD undef = .pointer (some ⟨b, 0, none⟩) := by rw [← hp, Array.getD_eq_getD_getElem?]
  simp [results, h, hp', asAddr, hr]

set_option maxHeartbeats 8000000 in
/-- 'send': the frame that lies in the front's page is sent. -/
theorem nsend_f (h : NB w b x d o i s) (sg : SG w m fb x mb kb p bf bpl d gt dp L F f es c) (hv : VH w v m db r) (hr : r ≤ 99999) (hb : Br.BM w s bp bk FP C S) {M : Int} (G : P14.Ok S M) (hM : M ≤ 1152921504606846976)
    (n q cp : Nat) (hn : n ≤ 255) (hsl : w.cell? ⟨q, 0, none⟩ = some (.int .u8 3) ∧ w.cell? ⟨q, 1, none⟩ = some (.int .u8 0) ∧ w.cell? ⟨q, 2, none⟩ = some (.int .u8 (n : Nat))) (hqv : q ≠ v) (hvF : v ∉ FP) (hdF : db ∉ FP) (hbF : b ∉ FP)
    (hfr : ∀ j, j < n → 0 ≤ F dp (4 + j) ∧ F dp (4 + j) ≤ 255) :
    Calls Tryz.prog 50 #[.pointer (some ⟨b, 0, none⟩), .pointer (some ⟨v, 0, none⟩), .slice (some ⟨q, 0, none⟩) 16 cp, .agg #[]] w fun e w' => (∃ st : Int, e = .returned (.agg #[.int .i64 st, .int .i64 0]) ∧ (st = 0 ∨ st = 1 ∨ st = 2)) ∧ Af w w' s bp bk FP (P14.sendS S (d : Nat) (frOf F dp n)) ∧ VH w' v m db (r + 1 + 1) ∧ Tn.Mod (v :: FP) w w' := by
  obtain ⟨c0, c1, c2, c3, c4, c5, c6⟩ := h.cells
  obtain ⟨q0, q1, q2⟩ := hsl
  have hbv : b ≠ v := Blk.ne_ h hv.blk (by decide)
  have hnI : (n : Int) ≤ 255 := by omega
  obtain ⟨w1, hw1⟩ : ∃ w1, (w.alloc (.cells #[] 135)).alloc (.cells #[.int .i64 0, .int .i64 0] 153) = w1 := ⟨_, rfl⟩
  have hm1 : Tn.Mod [] w w1 := by rw [← hw1]; exact ((Mod.refl [] w).alloc _).alloc _
  have hrs : Blk w1 (w.heap.size + 1) 153 #[.int .i64 0, .int .i64 0] := by rw [← hw1]; have := Blk.new (w.alloc (.cells #[] 135)) 153 #[.int .i64 0, .int .i64 0]; rwa [World.size_alloc] at this
  have HP := hid fun (W : World) (hm : Tn.Mod [] w W) => pull_f (sg.mod0 hm) (hv.mod0 hm) hr n hn
  have hB0 := fun (W : World) (A : Option Addr) (cf : Nat) (hm : Tn.Mod [v] w W) (hA : Br.Arg W A (frOf F dp n) FP) => Br.send_f (cf := cf) (hb.same hm (fun t ht e => hvF (List.mem_singleton.1 e ▸ ht))) G hM hA (d : Nat)
  simp only [frOf_len] at hB0
  have HB := hid hB0
  clear hB0
  have HA : Hid (∀ W g, w.heap.size ≤ g → Bys W (some ⟨g, 0, none⟩) n (fun j => F dp (4 + j)) → Br.Arg W (some ⟨g, 0, none⟩) (frOf F dp n) FP) := hid fun W g hg hB => by
    refine ⟨⟨fun y hy => ?_, fun h0 => ?_⟩, fun t ht => ?_, by rw [frOf_len]; omega⟩
    · obtain ⟨j, hj⟩ := List.getElem?_of_mem hy
      obtain ⟨h1, rfl⟩ := frOf_get hj
      exact hfr j h1
    · rw [frOf_len] at h0
      obtain ⟨b', off, he, hlt, hc⟩ := hB h0
      refine ⟨b', off, he, hlt, fun j y hj => ?_⟩
      obtain ⟨h1, rfl⟩ := frOf_get hj
      exact hc j h1
    · simp [blkOf] at ht
      subst ht
      exact Br_old hb hg
  have H := hid h
  have HV := hid hv
  have HQ := hid (show (∀ W, Tn.Mod [v] w W → W.cell? ⟨q, 0, none⟩ = some (.int .u8 3) ∧ W.cell? ⟨q, 1, none⟩ = some (.int .u8 0) ∧ W.cell? ⟨q, 2, none⟩ = some (.int .u8 (n : Nat))) from fun W hm => ⟨(hm.cell (p := ⟨q, 0, none⟩) (cell_lt q0) (by simpa using hqv)).trans q0, (hm.cell (p := ⟨q, 1, none⟩) (cell_lt q1) (by simpa using hqv)).trans q1, (hm.cell (p := ⟨q, 2, none⟩) (cell_lt q2) (by simpa using hqv)).trans q2⟩)
  have HNE := hid (And.intro hbv (And.intro hvF (And.intro hdF hbF)))
  have HM1 := hid hm1
  have HRS := hid hrs
  have HLV := hid (And.intro hv.blk.lt hv.mm.lt)
  have HOLD := hid hb.rows.old
  generalize P14.sendE S (d : Nat) (frOf F dp n) = se at HB
  generalize P14.sendS S (d : Nat) (frOf F dp n) = ss at HB ⊢
  generalize frOf F dp n = fr at HB HA
  subst hw1
  clear h sg hv hr hb G hM hn hqv hvF hdF hbF hfr hbv hm1 hrs q0 q1 q2
  have wr3 : IntKind.i64.wrap 3 = 3 := by decide
  have wr0 : IntKind.i64.wrap 0 = 0 := by decide
  have wrn : IntKind.i64.wrap ((n : Nat) : Int) = ((n : Nat) : Int) := by rw [IntKind.wrap_i64]; omega
  go_enter Tryz.func50, Tryz.ntmps50
  go_wp2
  have s1 := (H.out.mod0 (HM1.out.drew)).cells
  have s2 := HQ.out _ (HM1.out.drew.mono (T := [v]) (by simp))
  have HS1 := hid (And.intro s1.1 (And.intro s1.2.1 (And.intro s1.2.2.1 s2)))
  clear s1 s2
  go_region_held3 (fun w' => w'.cell? ⟨b, 0, none⟩ = some (.pointer (some ⟨x, 0, none⟩)) ∧ w'.cell? ⟨b, 1, none⟩ = some (.int .i64 3) ∧ w'.cell? ⟨b, 2, none⟩ = some (.int .i64 (d : Nat)) ∧ w'.cell? ⟨q, 0, none⟩ = some (.int .u8 3) ∧ w'.cell? ⟨q, 1, none⟩ = some (.int .u8 0) ∧ w'.cell? ⟨q, 2, none⟩ = some (.int .u8 (n : Nat))) (first | exact HS1.out | go_keep)
    (first
      | (go_at_call 67; refine (HP.out _ (HM1.out.drew)).mono ?_; rintro e w5 ⟨g, hg, rfl, hb5, hv5, hm5⟩
         have hm15 : Tn.Mod [v] w w5 := (HM1.out.drew.mono (T := [v]) (by simp)).andThen hm5
         have h5 := H.out.mod hm15 (by simpa using HNE.out.1)
         have HV5 := hid hv5
         have HM5 := hid hm15
         have HG5 := hid (show w.heap.size ≤ g by have h2 := HM1.out.size; simp at hg h2; omega)
         have HA5 := hid (HA.out _ g HG5.out hb5)
         have hr5 := HRS.out.mod (((Mod.refl [v] _).drew).andThen hm5) (by have := HLV.out; simp; omega)
         have HR5 := hid hr5
         obtain ⟨d0, d1, d2, d3, d4, d5, d6⟩ := h5.cells
         obtain ⟨e0, e1, e2⟩ := HQ.out _ hm15
         have y0 := hr5.cell 0
         have y1 := hr5.cell 1
         simp only [List.getElem?_toArray, List.getElem?_cons_zero, List.getElem?_cons_succ] at y0 y1
         have fz5 := hr5.frozen
         have lz5 := hr5.lt
         clear h5 hm5 hm15 hb5 hv5 hg hr5))
  go_wp2
  have s5 := And.intro d5 d6
  have HS5 := hid (show w5.drew.cell? ⟨b, 5, none⟩ = some (.pointer (some ⟨s, 0, none⟩)) ∧ w5.drew.cell? ⟨b, 6, none⟩ = some (.int .i64 (d : Nat)) from ⟨(((Mod.refl [] w5).drew).cell (p := ⟨b, 5, none⟩) (cell_lt d5) (by simp)).trans d5, (((Mod.refl [] w5).drew).cell (p := ⟨b, 6, none⟩) (cell_lt d5) (by simp)).trans d6⟩)
  clear s5
  have hres : ∀ t ∈ FP, t ≠ w.heap.size + 1 := fun t ht e => by have := HOLD.out t ht; omega
  have HRES := hid hres
  clear hres
  go_region_held3 (fun w' => w'.cell? ⟨b, 5, none⟩ = some (.pointer (some ⟨s, 0, none⟩)) ∧ w'.cell? ⟨b, 6, none⟩ = some (.int .i64 (d : Nat))) (first | exact HS5.out | go_keep)
    (first
      | (go_at_call 69; refine (HB.out _ (some ⟨g, 0, none⟩) n (HM5.out.drew) ?_).mono ?_
         · exact ⟨HA5.out.by_.mod ((Mod.refl [] w5).drew) (by simp), HA5.out.out, HA5.out.len⟩
         rintro e w7 ⟨rfl, FP', C', hb7, hs7⟩
         have hm57 : Tn.Mod FP w5 w7 := ((Mod.refl FP w5).drew).andThen hs7.mod
         have hm17 : Tn.Mod (v :: FP) w w7 := (HM5.out.mono (T := v :: FP) (by simp)).andThen (hm57.mono (fun t ht => .inl (List.mem_cons_of_mem _ ht)))
         have h7 := H.out.mod hm17 (by simpa using And.intro HNE.out.1 HNE.out.2.2.2)
         obtain ⟨k0, k1, k2, k3, k4, k5, k6⟩ := h7.cells
         have hr7 := HR5.out.mod hm57 (fun e => HRES.out _ e rfl)
         have HV7 := hid (HV5.out.mod hm57 HNE.out.2.1 HNE.out.2.2.1)
         have HM7 := hid hm17
         have HB7 := hid hb7
         have HS7 := hid hs7
         have HR7 := hid hr7
         have x0 := hr7.cell 0
         have x1 := hr7.cell 1
         simp only [List.getElem?_toArray, List.getElem?_cons_zero, List.getElem?_cons_succ] at x0 x1
         have fz7 := hr7.frozen
         have lz7 := hr7.lt
         clear h7 hm57 hm17 hb7 hs7 hr7))
  have FIN : Hid (∀ st : Int, Blk (st2 w7 (w.heap.size + 1) (.int .i64 st) (.int .i64 0)) (w.heap.size + 1) 153 #[.int .i64 st, .int .i64 0] ∧
      Af w (st2 w7 (w.heap.size + 1) (.int .i64 st) (.int .i64 0)) s bp bk FP ss ∧ VH (st2 w7 (w.heap.size + 1) (.int .i64 st) (.int .i64 0)) v m db (r + 1 + 1) ∧ Tn.Mod (v :: FP) w (st2 w7 (w.heap.size + 1) (.int .i64 st) (.int .i64 0))) := hid fun st => by
    have h9 := st2_row HR7.out (.int .i64 st) (.int .i64 0)
    have hsz := HM5.out.size
    refine ⟨h9.1, ⟨FP', C', HB7.out.same h9.2 (fun t ht e => ?_), HS7.out.up, fun t ht => ?_⟩, HV7.out.mod h9.2 (by have := HLV.out; simp; omega) (by have := HLV.out; simp; omega), HM7.out.trans h9.2 (fun t ht => .inr (by simp at ht; omega))⟩
    · have e1 := List.mem_singleton.1 e
      rcases HS7.out.new t ht with h1 | h1
      · exact HRES.out t h1 e1
      · have h2 := HR5.out.lt
        have h3 : w5.heap.size ≤ t := h1
        omega
    · rcases HS7.out.new t ht with h1 | h1
      · exact .inl h1
      · have h3 : w5.heap.size ≤ t := h1
        exact .inr (by omega)
  by_cases h0 : se = 0
  · subst h0
    go_wp2
    refine bodyPost_ret (ret_row1 rfl rfl (FIN.out 0).1 _ Tryz.underlying153 size153) rfl ⟨⟨0, rfl, by simp⟩, (FIN.out 0).2⟩
  · by_cases h71 : se = 71
    · subst h71
      go_wp2
      refine bodyPost_ret (ret_row1 rfl rfl (FIN.out 2).1 _ Tryz.underlying153 size153) rfl ⟨⟨2, rfl, by simp⟩, (FIN.out 2).2⟩
    · have g0 : (se == 0) = false := by simpa using h0
      have g1 : (se == 71) = false := by simpa using h71
      go_wp2
      refine bodyPost_ret (ret_row1 rfl rfl (FIN.out 1).1 _ Tryz.underlying153 size153) rfl ⟨⟨1, rfl, by simp⟩, (FIN.out 1).2⟩
end
end Go.Proofs.YtfolppcadckmaaaGreat
