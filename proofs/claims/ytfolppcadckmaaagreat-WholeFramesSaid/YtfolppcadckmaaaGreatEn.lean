/-
  Frames: grants: entry, permit, frame: of grant 3, a page that domain 3 may use.
-/
import Derived.Test.YtfolppcadckmaaaGreatUn
import Derived.Laws.ResultCell
namespace Go.Proofs.YtfolppcadckmaaaGreat
open Go.RowKit Go.Tn
open Go.Proofs
set_option maxRecDepth 100000
theorem field92_0 (t : Int) (p : Option Addr) (w : World) : (Instr.field 92 (.agg #[.int .i64 t, .pointer p]) 0).run Tryz.prog w = .ok (.int .i64 t) w := by kernel_rfl
theorem field92_1 (t : Int) (p : Option Addr) (w : World) : (Instr.field 92 (.agg #[.int .i64 t, .pointer p]) 1).run Tryz.prog w = .ok (.pointer p) w := by kernel_rfl
attribute [local go_sem] look69 look69b field92_0 field92_1

theorem ret_row {fn : Func} {p u : Tmp} {ty t : TypeId} {tmps : Array Value} {w : World} {b : Nat} {cs : Array Value} (h : fn.results = #[.cell p ty, .tmp u]) (hp : tmps.getD p undef = .pointer (some ⟨b, 0, none⟩)) (hb : Blk w b t cs)
    (fs : Array Field) (hu : Tryz.prog.underlying ty = some (.struct fs)) (hi : (Tryz.prog.info? ty).map (·.size) = some cs.size) : (results fn tmps).run Tryz.prog w = .ok (.tuple #[.agg cs, tmps.getD u undef]) w := by
  rw [results_cell_tmp h, hp]
  simp only [asAddr, Sem.run_pure, Result.andThen_ok]
  rw [run_loadVar_row w b t ty cs (0, 0) _ hb hu rfl hi]
  rfl
theorem size45 : (Tryz.prog.info? 45).map (·.size) = some 7 := by kernel_rfl

/-- The grant's value. -/
abbrev g3 : Array Value := #[.int .i64 1, .bool false, .bool false, .int .i64 3, .int .i64 3, .int .i64 0, .int .i64 256]
abbrev g0 : Array Value := #[.int .i64 0, .bool false, .bool false, .int .i64 0, .int .i64 0, .int .i64 0, .int .i64 0]
/-- Seven cells stored one by one. -/
def st7 (w : World) (b : Nat) : World := ((((((w.setCell ⟨b, 0, none⟩ (.int .i64 1)).setCell ⟨b, 1, none⟩ (.bool false)).setCell ⟨b, 2, none⟩ (.bool false)).setCell ⟨b, 3, none⟩ (.int .i64 3)).setCell ⟨b, 4, none⟩ (.int .i64 3)).setCell ⟨b, 5, none⟩ (.int .i64 0)).setCell ⟨b, 6, none⟩ (.int .i64 256)
theorem st7_row {w : World} {b : Nat} {t : TypeId} (h : Blk w b t g0) : Blk (st7 w b) b t g3 ∧ Tn.Mod [b] w (st7 w b) :=
  ⟨by
    have h1 := ((((((h.set_ 0 (.int .i64 1)).set_ 1 (.bool false)).set_ 2 (.bool false)).set_ 3 (.int .i64 3)).set_ 4 (.int .i64 3)).set_ 5 (.int .i64 0)).set_ 6 (.int .i64 256)
    simp only [List.setIfInBounds_toArray, List.set_cons_zero, List.set_cons_succ] at h1
    exact h1,
   (((((((Mod.refl [b] w).setCell (p := ⟨b, 0, none⟩) (.inl (by simp)) _).setCell (p := ⟨b, 1, none⟩) (.inl (by simp)) _).setCell (p := ⟨b, 2, none⟩) (.inl (by simp)) _).setCell (p := ⟨b, 3, none⟩) (.inl (by simp)) _).setCell (p := ⟨b, 4, none⟩) (.inl (by simp)) _).setCell (p := ⟨b, 5, none⟩) (.inl (by simp)) _).setCell (p := ⟨b, 6, none⟩) (.inl (by simp)) _⟩

/-- The grants, domain d's places, its grant 3: of frame dp, told in frame gt. -/
structure SG (w : World) (m fb x mb kb p bf bp d gt dp : Nat) (L : List Int) (F : Nat → Nat → Int) (f : Int → Option Value) (es : Array MapEntry) (c : Nat) : Prop where
  ph : PH w m fb F
  gh : GH w x m mb kb f es c
  pm : Pm.PM w p bf bp L
  fo : f (d : Nat) = some (mem gt p)
  lv : P3.getV L 3 = (dp : Nat)
  le : P3.getE L 3 = 0
  d8 : d < 8
  g14 : gt < 14
  d14 : dp < 14
  og : F dp 0 = (d : Nat)
  ty : F dp 1 = 0
  ent : ∀ j, j < 8 → F gt (4 + 24 + j) = gB 1 false false 3 3 0 256 j

section
variable {w w' : World} {m fb x mb kb p bf bp d gt dp v db r : Nat} {L : List Int} {F F' : Nat → Nat → Int} {f : Int → Option Value} {es : Array MapEntry} {c : Nat}

theorem ne_mapC {b : Nat} {t : TypeId} {cs : Array Value} {k : Nat} {es : Array MapEntry} {c : Nat} (h : Blk w b t cs) (hk : w.heap[k]? = some (.map es c)) : k ≠ b := by
  rintro rfl
  unfold Blk at h
  rw [hk] at h
  cases h

theorem SG.modv (h : SG w m fb x mb kb p bf bp d gt dp L F f es c) {cs : Array Value} (hv : Blk w v 123 cs) (hm : Tn.Mod [v] w w') : SG w' m fb x mb kb p bf bp d gt dp L F f es c :=
  ⟨h.ph.mod hm (by simpa using h.ph.blk.ne_ hv (by decide)) (by simpa using h.ph.fr.ne_ hv (by decide)),
   h.gh.mod hm (by simpa using h.gh.blk.ne_ hv (by decide)) (by simpa using fun e => hv.ne_map h.gh.mm.imap e.symm) (by simpa using ne_mapC hv h.gh.km),
   h.pm.mod hm (by simpa using h.pm.blk.ne_ hv (by decide)) (by simpa using fun e => hv.ne_map h.pm.mf.imap e.symm) (by simpa using fun e => hv.ne_map h.pm.mp.imap e.symm), h.fo, h.lv, h.le, h.d8, h.g14, h.d14, h.og, h.ty, h.ent⟩
theorem SG.mod0 (h : SG w m fb x mb kb p bf bp d gt dp L F f es c) (hm : Tn.Mod [] w w') : SG w' m fb x mb kb p bf bp d gt dp L F f es c :=
  ⟨h.ph.mod0 hm, h.gh.mod0 hm, h.pm.mod hm (by simp) (by simp) (by simp), h.fo, h.lv, h.le, h.d8, h.g14, h.d14, h.og, h.ty, h.ent⟩

set_option maxHeartbeats 2000000 in
theorem entry_f (s : SG w m fb x mb kb p bf bp d gt dp L F f es c) (hv : VH w v m db r) (hr : r ≤ 100000) :
    Calls Tryz.prog 118 #[.pointer (some ⟨x, 0, none⟩), .pointer (some ⟨v, 0, none⟩), .int .i64 (d : Nat), .int .i64 3] w fun e w' => e = .returned (.tuple #[.agg g3, .int .i64 0]) ∧ VH w' v m db (r + 1) ∧ Tn.Mod [v] w w' := by
  have hm1 : Tn.Mod [] w (w.alloc (.cells g0 45)) := (Mod.refl [] w).alloc _
  have s1 := s.mod0 hm1
  have v1 := hv.mod0 hm1
  have hR : Calls Tryz.prog 78 #[.pointer (some ⟨v, 0, none⟩), .int .i64 (gt : Nat), .int .i64 24, .int .i64 8] _ _ := vread_f v1 s1.ph hr gt 24 8 s.g14 (by omega)
  have c1 := s1.gh.c1
  have mm := s1.gh.mm
  have mg : _ = some (Value.agg #[Value.int .i64 (gt : Nat), Value.pointer (some ⟨p, 0, none⟩)]) := (s1.gh.mg d).trans s.fo
  have hU : ∀ W q, Bys W (some ⟨q, 0, none⟩) 8 (fun j => F gt (4 + 24 + j)) → Calls Tryz.prog 119 #[.slice (some ⟨q, 0, none⟩) 8 8] W fun e w' => e = .returned (.tuple #[.agg g3, .int .i64 0]) ∧ Tn.Mod [] W w' := fun W q h => by
    refine unpack_false 1 false 3 3 0 256 q 8 W ⟨by decide, by decide, by decide, by decide, by decide, by decide, by decide, by decide, by decide, by decide⟩ fun h0 => ?_
    obtain ⟨b, off, h1, h2, h3⟩ := h h0
    exact ⟨b, off, h1, h2, fun j hj => (h3 j hj).trans (congrArg (fun z => some (Value.int .u8 z)) (s.ent j hj))⟩
  have hlt : v < w.heap.size := hv.blk.lt
  have hbk := Blk.new w 45 g0
  have SE : Hid (∀ w5 w7 W, VH w5 v m db (r + 1) → Tn.Mod [v] w w5 → Tn.Mod [] w5 w7 → Tn.Mod [w.heap.size] w7 W → VH W v m db (r + 1) ∧ Tn.Mod [v] w W) := hid fun w5 w7 W hv5 h1 h2 h3 => by
    have h4 := (h1.andThen (h2.mono (by simp))).trans h3 (by simp)
    have hl3 := hv.blk.lt
    have hl4 := hv.mm.lt
    exact ⟨(hv5.mod0 h2).mod h3 (by simp; omega) (by simp; omega), h4⟩
  have HR := hid hR
  have HU := hid hU
  have HM1 := hid hm1
  have HK := hid hbk
  have HL := hid hlt
  clear hR s1 v1 s hv hr hm1 hU hbk hlt
  go_enter Tryz.func118, Tryz.ntmps118
  go_wp2_with (first
    | (go_at_call 78; refine HR.out.mono ?_; rintro e w5 ⟨q, _, rfl, hb5, _, hv5, hm5⟩
       have HK5 := hid (HK.out.mod hm5 (by have := HL.out; simp; omega))
       have HB5 := hid hb5
       have HV5 := hid hv5
       have HM5 := hid ((HM1.out.mono (T := [v]) (by simp)).andThen hm5)
       clear hb5 hv5 hm5)
    | (go_at_call 119
       refine (HU.out _ _ HB5.out).mono ?_
       rintro e w7 ⟨rfl, hm7⟩
       have HM7 := hid hm7
       have hk7 := HK5.out.mod hm7 (by simp)
       have z0 := hk7.cell 0
       have z1 := hk7.cell 1
       have z2 := hk7.cell 2
       have z3 := hk7.cell 3
       have z4 := hk7.cell 4
       have z5 := hk7.cell 5
       have z6 := hk7.cell 6
       simp only [List.getElem?_toArray, List.getElem?_cons_zero, List.getElem?_cons_succ] at z0 z1 z2 z3 z4 z5 z6
       have fz7 := hk7.frozen
       have hz7 := hk7.lt
       have HK7 := hid hk7
       clear hm7 hk7))
  have h9 := st7_row HK7.out
  have hm9 := h9.2.alloc (.cells g3 45)
  exact bodyPost_ret (ret_row rfl rfl (h9.1.mod ((Mod.refl [] _).alloc (.cells g3 45)) (by simp)) _ Tryz.underlying45 size45) rfl ⟨rfl, SE.out _ _ _ HV5.out HM5.out HM7.out hm9⟩

set_option maxHeartbeats 4000000 in
theorem permit_f (s : SG w m fb x mb kb p bf bp d gt dp L F f es c) (hv : VH w v m db r) (hr : r ≤ 100000) :
    Calls Tryz.prog 116 #[.pointer (some ⟨x, 0, none⟩), .pointer (some ⟨v, 0, none⟩), .int .i64 3, .int .i64 (d : Nat), .int .i64 3] w fun e w' => e = .returned (.tuple #[.agg g3, .int .i64 0]) ∧ VH w' v m db (r + 1) ∧ Tn.Mod [v] w w' := by
  have hm1 : Tn.Mod [] w (w.alloc (.cells g0 45)) := (Mod.refl [] w).alloc _
  have hE := entry_f (s.mod0 hm1) (hv.mod0 hm1) hr
  have hlt : v < w.heap.size := hv.blk.lt
  have hbk := Blk.new w 45 g0
  have SE : Hid (∀ w5 W, VH w5 v m db (r + 1) → Tn.Mod [v] w w5 → Tn.Mod [w.heap.size] w5 W → VH W v m db (r + 1) ∧ Tn.Mod [v] w W) := hid fun w5 W hv5 h1 h3 => by
    have hl3 := hv.blk.lt
    have hl4 := hv.mm.lt
    exact ⟨hv5.mod h3 (by simp; omega) (by simp; omega), h1.trans h3 (by simp)⟩
  have HE := hid hE
  have HM1 := hid hm1
  have HK := hid hbk
  have HL := hid hlt
  clear s hv hr hbk hlt hE hm1
  go_enter Tryz.func116, Tryz.ntmps116
  go_wp2_with (go_at_call 118; refine HE.out.mono ?_; rintro e w5 ⟨rfl, hv5, hm5⟩
               have hk5 := HK.out.mod hm5 (by have := HL.out; simp; omega)
               have z0 := hk5.cell 0
               have z1 := hk5.cell 1
               have z2 := hk5.cell 2
               have z3 := hk5.cell 3
               have z4 := hk5.cell 4
               have z5 := hk5.cell 5
               have z6 := hk5.cell 6
               simp only [List.getElem?_toArray, List.getElem?_cons_zero, List.getElem?_cons_succ] at z0 z1 z2 z3 z4 z5 z6
               have fz5 := hk5.frozen
               have hz5 := hk5.lt
               have HK5 := hid hk5
               have HV5 := hid hv5
               have HM5 := hid ((HM1.out.mono (T := [v]) (by simp)).andThen hm5)
               clear hv5 hm5 hk5)
  have h9 := st7_row HK5.out
  have hm9 := h9.2.alloc (.cells g3 45)
  exact bodyPost_ret (ret_row rfl rfl (h9.1.mod ((Mod.refl [] _).alloc (.cells g3 45)) (by simp)) _ Tryz.underlying45 size45) rfl ⟨rfl, SE.out _ _ HV5.out HM5.out hm9⟩

set_option maxHeartbeats 1000000 in
theorem gframe_f (s : SG w m fb x mb kb p bf bp d gt dp L F f es c) :
    Calls Tryz.prog 117 #[.pointer (some ⟨x, 0, none⟩), .int .i64 (d : Nat), .int .i64 3] w fun e w' => e = .returned (.tuple #[.int .i64 (dp : Nat), .int .i64 0]) ∧ Tn.Mod [] w w' := by
  have c0 := s.gh.c0
  have c1 := s.gh.c1
  have mm := s.gh.mm
  have mg : _ = some (Value.agg #[Value.int .i64 (gt : Nat), Value.pointer (some ⟨p, 0, none⟩)]) := (s.gh.mg d).trans s.fo
  have hG := Pm.get_f s.pm 3
  rw [s.lv, s.le] at hG
  have hF := frame_f s.ph dp s.d14
  rw [s.og] at hF
  have HG := hid hG
  have HF := hid hF
  clear s hG hF
  go_enter Tryz.func117, Tryz.ntmps117
  go_wp2_with (first
    | (go_at_call 112; refine HG.out.mono ?_; rintro e w5 ⟨rfl, rfl⟩)
    | (go_at_call 36; refine HF.out.mono ?_; rintro e w5 ⟨rfl, hm5⟩; have HM5 := hid hm5; clear hm5))
  go_ret2
  exact ⟨rfl, HM5.out.alloc _⟩
end
end Go.Proofs.YtfolppcadckmaaaGreat
