/-
  Frames: grants: the end of a copy that is a grant: find, Pull, Push, of grant 3 from its begin on.
-/
import Derived.Test.YtfolppcadckmaaaGreatEn
import Derived.Deep.RegionHeld3
namespace Go.Proofs.YtfolppcadckmaaaGreat
open Go.RowKit Go.Tn
open Go.Proofs
set_option maxRecDepth 100000
attribute [local go_sem] look69 look69b field92_0 field92_1

theorem size167 : (Tryz.prog.info? 167).map (·.size) = some 2 := by kernel_rfl
def st2 (w : World) (b : Nat) (a0 a1 : Value) : World := (w.setCell ⟨b, 0, none⟩ a0).setCell ⟨b, 1, none⟩ a1
theorem st2_row {w : World} {b : Nat} {t : TypeId} {o0 o1 : Value} (h : Blk w b t #[o0, o1]) (a0 a1 : Value) : Blk (st2 w b a0 a1) b t #[a0, a1] ∧ Tn.Mod [b] w (st2 w b a0 a1) :=
  ⟨by
    have h1 := (h.set_ 0 a0).set_ 1 a1
    simp only [List.setIfInBounds_toArray, List.set_cons_zero, List.set_cons_succ] at h1
    exact h1, ((Mod.refl [b] w).setCell (p := ⟨b, 0, none⟩) (.inl (by simp)) a0).setCell (p := ⟨b, 1, none⟩) (.inl (by simp)) a1⟩

section
variable {w w' : World} {m fb x mb kb p bf bp d gt dp v db r : Nat} {L : List Int} {F F' : Nat → Nat → Int} {f : Int → Option Value} {es : Array MapEntry} {c : Nat}

theorem VH.on (hv : VH w v m db r) {r' : Nat} {w5 W : World} {T : List Nat} (hv5 : VH w5 v m db r') (h1 : Tn.Mod [v] w w5) (h3 : Tn.Mod T w5 W) (hT : ∀ t ∈ T, w.heap.size ≤ t) : VH W v m db r' ∧ Tn.Mod [v] w W := by
  have hl3 := hv.blk.lt
  have hl4 := hv.mm.lt
  have hn : ∀ b, b < w.heap.size → b ∉ T := fun b hb h => by have := hT b h; omega
  exact ⟨hv5.mod h3 (hn _ hl3) (hn _ hl4), h1.trans h3 (fun t ht => .inr (hT t ht))⟩

theorem within_f (n : Nat) (hn : n ≤ 255) (w : World) : Calls Tryz.prog 113 #[.int .i64 0, .int .i64 (n : Nat), .int .i64 256] w fun e w' => e = .returned (.bool true) ∧ w = w' := by
  have h1 : (n : Int) ≤ 256 := by omega
  go_enter Tryz.func113, Tryz.ntmps113
  go_wp2
  go_ret
  exact ⟨rfl, rfl⟩

set_option maxHeartbeats 4000000 in
theorem lent_f (s : SG w m fb x mb kb p bf bp d gt dp L F f es c) (hv : VH w v m db r) (hr : r ≤ 100000) (n : Nat) (hn : n ≤ 255) (wr : Bool) :
    Calls Tryz.prog 114 #[.agg #[.int .i64 (d : Nat), .int .i64 3, .int .i64 0, .bool wr], .pointer (some ⟨x, 0, none⟩), .pointer (some ⟨v, 0, none⟩), .int .i64 3, .int .i64 (n : Nat)] w fun e w' => e = .returned (.tuple #[.agg #[.int .i64 (dp : Nat), .int .i64 0], .int .i64 0]) ∧ VH w' v m db (r + 1) ∧ Tn.Mod [v] w w' := by
  obtain ⟨w1, hw1⟩ : ∃ w1, (w.alloc (.cells #[.int .i64 (d : Nat), .int .i64 3, .int .i64 0, .bool wr] 180)).alloc (.cells #[.int .i64 0, .int .i64 0] 167) = w1 := ⟨_, rfl⟩
  have hm1 : Tn.Mod [] w w1 := by rw [← hw1]; exact ((Mod.refl [] w).alloc _).alloc _
  have HE := hid fun (W : World) (hW : Tn.Mod [] w1 W) => permit_f (s.mod0 (hm1.andThen hW)) (hv.mod0 (hm1.andThen hW)) hr
  have hbx : Blk w1 w.heap.size 180 #[.int .i64 (d : Nat), .int .i64 3, .int .i64 0, .bool wr] := by rw [← hw1]; exact (Blk.new w 180 _).mod ((Mod.refl [] _).alloc _) (by simp)
  have hsp : Blk w1 (w.heap.size + 1) 167 #[.int .i64 0, .int .i64 0] := by rw [← hw1]; have := Blk.new (w.alloc (.cells #[.int .i64 (d : Nat), .int .i64 3, .int .i64 0, .bool wr] 180)) 167 #[.int .i64 0, .int .i64 0]; rwa [World.size_alloc] at this
  have HJ := hid (joined_yes (s.mod0 hm1).gh (d : Nat) gt p s.fo)
  have HGF := hid fun (W : World) (hs : SG W m fb x mb kb p bf bp d gt dp L F f es c) => gframe_f hs
  have SE : Hid (∀ (w5 W : World) (T : List Nat), VH w5 v m db (r + 1) → Tn.Mod [v] w w5 → Tn.Mod T w5 W → (∀ t ∈ T, w.heap.size ≤ t) → VH W v m db (r + 1) ∧ Tn.Mod [v] w W) := hid fun w5 W T hv5 h1 h3 hT => hv.on hv5 h1 h3 hT
  have SS : Hid (∀ (w5 : World), Tn.Mod [v] w w5 → SG w5 m fb x mb kb p bf bp d gt dp L F f es c) := hid fun w5 h1 => s.modv hv.blk h1
  have HM1 := hid hm1
  have HBX := hid hbx
  have HSP := hid hsp
  have HL := hid hv.blk.lt
  have HSL : Hid (∀ W : World, Calls Tryz.prog 115 #[.int .i64 3] W fun e w' => e = .returned (.bool true) ∧ W = w') := hid fun W => slot_f 3 (by omega) W
  have HW := hid fun W => within_f n hn W
  subst hw1
  clear s hv hr hm1 hbx hsp hn
  go_enter Tryz.func114, Tryz.ntmps114
  go_wp2_with (first
    | (go_at_call 111; refine HJ.out.mono ?_; rintro e w2 ⟨rfl, hm2⟩
       have hb2 := HBX.out.mod hm2 (by simp)
       have b0 := hb2.cell 0
       have b1 := hb2.cell 1
       have b2 := hb2.cell 2
       have b3 := hb2.cell 3
       simp only [List.getElem?_toArray, List.getElem?_cons_zero, List.getElem?_cons_succ] at b0 b1 b2 b3
       have HM2 := hid hm2
       have lt2 := hb2.lt
       clear hm2 hb2)
    | (go_at_call 115; refine (HSL.out _).mono ?_; rintro e w' ⟨rfl, rfl⟩)
    | (go_at_call 116; refine (HE.out _ HM2.out).mono ?_; rintro e w5 ⟨rfl, hv5, hm5⟩
       have hm15 := (HM2.out.mono (T := [v]) (by simp)).andThen hm5
       have hb5 := HBX.out.mod hm15 (by have := HL.out; simp; omega)
       have hk5 := HSP.out.mod hm15 (by have := HL.out; simp; omega)
       have d0 := hb5.cell 0
       have d1 := hb5.cell 1
       have d2 := hb5.cell 2
       have d3 := hb5.cell 3
       have z0 := hk5.cell 0
       have z1 := hk5.cell 1
       simp only [List.getElem?_toArray, List.getElem?_cons_zero, List.getElem?_cons_succ] at d0 d1 d2 d3 z0 z1
       have fz5 := hk5.frozen
       have hz5 := hk5.lt
       have hq5 := hb5.lt
       have HK5 := hid hk5
       have HB5 := hid hb5
       have HV5 := hid hv5
       have HM5 := hid ((HM1.out.mono (T := [v]) (by simp)).andThen hm15)
       have HS5 := hid (SS.out _ HM5.out)
       have HA5 := hid (Blk.new w5 45 g3)
       clear hv5 hm5 hm15 hk5 hb5)
    | (go_at_call 117; refine (HGF.out _ (HS5.out.mod0 ((Mod.refl [] w5).alloc _))).mono ?_; rintro e w7 ⟨rfl, hm7⟩
       have hm57 := ((Mod.refl [] w5).alloc (.cells g3 45)).andThen hm7
       have hb7 := HB5.out.mod hm57 (by simp)
       have hk7 := HK5.out.mod hm57 (by simp)
       have ha7 := HA5.out.mod hm7 (by simp)
       have e0 := hb7.cell 0
       have e1 := hb7.cell 1
       have e2 := hb7.cell 2
       have e3 := hb7.cell 3
       have y0 := hk7.cell 0
       have y1 := hk7.cell 1
       have a0 := ha7.cell 0
       have a1 := ha7.cell 1
       have a2 := ha7.cell 2
       have a3 := ha7.cell 3
       have a4 := ha7.cell 4
       have a5 := ha7.cell 5
       have a6 := ha7.cell 6
       simp only [List.getElem?_toArray, List.getElem?_cons_zero, List.getElem?_cons_succ] at e0 e1 e2 e3 y0 y1 a0 a1 a2 a3 a4 a5 a6
       have fz7 := hk7.frozen
       have hz7 := hk7.lt
       have hq7 := hb7.lt
       have ha7' := ha7.lt
       have HK7 := hid hk7
       have HM57 := hid hm57
       clear hm7 hm57 hk7 hb7 ha7)
    | (go_at_call 113; refine (HW.out _).mono ?_; rintro e w8 ⟨rfl, rfl⟩))
  all_goals
    have h9 := st2_row HK7.out (.int .i64 (dp : Nat)) (.int .i64 0)
    exact bodyPost_ret (ret_row rfl rfl h9.1 _ Tryz.underlying167 size167) rfl ⟨rfl, SE.out _ _ _ HV5.out HM5.out ((HM57.out.mono (T := [w.heap.size + 1]) (by simp)).andThen h9.2) (by simp)⟩

theorem assert180 (a : Array Value) (w : World) : (Instr.typeAssert (.iface 180 (.agg a)) 178 180 true).run Tryz.prog w = .ok (.tuple #[.agg a, .bool true]) w := by kernel_rfl
theorem method180 (a : Array Value) (w : World) : (method 313 180 (.agg a) "tenement/grant.find").run Tryz.prog w = .ok (114, .agg a) w := by kernel_rfl
attribute [local go_sem] assert180 method180

set_option maxHeartbeats 4000000 in
theorem find_f (s : SG w m fb x mb kb p bf bp d gt dp L F f es c) (hv : VH w v m db r) (hr : r ≤ 100000) (n : Nat) (hn : n ≤ 255) (wr : Bool) :
    Calls Tryz.prog 80 #[.pointer (some ⟨x, 0, none⟩), .pointer (some ⟨v, 0, none⟩), .int .i64 3, .agg #[.bool true, .int .i64 (d : Nat), .int .i64 3, .int .i64 0, .int .i64 0], .int .i64 (n : Nat), .bool wr] w fun e w' => e = .returned (.tuple #[.agg #[.int .i64 (dp : Nat), .int .i64 0], .int .i64 0]) ∧ VH w' v m db (r + 1) ∧ Tn.Mod [v] w w' := by
  obtain ⟨w1, hw1⟩ : ∃ w1, (w.alloc (.cells #[.bool true, .int .i64 (d : Nat), .int .i64 3, .int .i64 0, .int .i64 0] 157)).alloc (.cells #[.int .i64 0, .int .i64 0] 167) = w1 := ⟨_, rfl⟩
  have hm1 : Tn.Mod [] w w1 := by rw [← hw1]; exact ((Mod.refl [] w).alloc _).alloc _
  have HE := hid fun (W : World) (hW : Tn.Mod [] w1 W) => lent_f (s.mod0 (hm1.andThen hW)) (hv.mod0 (hm1.andThen hW)) hr n hn wr
  have hsp : Blk w1 (w.heap.size + 1) 167 #[.int .i64 0, .int .i64 0] := by rw [← hw1]; have := Blk.new (w.alloc (.cells #[.bool true, .int .i64 (d : Nat), .int .i64 3, .int .i64 0, .int .i64 0] 157)) 167 #[.int .i64 0, .int .i64 0]; rwa [World.size_alloc] at this
  have HSP := hid hsp
  have HL := hid hv.blk.lt
  have SE : Hid (∀ (w5 W : World) (T : List Nat), VH w5 v m db (r + 1) → Tn.Mod [v] w w5 → Tn.Mod T w5 W → (∀ t ∈ T, w.heap.size ≤ t) → VH W v m db (r + 1) ∧ Tn.Mod [v] w W) := hid fun w5 W T hv5 h1 h3 hT => hv.on hv5 h1 h3 hT
  have HM1 := hid hm1
  have HN := hid (gnone_f (s.mod0 hm1).gh)
  have HU := hid (unmade_f (hv.mod0 hm1))
  have HDm : Hid (∀ W : World, Calls Tryz.prog 30 #[.int .i64 3] W fun e w' => e = .returned (.bool true) ∧ W = w') := hid fun W => gdomain_f 3 (by omega) W
  have hn0 : decide ((n : Int) < 0) = false := by simp
  subst hw1
  clear s hv hr hn hm1 hsp
  go_enter Tryz.func80, Tryz.ntmps80
  go_wp2_with (first
    | (go_at_call 28; refine HN.out.mono ?_; rintro e w' ⟨rfl, rfl⟩)
    | (go_at_call 85; refine HU.out.mono ?_; rintro e w' ⟨rfl, rfl⟩)
    | (go_at_call 30; refine (HDm.out _).mono ?_; rintro e w' ⟨rfl, rfl⟩)
    | (go_at_call 114; refine (HE.out _ ((Mod.refl [] _).alloc _)).mono ?_; rintro e w5 ⟨rfl, hv5, hm5⟩
       have hm15 := ((Mod.refl [v] ((w.alloc (.cells #[.bool true, .int .i64 (d : Nat), .int .i64 3, .int .i64 0, .int .i64 0] 157)).alloc (.cells #[.int .i64 0, .int .i64 0] 167))).alloc (.cells #[.int .i64 (d : Nat), .int .i64 3, .int .i64 0, .bool wr] 180)).andThen hm5
       have hk5 := HSP.out.mod hm15 (by have := HL.out; simp; omega)
       have z0 := hk5.cell 0
       have z1 := hk5.cell 1
       simp only [List.getElem?_toArray, List.getElem?_cons_zero, List.getElem?_cons_succ] at z0 z1
       have fz5 := hk5.frozen
       have hz5 := hk5.lt
       have HK5 := hid hk5
       have HV5 := hid hv5
       have HM5 := hid ((HM1.out.mono (T := [v]) (by simp)).andThen hm15)
       clear hv5 hm5 hk5 hm15))
  have h9 := st2_row HK5.out (.int .i64 (dp : Nat)) (.int .i64 0)
  exact bodyPost_ret (ret_row rfl rfl h9.1 _ Tryz.underlying167 size167) rfl ⟨rfl, SE.out _ _ _ HV5.out HM5.out h9.2 (by simp)⟩

set_option maxHeartbeats 4000000 in
/-- 'Pull': n bytes of the page's begin. -/
theorem pull_f (s : SG w m fb x mb kb p bf bp d gt dp L F f es c) (hv : VH w v m db r) (hr : r ≤ 99999) (n : Nat) (hn : n ≤ 255) :
    Calls Tryz.prog 67 #[.pointer (some ⟨x, 0, none⟩), .pointer (some ⟨v, 0, none⟩), .int .i64 3, .agg #[.bool true, .int .i64 (d : Nat), .int .i64 3, .int .i64 0, .int .i64 0], .int .i64 (n : Nat)] w fun e w' => ∃ q, w.heap.size ≤ q ∧ e = .returned (.tuple #[.slice (some ⟨q, 0, none⟩) n n, .int .i64 0]) ∧ Bys w' (some ⟨q, 0, none⟩) n (fun j => F dp (4 + j)) ∧ VH w' v m db (r + 1 + 1) ∧ Tn.Mod [v] w w' := by
  have hm1 : Tn.Mod [] w (w.alloc (.cells #[.bool true, .int .i64 (d : Nat), .int .i64 3, .int .i64 0, .int .i64 0] 157)) := (Mod.refl [] w).alloc _
  have HE := hid (find_f (s.mod0 hm1) (hv.mod0 hm1) (by omega) n hn false)
  have HR : Hid (∀ W, VH W v m db (r + 1) → Tn.Mod [v] w W → Calls Tryz.prog 78 #[.pointer (some ⟨v, 0, none⟩), .int .i64 (dp : Nat), .int .i64 0, .int .i64 (n : Nat)] W _) := hid fun W hvW hmW => vread_f hvW (s.modv hv.blk hmW).ph (by omega) dp 0 n s.d14 (by omega)
  have HM1 := hid hm1
  clear s hv hr hn hm1
  go_enter Tryz.func67, Tryz.ntmps67
  go_wp2_with (first
    | (go_at_call 80; refine HE.out.mono ?_; rintro e w5 ⟨rfl, hv5, hm5⟩
       have HM5 := hid (((HM1.out.mono (T := [v]) (by simp)).andThen hm5).alloc (.cells #[.int .i64 (dp : Nat), .int .i64 0] 167))
       have HR5 := hid (HR.out _ (hv5.mod0 ((Mod.refl [] w5).alloc (.cells #[.int .i64 (dp : Nat), .int .i64 0] 167))) HM5.out)
       clear hv5 hm5)
    | (go_at_call 78; refine HR5.out.mono ?_; rintro e w7 ⟨q, hq7, rfl, hb7, _, hv7, hm7⟩
       have HQ7 := hid hq7
       have HB7 := hid hb7
       have HV7 := hid hv7
       have HM7 := hid (HM5.out.andThen hm7)
       clear hq7 hb7 hv7 hm7))
  go_ret2
  refine ⟨q, by have h1 := HQ7.out; have h2 := HM5.out.size; omega, rfl, ?_, HV7.out, HM7.out⟩
  have h := HB7.out
  simpa using h

set_option maxHeartbeats 4000000 in
/-- 'Push': n bytes to the page's begin. -/
theorem push_f (s : SG w m fb x mb kb p bf bp d gt dp L F f es c) (hv : VH w v m db r) (hr : r ≤ 99999) (n cp : Nat) (hn : n ≤ 255) (sa : Option Addr) (G : Nat → Int) (hB : Bys w sa n G) (hsv : ∀ q off, sa = some ⟨q, off, none⟩ → q ≠ v) :
    Calls Tryz.prog 83 #[.pointer (some ⟨x, 0, none⟩), .pointer (some ⟨v, 0, none⟩), .int .i64 3, .agg #[.bool true, .int .i64 (d : Nat), .int .i64 3, .int .i64 0, .int .i64 0], .slice sa n cp] w fun e w' => e = .returned (.int .i64 0) ∧ PH w' m fb (wrB F dp 0 n G) ∧ VH w' v m db (r + 1) ∧ Tn.Mod [fb, v] w w' := by
  have hm1 : Tn.Mod [] w (w.alloc (.cells #[.bool true, .int .i64 (d : Nat), .int .i64 3, .int .i64 0, .int .i64 0] 157)) := (Mod.refl [] w).alloc _
  have HE := hid (find_f (s.mod0 hm1) (hv.mod0 hm1) (by omega) n hn true)
  have HF : Hid (∀ W, Tn.Mod [v] w W → Calls Tryz.prog 36 #[.pointer (some ⟨m, 0, none⟩), .int .i64 (dp : Nat)] W fun e w' => e = .returned (.tuple #[.agg #[.int .i64 (d : Nat), .int .i64 0, .int .i64 (F dp 2), .int .i64 (F dp 3)], .int .i64 0]) ∧ Tn.Mod [] W w') := hid fun W hW => by
    have h := frame_f (s.modv hv.blk hW).ph dp s.d14
    rwa [s.og, s.ty] at h
  have HW : Hid (∀ W, Tn.Mod [v] w W → Calls Tryz.prog 12 #[.pointer (some ⟨m, 0, none⟩), .int .i64 (dp : Nat), .int .i64 0, .slice sa n cp] W fun e w' => e = .returned (.int .i64 0) ∧ PH w' m fb (wrB F dp 0 n G) ∧ Tn.Mod [fb] W w') := hid fun W hW =>
    write_f (s.modv hv.blk hW).ph dp 0 n cp sa G s.d14 (by omega) (by omega) (by rw [s.og]; omega) (hB.mod hW (fun q off e => by simpa using hsv q off e))
  have HG := hid fun (W : World) (hW : Tn.Mod [v] w W) => (s.modv hv.blk hW).gh.c0
  have HFV := hid (hv.ne s.ph)
  have HXL := hid s.gh.blk.lt
  have HXF := hid (s.gh.blk.ne_ s.ph.fr (by decide))
  have HFL := hid s.ph.fr.lt
  have HVL := hid (And.intro hv.blk.lt hv.mm.lt)
  have hn0 : (n : Int) ≤ 255 := by omega
  have HM1 := hid hm1
  generalize F dp 2 = u2 at HF
  generalize F dp 3 = u3 at HF
  clear s hv hr hn hm1 hB hsv
  go_enter Tryz.func83, Tryz.ntmps83
  go_wp2_with (go_at_call 80; refine HE.out.mono ?_; rintro e w5 ⟨rfl, hv5, hm5⟩
               have HM5 := hid ((HM1.out.mono (T := [v]) (by simp)).andThen hm5)
               have HK5 := hid (Blk.new w5 167 #[.int .i64 (dp : Nat), .int .i64 0])
               have HV5 := hid (hv5.mod0 ((Mod.refl [] w5).alloc (.cells #[.int .i64 (dp : Nat), .int .i64 0] 167)))
               have HM6 := hid (HM5.out.alloc (.cells #[.int .i64 (dp : Nat), .int .i64 0] 167))
               clear hv5 hm5)
  have g0 := HG.out _ (HM6.out.drew)
  have g9 := fun o => HG.out _ ((HM6.out.alloc o).drew)
  have k0 := (HK5.out.mod ((Mod.refl [] _).drew) (by simp)).cell 0
  simp only [List.getElem?_toArray, List.getElem?_cons_zero, List.getElem?_cons_succ] at k0
  have HS1 := hid (And.intro g0 k0)
  have HB6 := hid (Blk.new (w5.alloc (.cells #[.int .i64 (dp : Nat), .int .i64 0] 167)) 70 #[.int .i64 0, .int .i64 0, .int .i64 0, .int .i64 0])
  have hxn : ¬ x = w5.heap.size + 1 := by have h1 := HXL.out; have h2 := HM5.out.size; omega
  have hxn2 : ¬ w5.heap.size + 1 = x := fun e => hxn e.symm
  clear g0 k0
  go_region_held3 (fun w' => w'.cell? ⟨x, 0, none⟩ = some (.pointer (some ⟨m, 0, none⟩)) ∧ w'.cell? ⟨w5.heap.size, 0, none⟩ = some (.int .i64 (dp : Nat))) (first | exact HS1.out | go_keep)
    (first
      | (go_at_call 36; refine (HF.out _ (HM6.out.drew)).mono ?_; rintro e w7 ⟨rfl, hm7⟩
         have hm67 := ((Mod.refl [] (w5.alloc (.cells #[.int .i64 (dp : Nat), .int .i64 0] 167))).drew).andThen hm7
         have hk7 := HK5.out.mod hm67 (by simp)
         have HM7 := hid (HM6.out.andThen (hm67.mono (T := [v]) (by simp)))
         have HK7 := hid hk7
         have HV7 := hid (HV5.out.mod0 hm67)
         have y0 := hk7.cell 0
         have y1 := hk7.cell 1
         simp only [List.getElem?_toArray, List.getElem?_cons_zero, List.getElem?_cons_succ] at y0 y1
         have x0 := HG.out _ HM7.out
         clear hm7 hm67 hk7)
      | (go_at_call 36; refine (HF.out _ ((HM6.out.alloc _).drew)).mono ?_; rintro e w7 ⟨rfl, hm7⟩
         have hm67 := (((Mod.refl [] (w5.alloc (.cells #[.int .i64 (dp : Nat), .int .i64 0] 167))).alloc (.cells #[.int .i64 0, .int .i64 0, .int .i64 0, .int .i64 0] 70)).drew).andThen hm7
         have hk7 := HK5.out.mod hm67 (by simp)
         have hb7 := HB6.out.mod (((Mod.refl [] _).drew).andThen hm7) (by simp)
         have HM7 := hid (HM6.out.andThen (hm67.mono (T := [v]) (by simp)))
         have HK7 := hid hk7
         have HB7 := hid hb7
         have HV7 := hid (HV5.out.mod0 hm67)
         have y0 := hk7.cell 0
         have y1 := hk7.cell 1
         simp only [List.getElem?_toArray, List.getElem?_cons_zero, List.getElem?_cons_succ] at y0 y1
         have fz7 := hb7.frozen
         have ltb7 := hb7.lt
         have t0 := hb7.cell 0
         have t1 := hb7.cell 1
         have t2 := hb7.cell 2
         have t3 := hb7.cell 3
         simp only [World.size_alloc, List.getElem?_toArray, List.getElem?_cons_zero, List.getElem?_cons_succ] at fz7 ltb7 t0 t1 t2 t3
         have x0 := HG.out _ HM7.out
         clear hm7 hm67 hk7 hb7))
  · have HM8 := hid (HM7.out.alloc (.cells #[.int .i64 (d : Nat), .int .i64 0, .int .i64 u2, .int .i64 u3] 70))
    have HV8 := hid (HV7.out.mod0 ((Mod.refl [] w7).alloc (.cells #[.int .i64 (d : Nat), .int .i64 0, .int .i64 u2, .int .i64 u3] 70)))
    have HX8 := hid (show (w7.alloc (Obj.cells #[Value.int .i64 (d : Nat), Value.int .i64 0, Value.int .i64 u2, Value.int .i64 u3] 70)).cell? ⟨x, 0, none⟩ = some (.pointer (some ⟨m, 0, none⟩)) from HG.out _ (HM7.out.alloc _))
    have HY8 := hid (show (w7.alloc (Obj.cells #[Value.int .i64 (d : Nat), Value.int .i64 0, Value.int .i64 u2, Value.int .i64 u3] 70)).cell? ⟨w5.heap.size, 0, none⟩ = some (.int .i64 (dp : Nat)) ∧ (w7.alloc (Obj.cells #[Value.int .i64 (d : Nat), Value.int .i64 0, Value.int .i64 u2, Value.int .i64 u3] 70)).cell? ⟨w5.heap.size, 1, none⟩ = some (.int .i64 0) from ⟨((Mod.refl [] w7).alloc (.cells #[.int .i64 (d : Nat), .int .i64 0, .int .i64 u2, .int .i64 u3] 70)).cell (p := ⟨w5.heap.size, 0, none⟩) (cell_lt y0) (by simp) |>.trans y0, ((Mod.refl [] w7).alloc (.cells #[.int .i64 (d : Nat), .int .i64 0, .int .i64 u2, .int .i64 u3] 70)).cell (p := ⟨w5.heap.size, 1, none⟩) (cell_lt y0) (by simp) |>.trans y1⟩)
    have b8 := (Blk.new w7 70 #[.int .i64 (d : Nat), .int .i64 0, .int .i64 u2, .int .i64 u3]).cell 1
    simp only [List.getElem?_toArray, List.getElem?_cons_zero, List.getElem?_cons_succ] at b8
    clear y0 y1 x0
    generalize w7.alloc (Obj.cells #[Value.int .i64 (d : Nat), Value.int .i64 0, Value.int .i64 u2, Value.int .i64 u3] 70) = W8 at *
    go_wp2
    have s8 := HG.out _ (HM8.out.drew)
    have d8 : Tn.Mod [] W8 W8.drew := (Mod.refl [] W8).drew
    have lt8 := cell_lt HY8.out.1
    have HS8 := hid (And.intro s8 (And.intro ((d8.cell (p := ⟨w5.heap.size, 0, none⟩) lt8 (by simp)).trans HY8.out.1) ((d8.cell (p := ⟨w5.heap.size, 1, none⟩) lt8 (by simp)).trans HY8.out.2)))
    clear s8 d8
    go_region_held3 (fun w' => w'.cell? ⟨x, 0, none⟩ = some (.pointer (some ⟨m, 0, none⟩)) ∧ w'.cell? ⟨w5.heap.size, 0, none⟩ = some (.int .i64 (dp : Nat)) ∧ w'.cell? ⟨w5.heap.size, 1, none⟩ = some (.int .i64 0)) (first | exact HS8.out | go_keep)
      (first
        | (go_at_call 12; refine (HW.out _ (HM8.out.drew)).mono ?_; rintro e w9 ⟨rfl, hp9, hm9⟩
           have HP9 := hid hp9
           have hm89 := ((Mod.refl [fb] W8).drew).andThen hm9
           have HM9 := hid ((HM8.out.mono (T := [fb, v]) (by simp)).andThen (hm89.mono (by simp)))
           have HV9 := hid (HV8.out.mod hm89 (by simpa using fun e => HFV.out.1 e.symm) (by simpa using HFV.out.2.2.2.1))
           have q0 := (hm89.cell (p := ⟨x, 0, none⟩) (cell_lt HX8.out) (by simpa using HXF.out)).trans HX8.out
           have hne : w5.heap.size ≠ fb := by have h1 := HFL.out; have h2 := HM5.out.size; omega
           have q1 := (hm89.cell (p := ⟨w5.heap.size, 0, none⟩) lt8 (by simpa using hne)).trans HY8.out.1
           have q2 := (hm89.cell (p := ⟨w5.heap.size, 1, none⟩) lt8 (by simpa using hne)).trans HY8.out.2
           clear hp9 hm9 hm89 hne))
    go_wp2
    go_ret
    exact ⟨rfl, HP9.out, HV9.out, HM9.out⟩
  · have hmS : Tn.Mod [w5.heap.size + 1] w7 ((((w7.setCell ⟨w5.heap.size + 1, 0, none⟩ (.int .i64 (d : Nat))).setCell ⟨w5.heap.size + 1, 1, none⟩ (.int .i64 0)).setCell ⟨w5.heap.size + 1, 2, none⟩ (.int .i64 u2)).setCell ⟨w5.heap.size + 1, 3, none⟩ (.int .i64 u3)) := ((((Mod.refl _ w7).setCell (p := ⟨w5.heap.size + 1, 0, none⟩) (.inl (by simp)) _).setCell (p := ⟨w5.heap.size + 1, 1, none⟩) (.inl (by simp)) _).setCell (p := ⟨w5.heap.size + 1, 2, none⟩) (.inl (by simp)) _).setCell (p := ⟨w5.heap.size + 1, 3, none⟩) (.inl (by simp)) _
    have hvne : v ≠ w5.heap.size + 1 ∧ db ≠ w5.heap.size + 1 := by have h1 := HVL.out; have h2 := HM5.out.size; omega
    have hm8 := HM7.out.trans hmS (fun t ht => .inr (by have h2 := HM5.out.size; simp at ht; omega))
    have HM8 := hid (hm8)
    have HV8 := hid (HV7.out.mod hmS (by simpa using hvne.1) (by simpa using hvne.2))
    have HX8 := hid (show ((((w7.setCell ⟨w5.heap.size + 1, 0, none⟩ (.int .i64 (d : Nat))).setCell ⟨w5.heap.size + 1, 1, none⟩ (.int .i64 0)).setCell ⟨w5.heap.size + 1, 2, none⟩ (.int .i64 u2)).setCell ⟨w5.heap.size + 1, 3, none⟩ (.int .i64 u3)).cell? ⟨x, 0, none⟩ = some (.pointer (some ⟨m, 0, none⟩)) from HG.out _ hm8)
    have HY8 := hid (show ((((w7.setCell ⟨w5.heap.size + 1, 0, none⟩ (.int .i64 (d : Nat))).setCell ⟨w5.heap.size + 1, 1, none⟩ (.int .i64 0)).setCell ⟨w5.heap.size + 1, 2, none⟩ (.int .i64 u2)).setCell ⟨w5.heap.size + 1, 3, none⟩ (.int .i64 u3)).cell? ⟨w5.heap.size, 0, none⟩ = some (.int .i64 (dp : Nat)) ∧ ((((w7.setCell ⟨w5.heap.size + 1, 0, none⟩ (.int .i64 (d : Nat))).setCell ⟨w5.heap.size + 1, 1, none⟩ (.int .i64 0)).setCell ⟨w5.heap.size + 1, 2, none⟩ (.int .i64 u2)).setCell ⟨w5.heap.size + 1, 3, none⟩ (.int .i64 u3)).cell? ⟨w5.heap.size, 1, none⟩ = some (.int .i64 0) from ⟨(hmS.cell (p := ⟨w5.heap.size, 0, none⟩) (cell_lt y0) (by simp)).trans y0, (hmS.cell (p := ⟨w5.heap.size, 1, none⟩) (cell_lt y0) (by simp)).trans y1⟩)
    have b8 := (((((HB7.out.set_ 0 (.int .i64 (d : Nat))).set_ 1 (.int .i64 0)).set_ 2 (.int .i64 u2)).set_ 3 (.int .i64 u3)).cell 1)
    simp only [World.size_alloc, List.setIfInBounds_toArray, List.set_cons_zero, List.set_cons_succ, List.getElem?_toArray, List.getElem?_cons_zero, List.getElem?_cons_succ] at b8
    clear hmS hvne hm8 HB7 fz7 ltb7 t0 t1 t2 t3 y0 y1 x0
    generalize (((w7.setCell ⟨w5.heap.size + 1, 0, none⟩ (.int .i64 (d : Nat))).setCell ⟨w5.heap.size + 1, 1, none⟩ (.int .i64 0)).setCell ⟨w5.heap.size + 1, 2, none⟩ (.int .i64 u2)).setCell ⟨w5.heap.size + 1, 3, none⟩ (.int .i64 u3) = W8 at *
    go_wp2
    have s8 := HG.out _ (HM8.out.drew)
    have d8 : Tn.Mod [] W8 W8.drew := (Mod.refl [] W8).drew
    have lt8 := cell_lt HY8.out.1
    have HS8 := hid (And.intro s8 (And.intro ((d8.cell (p := ⟨w5.heap.size, 0, none⟩) lt8 (by simp)).trans HY8.out.1) ((d8.cell (p := ⟨w5.heap.size, 1, none⟩) lt8 (by simp)).trans HY8.out.2)))
    clear s8 d8
    go_region_held3 (fun w' => w'.cell? ⟨x, 0, none⟩ = some (.pointer (some ⟨m, 0, none⟩)) ∧ w'.cell? ⟨w5.heap.size, 0, none⟩ = some (.int .i64 (dp : Nat)) ∧ w'.cell? ⟨w5.heap.size, 1, none⟩ = some (.int .i64 0)) (first | exact HS8.out | go_keep)
      (first
        | (go_at_call 12; refine (HW.out _ (HM8.out.drew)).mono ?_; rintro e w9 ⟨rfl, hp9, hm9⟩
           have HP9 := hid hp9
           have hm89 := ((Mod.refl [fb] W8).drew).andThen hm9
           have HM9 := hid ((HM8.out.mono (T := [fb, v]) (by simp)).andThen (hm89.mono (by simp)))
           have HV9 := hid (HV8.out.mod hm89 (by simpa using fun e => HFV.out.1 e.symm) (by simpa using HFV.out.2.2.2.1))
           have q0 := (hm89.cell (p := ⟨x, 0, none⟩) (cell_lt HX8.out) (by simpa using HXF.out)).trans HX8.out
           have hne : w5.heap.size ≠ fb := by have h1 := HFL.out; have h2 := HM5.out.size; omega
           have q1 := (hm89.cell (p := ⟨w5.heap.size, 0, none⟩) lt8 (by simpa using hne)).trans HY8.out.1
           have q2 := (hm89.cell (p := ⟨w5.heap.size, 1, none⟩) lt8 (by simpa using hne)).trans HY8.out.2
           clear hp9 hm9 hm89 hne))
    go_wp2
    go_ret
    exact ⟨rfl, HP9.out, HV9.out, HM9.out⟩
end
end Go.Proofs.YtfolppcadckmaaaGreat
