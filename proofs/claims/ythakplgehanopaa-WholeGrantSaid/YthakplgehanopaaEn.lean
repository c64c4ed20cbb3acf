/-
  Whole: grants: entry, permit, frame.
-/
import Derived.Test.YthakplgehanopaaUn
import Derived.Laws.ResultCell
namespace Go.Proofs.Ythakplgehanopaa
open Go.RowKit Go.Tn
open Go.Proofs
theorem field79_0 (t : Int) (p : Option Addr) (w : World) : (Instr.field 79 (.agg #[.int .i64 t, .pointer p]) 0).run Try.prog w = .ok (.int .i64 t) w := by kernel_rfl
theorem field79_1 (t : Int) (p : Option Addr) (w : World) : (Instr.field 79 (.agg #[.int .i64 t, .pointer p]) 1).run Try.prog w = .ok (.pointer p) w := by kernel_rfl
attribute [local go_sem] look69 look69b field79_0 field79_1

theorem ret_row {fn : Func} {p u : Tmp} {ty t : TypeId} {tmps : Array Value} {w : World} {b : Nat} {cs : Array Value} (h : fn.results = #[.cell p ty, .tmp u]) (hp : tmps.getD p undef = .pointer (some ⟨b, 0, none⟩)) (hb : Blk w b t cs)
    (fs : Array Field) (hu : Try.prog.underlying ty = some (.struct fs)) (hi : (Try.prog.info? ty).map (·.size) = some cs.size) : (results fn tmps).run Try.prog w = .ok (.tuple #[.agg cs, tmps.getD u undef]) w := by
  rw [results_cell_tmp h, hp]
  simp only [asAddr, Sem.run_pure, Result.andThen_ok]
  rw [run_loadVar_row w b t ty cs (0, 0) _ hb hu rfl hi]
  rfl
theorem size23 : (Try.prog.info? 23).map (·.size) = some 7 := by kernel_rfl

/-- Seven, six or two cells stored one by one. -/
def st7 (w : World) (b : Nat) (a0 a1 a2 a3 a4 a5 a6 : Value) : World := ((((((w.setCell ⟨b, 0, none⟩ a0).setCell ⟨b, 1, none⟩ a1).setCell ⟨b, 2, none⟩ a2).setCell ⟨b, 3, none⟩ a3).setCell ⟨b, 4, none⟩ a4).setCell ⟨b, 5, none⟩ a5).setCell ⟨b, 6, none⟩ a6
theorem st7_row {w : World} {b : Nat} {t : TypeId} {o0 o1 o2 o3 o4 o5 o6 : Value} (h : Blk w b t #[o0, o1, o2, o3, o4, o5, o6]) (a0 a1 a2 a3 a4 a5 a6 : Value) : Blk (st7 w b a0 a1 a2 a3 a4 a5 a6) b t #[a0, a1, a2, a3, a4, a5, a6] ∧ Tn.Mod [b] w (st7 w b a0 a1 a2 a3 a4 a5 a6) :=
  ⟨by
    have h1 := ((((((h.set_ 0 a0).set_ 1 a1).set_ 2 a2).set_ 3 a3).set_ 4 a4).set_ 5 a5).set_ 6 a6
    simp only [List.setIfInBounds_toArray, List.set_cons_zero, List.set_cons_succ] at h1
    exact h1,
   (((((((Mod.refl [b] w).setCell (p := ⟨b, 0, none⟩) (.inl (by simp)) a0).setCell (p := ⟨b, 1, none⟩) (.inl (by simp)) a1).setCell (p := ⟨b, 2, none⟩) (.inl (by simp)) a2).setCell (p := ⟨b, 3, none⟩) (.inl (by simp)) a3).setCell (p := ⟨b, 4, none⟩) (.inl (by simp)) a4).setCell (p := ⟨b, 5, none⟩) (.inl (by simp)) a5).setCell (p := ⟨b, 6, none⟩) (.inl (by simp)) a6⟩

/-- The machine, the grants and domain 1's places, side by side. -/
structure SG (w : World) (m fb x mb kb p1 bf bp : Nat) (F : Nat → Nat → Int) (f : Int → Option Value) (es : Array MapEntry) (c : Nat) : Prop where
  ph : PH w m fb F
  gh : GH w x m mb kb f es c
  pm : Pm.PM w p1 bf bp [2, 3]
  fo : f 1 = some (mem 2 p1)
  o2 : F 2 0 = 1
  t2 : F 2 1 = 1
  o3 : F 3 0 = 1

section
variable {w w' : World} {m fb x mb kb p1 bf bp v db r : Nat} {F F' : Nat → Nat → Int} {f : Int → Option Value} {es : Array MapEntry} {c : Nat}

theorem ne_mapC {b : Nat} {t : TypeId} {cs : Array Value} {k : Nat} {es : Array MapEntry} {c : Nat} (h : Blk w b t cs) (hk : w.heap[k]? = some (.map es c)) : k ≠ b := by
  rintro rfl
  unfold Blk at h
  rw [hk] at h
  cases h

theorem SG.step (h : SG w m fb x mb kb p1 bf bp F f es c) {v : Nat} {cs : Array Value} (hv : Blk w v 89 cs) (hm : Tn.Mod [fb, v] w w') (hp : PH w' m fb F') (o2 : F' 2 0 = 1) (t2 : F' 2 1 = 1) (o3 : F' 3 0 = 1) : SG w' m fb x mb kb p1 bf bp F' f es c := by
  have hf := h.ph.fr
  refine ⟨hp, h.gh.mod hm ?_ ?_ ?_, h.pm.mod hm ?_ ?_ ?_, h.fo, o2, t2, o3⟩
  · simpa using ⟨h.gh.blk.ne_ hf (by decide), h.gh.blk.ne_ hv (by decide)⟩
  · simpa using ⟨fun e => hf.ne_map h.gh.mm.imap e.symm, fun e => hv.ne_map h.gh.mm.imap e.symm⟩
  · simpa using ⟨ne_mapC hf h.gh.km, ne_mapC hv h.gh.km⟩
  · simpa using ⟨h.pm.blk.ne_ hf (by decide), h.pm.blk.ne_ hv (by decide)⟩
  · simpa using ⟨fun e => hf.ne_map h.pm.mf.imap e.symm, fun e => hv.ne_map h.pm.mf.imap e.symm⟩
  · simpa using ⟨fun e => hf.ne_map h.pm.mp.imap e.symm, fun e => hv.ne_map h.pm.mp.imap e.symm⟩
theorem SG.mod0 (h : SG w m fb x mb kb p1 bf bp F f es c) (hm : Tn.Mod [] w w') : SG w' m fb x mb kb p1 bf bp F f es c :=
  ⟨h.ph.mod0 hm, h.gh.mod0 hm, h.pm.mod hm (by simp) (by simp) (by simp), h.fo, h.o2, h.t2, h.o3⟩

/-- Frame 2 begins with the bytes of that grant. -/
def Lies (F : Nat → Nat → Int) (K : Int) (ro sub : Bool) (D P O L : Int) : Prop := ∀ j, j < 8 → F 2 (4 + j) = gB K ro sub D P O L j

/-- What entry answers. -/
def EnOk (e : Ending) (K : Int) (ro sub : Bool) (D P O L : Int) : Prop := e = .returned (.tuple #[.agg #[.int .i64 K, .bool ro, .bool sub, .int .i64 D, .int .i64 P, .int .i64 (gOff sub O), .int .i64 (gLen sub L)], .int .i64 0])

set_option maxRecDepth 100000 in
set_option maxHeartbeats 2000000 in
theorem entry_f {len : Nat} {G : Nat → Int} (s : SG w m fb x mb kb p1 bf bp F f es c) (hv : VH w v m db r) (d : Due w v db r len G 0) (hl : len ≤ 256) (hfv : fb < v) (hr : r ≤ 100)
    (K : Int) (ro sub : Bool) (D P O L : Int) (ok : GOk K D P O L) (hb : Lies F K ro sub D P O L) :
    Calls Try.prog 50 #[.pointer (some ⟨x, 0, none⟩), .pointer (some ⟨v, 0, none⟩), .int .i64 1, .int .i64 0] w fun e w' => EnOk e K ro sub D P O L ∧ SG w' m fb x mb kb p1 bf bp F f es c ∧ VH w' v m db (r + 1) ∧ Tn.Mod [fb, v] w w' := by
  have hm1 : Tn.Mod [] w (w.alloc (.cells #[.int .i64 0, .bool false, .bool false, .int .i64 0, .int .i64 0, .int .i64 0, .int .i64 0] 23)) := (Mod.refl [] w).alloc _
  have s1 := s.mod0 hm1
  have v1 := hv.mod0 hm1
  have hR : Calls Try.prog 32 #[.pointer (some ⟨v, 0, none⟩), .int .i64 2, .int .i64 0, .int .i64 8] _ _ := vread_f v1 s1.ph s.o2 s.t2 (d.mod hm1 (by simp) (by simp) hv.mm) hl hfv hr 2 0 8 (by omega) (by omega)
  have c1 := s1.gh.c1
  have mm := s1.gh.mm
  have mg : _ = some (Value.agg #[Value.int .i64 2, Value.pointer (some ⟨p1, 0, none⟩)]) := (s1.gh.mg 1).trans s.fo
  have hU : ∀ W q, Bys W (some ⟨q, 0, none⟩) 8 (fun j => rw2 F 0 len G 2 (4 + 0 + j)) → Calls Try.prog 11 #[.slice (some ⟨q, 0, none⟩) 8 8] W fun e w' => e = .returned (.tuple #[.agg #[.int .i64 K, .bool ro, .bool sub, .int .i64 D, .int .i64 P, .int .i64 (gOff sub O), .int .i64 (gLen sub L)], .int .i64 0]) ∧ Tn.Mod [] W w' := fun W q h => by
    refine unpack_ok K ro sub D P O L q 8 W ok fun h0 => ?_
    obtain ⟨b, off, h1, h2, h3⟩ := h h0
    refine ⟨b, off, h1, h2, fun j hj => (h3 j hj).trans ?_⟩
    have := hb j hj
    show some (Value.int .u8 (F 2 (4 + 0 + j))) = _
    rw [show 4 + 0 + j = 4 + j by omega, this]
  have hlt : fb < w.heap.size ∧ v < w.heap.size := ⟨s.ph.fr.lt, hv.blk.lt⟩
  have hbk := Blk.new w 23 #[.int .i64 0, .bool false, .bool false, .int .i64 0, .int .i64 0, .int .i64 0, .int .i64 0]
  have SE : Hid (∀ w5 w7 W, PH w5 m fb (rw2 F 0 len G) → VH w5 v m db (r + 1) → Tn.Mod [fb, v] w w5 → Tn.Mod [] w5 w7 → Tn.Mod [w.heap.size] w7 W → SG W m fb x mb kb p1 bf bp F f es c ∧ VH W v m db (r + 1) ∧ Tn.Mod [fb, v] w W) := hid fun w5 w7 W hp hv5 h1 h2 h3 => by
    have h4 := (h1.andThen (h2.mono (by simp))).trans h3 (by simp)
    have hl1 := s.ph.blk.lt
    have hl2 := s.ph.fr.lt
    have hl3 := hv.blk.lt
    have hl4 := hv.mm.lt
    have hp7 : PH W m fb F := (hp.mod0 h2).mod h3 (by simp; omega) (by simp; omega)
    exact ⟨s.step hv.blk h4 hp7 s.o2 s.t2 s.o3, (hv5.mod0 h2).mod h3 (by simp; omega) (by simp; omega), h4⟩
  have HR := hid hR
  have HU := hid hU
  have S1 := hid s1
  have V1 := hid v1
  have HM1 := hid hm1
  have HK := hid hbk
  have HL := hid hlt
  clear hR s1 v1 s hv d hl hfv hr hb ok hm1 hU hbk hlt
  go_enter Try.func50, Try.ntmps50
  go_wp2_with (first
    | (go_at_call 32; refine HR.out.mono ?_; rintro e w5 ⟨q, rfl, hb5, hp5, hv5, hm5⟩
       have HK5 := hid (HK.out.mod hm5 (by have := HL.out; simp; omega))
       have HB5 := hid hb5
       have HP5 := hid hp5
       have HV5 := hid hv5
       have HM5 := hid ((HM1.out.mono (T := [fb, v]) (by simp)).andThen hm5)
       clear hb5 hp5 hv5 hm5)
    | (go_at_call 11
       refine (HU.out _ _ HB5.out).mono ?_
       rintro e w7 ⟨rfl, hm7⟩
       have HM7 := hid hm7
       have hk7 := HK5.out.mod hm7 (by simp)
       have z0 := hk7.cell 0
       have z1 := hk7.cell 1
       have z2 := hk7.cell 2
       have z3 := hk7.cell 3
       have z4 := hk7.cell 4
       have z5 := hk7.cell 5
       have z6 := hk7.cell 6
       simp only [List.getElem?_toArray, List.getElem?_cons_zero, List.getElem?_cons_succ] at z0 z1 z2 z3 z4 z5 z6
       have fz7 := hk7.frozen
       have hz7 := hk7.lt
       have HK7 := hid hk7
       clear hm7 hk7))
  have h9 := st7_row HK7.out (.int .i64 K) (.bool ro) (.bool sub) (.int .i64 D) (.int .i64 P) (.int .i64 (gOff sub O)) (.int .i64 (gLen sub L))
  have hm9 := h9.2.alloc (.cells #[.int .i64 K, .bool ro, .bool sub, .int .i64 D, .int .i64 P, .int .i64 (gOff sub O), .int .i64 (gLen sub L)] 23)
  refine bodyPost_ret (ret_row rfl rfl (h9.1.mod ((Mod.refl [] _).alloc (.cells #[.int .i64 K, .bool ro, .bool sub, .int .i64 D, .int .i64 P, .int .i64 (gOff sub O), .int .i64 (gLen sub L)] 23)) (by simp)) _ Try.underlying23 size23) rfl ⟨rfl, SE.out _ _ _ HP5.out HV5.out HM5.out HM7.out hm9⟩
/-- What permit answers. -/
def PeOk (e : Ending) (K : Int) (ro sub : Bool) (D P O L : Int) : Prop := ∃ g : Int, e = .returned (.tuple #[.agg #[.int .i64 K, .bool ro, .bool sub, .int .i64 D, .int .i64 P, .int .i64 (gOff sub O), .int .i64 (gLen sub L)], .int .i64 g]) ∧ g = if K = 1 ∧ D = 0 then 0 else 60

set_option maxRecDepth 100000 in
set_option maxHeartbeats 4000000 in
theorem permit_f {len : Nat} {G : Nat → Int} (s : SG w m fb x mb kb p1 bf bp F f es c) (hv : VH w v m db r) (d : Due w v db r len G 0) (hl : len ≤ 256) (hfv : fb < v) (hr : r ≤ 100)
    (K : Int) (ro sub : Bool) (D P O L : Int) (ok : GOk K D P O L) (hb : Lies F K ro sub D P O L) :
    Calls Try.prog 37 #[.pointer (some ⟨x, 0, none⟩), .pointer (some ⟨v, 0, none⟩), .int .i64 0, .int .i64 1, .int .i64 0] w fun e w' => PeOk e K ro sub D P O L ∧ SG w' m fb x mb kb p1 bf bp F f es c ∧ VH w' v m db (r + 1) ∧ Tn.Mod [fb, v] w w' := by
  have hm1 : Tn.Mod [] w (w.alloc (.cells #[.int .i64 0, .bool false, .bool false, .int .i64 0, .int .i64 0, .int .i64 0, .int .i64 0] 23)) := (Mod.refl [] w).alloc _
  have hE := entry_f (s.mod0 hm1) (hv.mod0 hm1) (d.mod hm1 (by simp) (by simp) hv.mm) hl hfv hr K ro sub D P O L ok hb
  unfold EnOk at hE
  have hlt : fb < w.heap.size ∧ v < w.heap.size := ⟨s.ph.fr.lt, hv.blk.lt⟩
  have hbk := Blk.new w 23 #[.int .i64 0, .bool false, .bool false, .int .i64 0, .int .i64 0, .int .i64 0, .int .i64 0]
  have SE : Hid (∀ w5 W, SG w5 m fb x mb kb p1 bf bp F f es c → VH w5 v m db (r + 1) → Tn.Mod [fb, v] w w5 → Tn.Mod [w.heap.size] w5 W → SG W m fb x mb kb p1 bf bp F f es c ∧ VH W v m db (r + 1) ∧ Tn.Mod [fb, v] w W) := hid fun w5 W hs hv5 h1 h3 => by
    have h4 := h1.trans h3 (by simp)
    have hl1 := s.ph.blk.lt
    have hl2 := s.ph.fr.lt
    have hl3 := hv.blk.lt
    have hl4 := hv.mm.lt
    have hp7 : PH W m fb F := hs.ph.mod h3 (by simp; omega) (by simp; omega)
    exact ⟨s.step hv.blk h4 hp7 s.o2 s.t2 s.o3, hv5.mod h3 (by simp; omega) (by simp; omega), h4⟩
  have HE := hid hE
  have HM1 := hid hm1
  have HK := hid hbk
  have HL := hid hlt
  have RET : Hid (∀ (w5 : World) (g : Int) (tmps : Array Value), g = (if K = 1 ∧ D = 0 then 0 else 60) → SG w5 m fb x mb kb p1 bf bp F f es c → VH w5 v m db (r + 1) → Tn.Mod [fb, v] w w5 → Blk w5 w.heap.size 23 #[.int .i64 0, .bool false, .bool false, .int .i64 0, .int .i64 0, .int .i64 0, .int .i64 0] → tmps.getD 10 undef = .pointer (some ⟨w.heap.size, 0, none⟩) → tmps.getD 11 undef = .int .i64 g →
      bodyPost Try.prog Try.f37 (fun e w' => PeOk e K ro sub D P O L ∧ SG w' m fb x mb kb p1 bf bp F f es c ∧ VH w' v m db (r + 1) ∧ Tn.Mod [fb, v] w w') .ret { tmps := tmps, defers := [] } ((st7 w5 w.heap.size (.int .i64 K) (.bool ro) (.bool sub) (.int .i64 D) (.int .i64 P) (.int .i64 (gOff sub O)) (.int .i64 (gLen sub L))).alloc (.cells #[.int .i64 K, .bool ro, .bool sub, .int .i64 D, .int .i64 P, .int .i64 (gOff sub O), .int .i64 (gLen sub L)] 23))) := hid fun w5 g tmps hg hs hv5 hm5 hk ht ht2 => by
    have h9 := st7_row hk (.int .i64 K) (.bool ro) (.bool sub) (.int .i64 D) (.int .i64 P) (.int .i64 (gOff sub O)) (.int .i64 (gLen sub L))
    have hm9 := h9.2.alloc (.cells #[.int .i64 K, .bool ro, .bool sub, .int .i64 D, .int .i64 P, .int .i64 (gOff sub O), .int .i64 (gLen sub L)] 23)
    refine bodyPost_ret (ret_row rfl ht (h9.1.mod ((Mod.refl [] _).alloc (.cells #[.int .i64 K, .bool ro, .bool sub, .int .i64 D, .int .i64 P, .int .i64 (gOff sub O), .int .i64 (gLen sub L)] 23)) (by simp)) _ Try.underlying23 size23) rfl ⟨⟨g, ?_, hg⟩, SE.out _ _ hs hv5 hm5 hm9⟩
    rw [ht2]
  clear s hv d hl hfv hr hb ok hbk hlt hE hm1
  by_cases hK : K = 1
  · by_cases hD : D = 0
    · have e1 : (K != 1) = false := by simp [hK]
      have e2 : (D != 0) = false := by simp [hD]
      have HG := hid (show (0 : Int) = (if K = 1 ∧ D = 0 then 0 else 60) by simp [hK, hD])
      clear hK hD
      go_enter Try.func37, Try.ntmps37
      go_wp2_with (go_at_call 50; refine HE.out.mono ?_; rintro e w5 ⟨rfl, hs5, hv5, hm5⟩
                   have hk5 := HK.out.mod hm5 (by have := HL.out; simp; omega)
                   have z0 := hk5.cell 0
                   have z1 := hk5.cell 1
                   have z2 := hk5.cell 2
                   have z3 := hk5.cell 3
                   have z4 := hk5.cell 4
                   have z5 := hk5.cell 5
                   have z6 := hk5.cell 6
                   simp only [List.getElem?_toArray, List.getElem?_cons_zero, List.getElem?_cons_succ] at z0 z1 z2 z3 z4 z5 z6
                   have fz5 := hk5.frozen
                   have hz5 := hk5.lt
                   have HK5 := hid hk5
                   have HS5 := hid hs5
                   have HV5 := hid hv5
                   have HM5 := hid ((HM1.out.mono (T := [fb, v]) (by simp)).andThen hm5)
                   clear hs5 hv5 hm5 hk5)
      exact RET.out _ _ _ HG.out HS5.out HV5.out HM5.out HK5.out rfl rfl
    · have e1 : (K != 1) = false := by simp [hK]
      have e2 : (D != 0) = true := by simp [hD]
      have HG := hid (show (60 : Int) = (if K = 1 ∧ D = 0 then 0 else 60) by simp [hD])
      clear hK hD
      go_enter Try.func37, Try.ntmps37
      go_wp2_with (go_at_call 50; refine HE.out.mono ?_; rintro e w5 ⟨rfl, hs5, hv5, hm5⟩
                   have hk5 := HK.out.mod hm5 (by have := HL.out; simp; omega)
                   have z0 := hk5.cell 0
                   have z1 := hk5.cell 1
                   have z2 := hk5.cell 2
                   have z3 := hk5.cell 3
                   have z4 := hk5.cell 4
                   have z5 := hk5.cell 5
                   have z6 := hk5.cell 6
                   simp only [List.getElem?_toArray, List.getElem?_cons_zero, List.getElem?_cons_succ] at z0 z1 z2 z3 z4 z5 z6
                   have fz5 := hk5.frozen
                   have hz5 := hk5.lt
                   have HK5 := hid hk5
                   have HS5 := hid hs5
                   have HV5 := hid hv5
                   have HM5 := hid ((HM1.out.mono (T := [fb, v]) (by simp)).andThen hm5)
                   clear hs5 hv5 hm5 hk5)
      exact RET.out _ _ _ HG.out HS5.out HV5.out HM5.out HK5.out rfl rfl
  · have e1 : (K != 1) = true := by simp [hK]
    have HG := hid (show (60 : Int) = (if K = 1 ∧ D = 0 then 0 else 60) by simp [hK])
    clear hK
    go_enter Try.func37, Try.ntmps37
    go_wp2_with (go_at_call 50; refine HE.out.mono ?_; rintro e w5 ⟨rfl, hs5, hv5, hm5⟩
                 have hk5 := HK.out.mod hm5 (by have := HL.out; simp; omega)
                 have z0 := hk5.cell 0
                 have z1 := hk5.cell 1
                 have z2 := hk5.cell 2
                 have z3 := hk5.cell 3
                 have z4 := hk5.cell 4
                 have z5 := hk5.cell 5
                 have z6 := hk5.cell 6
                 simp only [List.getElem?_toArray, List.getElem?_cons_zero, List.getElem?_cons_succ] at z0 z1 z2 z3 z4 z5 z6
                 have fz5 := hk5.frozen
                 have hz5 := hk5.lt
                 have HK5 := hid hk5
                 have HS5 := hid hs5
                 have HV5 := hid hv5
                 have HM5 := hid ((HM1.out.mono (T := [fb, v]) (by simp)).andThen hm5)
                 clear hs5 hv5 hm5 hk5)
    exact RET.out _ _ _ HG.out HS5.out HV5.out HM5.out HK5.out rfl rfl
end
end Go.Proofs.Ythakplgehanopaa
