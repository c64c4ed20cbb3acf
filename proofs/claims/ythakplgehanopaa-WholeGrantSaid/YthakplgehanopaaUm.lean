/-
  Whole: grants: held, Unmap.
-/
import Derived.Test.YthakplgehanopaaMp
import Derived.Deep.RegionHeld3
namespace Go.Proofs.Ythakplgehanopaa
open Go.RowKit Go.Tn Go.MapKept
open Go.Proofs
attribute [local go_sem] look70n look70y store70 del70

def st6 (w : World) (b : Nat) (a0 a1 a2 a3 a4 a5 : Value) : World := (((((w.setCell ⟨b, 0, none⟩ a0).setCell ⟨b, 1, none⟩ a1).setCell ⟨b, 2, none⟩ a2).setCell ⟨b, 3, none⟩ a3).setCell ⟨b, 4, none⟩ a4).setCell ⟨b, 5, none⟩ a5
theorem st6_row {w : World} {b : Nat} {t : TypeId} {o0 o1 o2 o3 o4 o5 : Value} (h : Blk w b t #[o0, o1, o2, o3, o4, o5]) (a0 a1 a2 a3 a4 a5 : Value) : Blk (st6 w b a0 a1 a2 a3 a4 a5) b t #[a0, a1, a2, a3, a4, a5] ∧ Tn.Mod [b] w (st6 w b a0 a1 a2 a3 a4 a5) :=
  ⟨by
    have h1 := (((((h.set_ 0 a0).set_ 1 a1).set_ 2 a2).set_ 3 a3).set_ 4 a4).set_ 5 a5
    simp only [List.setIfInBounds_toArray, List.set_cons_zero, List.set_cons_succ] at h1
    exact h1,
   ((((((Mod.refl [b] w).setCell (p := ⟨b, 0, none⟩) (.inl (by simp)) a0).setCell (p := ⟨b, 1, none⟩) (.inl (by simp)) a1).setCell (p := ⟨b, 2, none⟩) (.inl (by simp)) a2).setCell (p := ⟨b, 3, none⟩) (.inl (by simp)) a3).setCell (p := ⟨b, 4, none⟩) (.inl (by simp)) a4).setCell (p := ⟨b, 5, none⟩) (.inl (by simp)) a5⟩

section
variable {w w' : World} {m fb x mb kb p1 bf bp v db r : Nat} {F F' : Nat → Nat → Int} {f : Int → Option Value} {es : Array MapEntry} {c : Nat}

/-- The one map that there is. -/
def one (M : Int) (wr : Bool) (k : Nat) : Array MapEntry := #[{ key := .agg #[.int .i64 0, .int .i64 0], val := .agg #[.int .i64 0, .int .i64 0, .int .i64 1, .int .i64 0, .int .i64 M, .bool wr], born := k }]

set_option maxRecDepth 100000 in
set_option maxHeartbeats 1000000 in
theorem held_f {M : Int} {wr : Bool} {k : Nat} (g : GH w x m mb kb f (one M wr k) c) : Calls Try.prog 41 #[.pointer (some ⟨x, 0, none⟩), .int .i64 0, .int .i64 0] w fun e w' => e = .returned (.tuple #[.agg #[.int .i64 0, .int .i64 0, .int .i64 1, .int .i64 0, .int .i64 M, .bool wr], .int .i64 0]) ∧ Tn.Mod [] w w' := by
  unfold one at g
  have hm1 : Tn.Mod [] w (w.alloc (.cells #[.int .i64 0, .int .i64 0, .int .i64 0, .int .i64 0, .int .i64 0, .bool false] 104)) := (Mod.refl [] w).alloc _
  have HN := hid (gnone_f (g.mod0 hm1))
  have HDm : Hid (∀ W : World, Calls Try.prog 25 #[.int .i64 0] W fun e w' => e = .returned (.bool true) ∧ W = w') := hid fun W => gdomain_f 0 (by omega) W
  have c2 := (g.mod0 hm1).c2
  have hkm := (g.mod0 hm1).km
  have km : KMy (w.alloc (.cells #[.int .i64 0, .int .i64 0, .int .i64 0, .int .i64 0, .int .i64 0, .bool false] 104)) kb := ⟨_, _, _, hkm⟩
  have kv : mval (w.alloc (.cells #[.int .i64 0, .int .i64 0, .int .i64 0, .int .i64 0, .int .i64 0, .bool false] 104)) kb = .agg #[.int .i64 0, .int .i64 0, .int .i64 1, .int .i64 0, .int .i64 M, .bool wr] := by unfold mval; rw [hkm]; rfl
  clear hkm
  have HK := hid (Blk.new w 104 #[.int .i64 0, .int .i64 0, .int .i64 0, .int .i64 0, .int .i64 0, .bool false])
  have HM1 := hid hm1
  clear g hm1
  go_enter Try.func41, Try.ntmps41
  go_wp2_with (first
    | (go_at_call 23; refine HN.out.mono ?_; rintro e w' ⟨rfl, rfl⟩)
    | (go_at_call 25; refine (HDm.out _).mono ?_; rintro e w' ⟨rfl, rfl⟩))
  refine bodyPost_ret (ret_row rfl rfl ((Blk.new w 104 #[.int .i64 0, .int .i64 0, .int .i64 1, .int .i64 0, .int .i64 M, .bool wr]).mod ((Mod.refl [] _).alloc (.cells #[.int .i64 0, .int .i64 0, .int .i64 1, .int .i64 0, .int .i64 M, .bool wr] 104)) (by simp)) _ Try.underlying104 size104) rfl ⟨rfl, ?_⟩
  exact ((Mod.refl [] w).alloc _).alloc _

set_option maxRecDepth 100000 in
set_option maxHeartbeats 1000000 in
theorem unmap_w {k i : Nat} (p : PH w m fb F) (g : GH w x m mb kb f (one (i : Nat) true k) c) (hi : i < 4) (ht : F i 1 = 1) (hT : 1 ≤ F i 3) (hT2 : F i 3 ≤ 1000) (hC : 1 ≤ F i 2) (hC2 : F i 2 ≤ 1000) :
    Calls Try.prog 17 #[.pointer (some ⟨x, 0, none⟩), .int .i64 0, .int .i64 0] w fun e w' => e = .returned (.int .i64 0) ∧ Tn.Mod [fb, kb] w w' := by
  have HH := hid (held_f g)
  have HP : Hid (∀ W, PH W m fb F → Calls Try.prog 42 #[.pointer (some ⟨m, 0, none⟩), .int .i64 (i : Nat), .int .i64 1] W fun e w' => e = .returned (.int .i64 0) ∧ Tn.Mod [fb] W w') := hid fun W hp => put_1 hp i hi ht hT hT2 hC hC2
  have HKI : Hid (∀ W, Calls Try.prog 39 #[.bool true] W fun e w' => e = .returned (.int .i64 1) ∧ W = w') := hid fun W => kind_f true W
  have HG := hid g
  have HPH := hid p
  have hxf : x ≠ fb := g.blk.ne_ p.fr (by decide)
  have hkf : kb ≠ fb := ne_mapC p.fr g.km
  have HXF := hid hxf
  have HKF := hid hkf
  clear p g hi ht hT hT2 hC hC2 hxf hkf
  go_enter Try.func17, Try.ntmps17
  go_wp2_with (go_at_call 41; refine HH.out.mono ?_; rintro e w5 ⟨rfl, hm5⟩
               have hg5 := HG.out.mod0 (hm5.alloc (.cells #[.int .i64 0, .int .i64 0, .int .i64 1, .int .i64 0, .int .i64 (i : Nat), .bool true] 104))
               have hp5 := HPH.out.mod0 (hm5.alloc (.cells #[.int .i64 0, .int .i64 0, .int .i64 1, .int .i64 0, .int .i64 (i : Nat), .bool true] 104))
               have HG5 := hid hg5
               have HP5 := hid hp5
               have HA5 := hid (Blk.new w5 104 #[.int .i64 0, .int .i64 0, .int .i64 1, .int .i64 0, .int .i64 (i : Nat), .bool true])
               have HM5 := hid (hm5.alloc (.cells #[.int .i64 0, .int .i64 0, .int .i64 1, .int .i64 0, .int .i64 (i : Nat), .bool true] 104))
               clear hm5 hg5 hp5)
  generalize hw6 : w5.alloc (.cells #[.int .i64 0, .int .i64 0, .int .i64 1, .int .i64 0, .int .i64 (i : Nat), .bool true] 104) = w6 at HG5 HP5 HA5 HM5 ⊢
  clear hw6
  have HS0 := hid (show w6.drew.cell? ⟨x, 0, none⟩ = some (.pointer (some ⟨m, 0, none⟩)) ∧ w6.drew.cell? ⟨w5.heap.size, 4, none⟩ = some (.int .i64 (i : Nat)) ∧ w6.drew.cell? ⟨w5.heap.size, 5, none⟩ = some (.bool true) from ⟨HG5.out.c0, HA5.out.cell 4, HA5.out.cell 5⟩)
  have HPC := hid (HP.out _ (HP5.out.mod0 (Mod.refl [] w6).drew))
  have HFS := hid (show fb ≠ w5.heap.size from HP5.out.fr.ne_ HA5.out (by decide))
  go_region_held3 (fun w' => w'.cell? ⟨x, 0, none⟩ = some (.pointer (some ⟨m, 0, none⟩)) ∧ w'.cell? ⟨w5.heap.size, 4, none⟩ = some (.int .i64 (i : Nat)) ∧ w'.cell? ⟨w5.heap.size, 5, none⟩ = some (.bool true)) (first | exact HS0.out | exact HS7.out) (first
    | (go_at_call 39; refine (HKI.out _).mono ?_; rintro e w' ⟨rfl, rfl⟩)
    | (go_at_call 42; refine HPC.out.mono ?_; rintro e w7 ⟨rfl, hm7⟩
       have HM7 := hid hm7
       have HS7 := hid (show w7.cell? ⟨x, 0, none⟩ = some (.pointer (some ⟨m, 0, none⟩)) ∧ w7.cell? ⟨w5.heap.size, 4, none⟩ = some (.int .i64 (i : Nat)) ∧ w7.cell? ⟨w5.heap.size, 5, none⟩ = some (.bool true) from ⟨(hm7.cell (p := ⟨x, 0, none⟩) HG5.out.blk.lt (by simpa using HXF.out)).trans HS0.out.1, (hm7.cell (p := ⟨_, 4, none⟩) HA5.out.lt (by simpa using fun e => HFS.out e.symm)).trans HS0.out.2.1, (hm7.cell (p := ⟨_, 5, none⟩) HA5.out.lt (by simpa using fun e => HFS.out e.symm)).trans HS0.out.2.2⟩)
       clear hm7))
  have hm67 : Tn.Mod [fb] w6 w7 := (Mod.refl [fb] w6).drew.andThen HM7.out
  have hg7 := HG5.out.mod hm67 (by simpa using HXF.out) (by simpa using fun e => HPH.out.fr.ne_map HG.out.mm.imap e.symm) (by simpa using HKF.out)
  have c2 := hg7.c2
  have km : KMy w7 kb := ⟨_, _, _, hg7.km⟩
  have HM67 := hid hm67
  clear hm67 hg7
  go_wp2
  go_ret
  exact ⟨rfl, ((HM5.out.mono (T := [fb, kb]) (by simp)).andThen (HM67.out.mono (by simp))).andThen ((putM_mod _ _ _).mono (by simp))⟩

set_option maxRecDepth 100000 in
set_option maxHeartbeats 1000000 in
theorem unmap_r {k i : Nat} (p : PH w m fb F) (g : GH w x m mb kb f (one (i : Nat) false k) c) (hi : i < 4) (hne : F i 3 ≠ F i 2) (hT : 0 ≤ F i 3) (hT2 : F i 3 ≤ 1000) :
    Calls Try.prog 17 #[.pointer (some ⟨x, 0, none⟩), .int .i64 0, .int .i64 0] w fun e w' => e = .returned (.int .i64 0) ∧ Tn.Mod [fb, kb] w w' := by
  have HH := hid (held_f g)
  have HP : Hid (∀ W, PH W m fb F → Calls Try.prog 42 #[.pointer (some ⟨m, 0, none⟩), .int .i64 (i : Nat), .int .i64 0] W fun e w' => e = .returned (.int .i64 0) ∧ Tn.Mod [fb] W w') := hid fun W hp => put_0 hp i hi hne hT hT2
  have HKI : Hid (∀ W, Calls Try.prog 39 #[.bool false] W fun e w' => e = .returned (.int .i64 0) ∧ W = w') := hid fun W => kind_f false W
  have HG := hid g
  have HPH := hid p
  have hxf : x ≠ fb := g.blk.ne_ p.fr (by decide)
  have hkf : kb ≠ fb := ne_mapC p.fr g.km
  have HXF := hid hxf
  have HKF := hid hkf
  clear p g hi hne hT hT2 hxf hkf
  go_enter Try.func17, Try.ntmps17
  go_wp2_with (go_at_call 41; refine HH.out.mono ?_; rintro e w5 ⟨rfl, hm5⟩
               have hg5 := HG.out.mod0 (hm5.alloc (.cells #[.int .i64 0, .int .i64 0, .int .i64 1, .int .i64 0, .int .i64 (i : Nat), .bool false] 104))
               have hp5 := HPH.out.mod0 (hm5.alloc (.cells #[.int .i64 0, .int .i64 0, .int .i64 1, .int .i64 0, .int .i64 (i : Nat), .bool false] 104))
               have HG5 := hid hg5
               have HP5 := hid hp5
               have HA5 := hid (Blk.new w5 104 #[.int .i64 0, .int .i64 0, .int .i64 1, .int .i64 0, .int .i64 (i : Nat), .bool false])
               have HM5 := hid (hm5.alloc (.cells #[.int .i64 0, .int .i64 0, .int .i64 1, .int .i64 0, .int .i64 (i : Nat), .bool false] 104))
               clear hm5 hg5 hp5)
  generalize hw6 : w5.alloc (.cells #[.int .i64 0, .int .i64 0, .int .i64 1, .int .i64 0, .int .i64 (i : Nat), .bool false] 104) = w6 at HG5 HP5 HA5 HM5 ⊢
  clear hw6
  have HS0 := hid (show w6.drew.cell? ⟨x, 0, none⟩ = some (.pointer (some ⟨m, 0, none⟩)) ∧ w6.drew.cell? ⟨w5.heap.size, 4, none⟩ = some (.int .i64 (i : Nat)) ∧ w6.drew.cell? ⟨w5.heap.size, 5, none⟩ = some (.bool false) from ⟨HG5.out.c0, HA5.out.cell 4, HA5.out.cell 5⟩)
  have HPC := hid (HP.out _ (HP5.out.mod0 (Mod.refl [] w6).drew))
  have HFS := hid (show fb ≠ w5.heap.size from HP5.out.fr.ne_ HA5.out (by decide))
  go_region_held3 (fun w' => w'.cell? ⟨x, 0, none⟩ = some (.pointer (some ⟨m, 0, none⟩)) ∧ w'.cell? ⟨w5.heap.size, 4, none⟩ = some (.int .i64 (i : Nat)) ∧ w'.cell? ⟨w5.heap.size, 5, none⟩ = some (.bool false)) (first | exact HS0.out | exact HS7.out) (first
    | (go_at_call 39; refine (HKI.out _).mono ?_; rintro e w' ⟨rfl, rfl⟩)
    | (go_at_call 42; refine HPC.out.mono ?_; rintro e w7 ⟨rfl, hm7⟩
       have HM7 := hid hm7
       have HS7 := hid (show w7.cell? ⟨x, 0, none⟩ = some (.pointer (some ⟨m, 0, none⟩)) ∧ w7.cell? ⟨w5.heap.size, 4, none⟩ = some (.int .i64 (i : Nat)) ∧ w7.cell? ⟨w5.heap.size, 5, none⟩ = some (.bool false) from ⟨(hm7.cell (p := ⟨x, 0, none⟩) HG5.out.blk.lt (by simpa using HXF.out)).trans HS0.out.1, (hm7.cell (p := ⟨_, 4, none⟩) HA5.out.lt (by simpa using fun e => HFS.out e.symm)).trans HS0.out.2.1, (hm7.cell (p := ⟨_, 5, none⟩) HA5.out.lt (by simpa using fun e => HFS.out e.symm)).trans HS0.out.2.2⟩)
       clear hm7))
  have hm67 : Tn.Mod [fb] w6 w7 := (Mod.refl [fb] w6).drew.andThen HM7.out
  have hg7 := HG5.out.mod hm67 (by simpa using HXF.out) (by simpa using fun e => HPH.out.fr.ne_map HG.out.mm.imap e.symm) (by simpa using HKF.out)
  have c2 := hg7.c2
  have km : KMy w7 kb := ⟨_, _, _, hg7.km⟩
  have HM67 := hid hm67
  clear hm67 hg7
  go_wp2
  go_ret
  exact ⟨rfl, ((HM5.out.mono (T := [fb, kb]) (by simp)).andThen (HM67.out.mono (by simp))).andThen ((putM_mod _ _ _).mono (by simp))⟩
end
end Go.Proofs.Ythakplgehanopaa
