/-
  Whole: grants: Map.
-/
import Derived.Test.YthakplgehanopaaUm
namespace Go.Proofs.Ythakplgehanopaa
open Go.RowKit Go.Tn Go.MapKept
open Go.Proofs
attribute [local go_sem] look70n look70y store70 del70

/-- Why a map is refused (0: it is not). -/
def mE (K : Int) (ro sub : Bool) (D P : Int) (wr : Bool) : Int := if ¬ (K = 1 ∧ D = 0) then 60 else if sub = true then 61 else if (wr && ro) = true then 62 else if ¬ P < 2 then 60 else 0

section
variable {w w' : World} {m fb x mb kb p1 bf bp v db r : Nat} {F F' : Nat → Nat → Int} {f : Int → Option Value} {es : Array MapEntry} {c : Nat}

def MaNo (e : Ending) (g : Int) : Prop := e = .returned (.tuple #[.int .i64 0, .int .i64 g])

set_option maxRecDepth 100000 in
set_option maxHeartbeats 4000000 in
theorem map_no {len : Nat} {G : Nat → Int} (s : SG w m fb x mb kb p1 bf bp F f #[] c) (hv : VH w v m db r) (d : Due w v db r len G 0) (hl : len ≤ 256) (hfv : fb < v) (hr : r ≤ 100)
    (K : Int) (ro sub : Bool) (D P O L : Int) (ok : GOk K D P O L) (hb : Lies F K ro sub D P O L) (wr : Bool) (he : mE K ro sub D P wr ≠ 0) :
    Calls Try.prog 15 #[.pointer (some ⟨x, 0, none⟩), .pointer (some ⟨v, 0, none⟩), .int .i64 0, .int .i64 1, .int .i64 0, .bool wr] w fun e w' => MaNo e (mE K ro sub D P wr) ∧ SG w' m fb x mb kb p1 bf bp F f #[] c ∧ VH w' v m db (r + 1) ∧ Tn.Mod [fb, v] w w' := by
  have hE : ∀ W, Tn.Mod [] w W → Calls Try.prog 37 #[.pointer (some ⟨x, 0, none⟩), .pointer (some ⟨v, 0, none⟩), .int .i64 0, .int .i64 1, .int .i64 0] W fun e w' => ∃ g : Int, e = .returned (.tuple #[.agg #[.int .i64 K, .bool ro, .bool sub, .int .i64 D, .int .i64 P, .int .i64 (gOff sub O), .int .i64 (gLen sub L)], .int .i64 g]) ∧ g = (if K = 1 ∧ D = 0 then 0 else 60) ∧ SG w' m fb x mb kb p1 bf bp F f #[] c ∧ VH w' v m db (r + 1) ∧ Tn.Mod [fb, v] W w' := fun W hW => by
    refine (permit_f (s.mod0 hW) (hv.mod0 hW) (d.mod hW (by simp) (by simp) hv.mm) hl hfv hr K ro sub D P O L ok hb).mono ?_
    rintro e w' ⟨⟨g, he, hg⟩, h⟩
    exact ⟨g, he, hg, h⟩
  have HE := hid hE
  have HN := hid (gnone_f s.gh)
  have HU := hid (unmade_f hv)
  have HDm : Hid (∀ W : World, Calls Try.prog 25 #[.int .i64 0] W fun e w' => e = .returned (.bool true) ∧ W = w') := hid fun W => gdomain_f 0 (by omega) W
  have HSL : Hid (∀ W : World, Calls Try.prog 35 #[.int .i64 0] W fun e w' => e = .returned (.bool true) ∧ W = w') := hid fun W => slot_f 0 (by omega) W
  have HJ := hid (show Calls Try.prog 34 #[.pointer (some ⟨x, 0, none⟩), .int .i64 1] w fun e w' => e = .returned (.bool true) ∧ Tn.Mod [] w w' from joined_yes s.gh 1 2 p1 s.fo)
  have HMP := hid (fun (W : World) (hs : SG W m fb x mb kb p1 bf bp F f #[] c) => maps_f hs.gh)
  have SE : Hid (∀ (w5 W : World) (T : List Nat), SG w5 m fb x mb kb p1 bf bp F f #[] c → VH w5 v m db (r + 1) → Tn.Mod [fb, v] w w5 → Tn.Mod T w5 W → (∀ t ∈ T, w.heap.size ≤ t) → SG W m fb x mb kb p1 bf bp F f #[] c ∧ VH W v m db (r + 1) ∧ Tn.Mod [fb, v] w W) := hid fun w5 W T hs hv5 h1 h3 hT => s.on hv hs hv5 h1 h3 hT
  have HS := hid s
  have HV := hid hv
  have p0 := ok.p0
  have p1' := ok.p1
  clear s hv d hl hfv hr ok hb hE
  by_cases hKD : K = 1 ∧ D = 0
  · have HG := hid (show (if K = 1 ∧ D = 0 then (0 : Int) else 60) = 0 by rw [if_pos hKD])
    have HKD := hid hKD
    cases sub
    · cases hwr : (wr && ro)
      · by_cases hP : 2 ≤ P
        · have HF := hid (show MaNo (.returned (.tuple #[.int .i64 0, .int .i64 60])) (mE K ro false D P wr) by unfold mE MaNo; rw [if_neg (by simpa using hKD), if_neg (by decide), if_neg (by rw [hwr]; decide), if_pos (by omega)])
          have HWR := hid hwr
          clear hKD hwr he
          cases wr
          all_goals cases ro
          all_goals first
            | exact absurd HWR.out (by decide)
            | skip
          all_goals
            go_enter Try.func15, Try.ntmps15
            go_wp2_with (first
              | (go_at_call 23; refine HN.out.mono ?_; rintro e w' ⟨rfl, rfl⟩)
              | (go_at_call 33; refine HU.out.mono ?_; rintro e w' ⟨rfl, rfl⟩)
              | (go_at_call 25; refine (HDm.out _).mono ?_; rintro e w' ⟨rfl, rfl⟩)
              | (go_at_call 34; refine HJ.out.mono ?_; rintro e w2 ⟨rfl, hm2⟩; have HM2 := hid hm2; clear hm2)
              | (go_at_call 35; refine (HSL.out _).mono ?_; rintro e w' ⟨rfl, rfl⟩)
              | (go_at_call 36; refine (HMP.out _ (HS.out.mod0 HM2.out)).mono ?_; rintro e w3 ⟨rfl, hm3⟩; have HM3 := hid (HM2.out.andThen hm3); clear hm3)
              | (go_at_call 37; refine (HE.out _ HM3.out).mono ?_; rintro e w5 ⟨g, rfl, hg, hs5, hv5, hm5⟩
                 obtain rfl := hg.trans HG.out
                 have HS5 := hid hs5
                 have HV5 := hid hv5
                 have HM5 := hid ((HM3.out.mono (T := [fb, v]) (by simp)).andThen hm5)
                 clear hs5 hv5 hm5 hg)
              | (go_at_call 38; refine (gframe_no (HS5.out.mod0 ((Mod.refl [] w5).alloc _)) P hP).mono ?_; rintro e w7 ⟨rfl, hm7⟩
                 have HM57 := hid (((Mod.refl [] w5).alloc (.cells #[.int .i64 K, .bool _, .bool false, .int .i64 D, .int .i64 P, .int .i64 (gOff false O), .int .i64 (gLen false L)] 23)).andThen hm7)
                 clear hm7))
            go_ret2
            exact ⟨HF.out, SE.out _ _ _ HS5.out HV5.out HM5.out HM57.out (by simp)⟩
        · exact absurd (by unfold mE; rw [if_neg (by simpa using hKD), if_neg (by decide), if_neg (by rw [hwr]; decide), if_neg (by omega)]) he
      · have HF := hid (show MaNo (.returned (.tuple #[.int .i64 0, .int .i64 62])) (mE K ro false D P wr) by unfold mE MaNo; rw [if_neg (by simpa using hKD), if_neg (by decide), if_pos hwr])
        have HWR := hid hwr
        clear hKD hwr he
        cases wr
        all_goals cases ro
        all_goals first
          | exact absurd HWR.out (by decide)
          | skip
        all_goals
          go_enter Try.func15, Try.ntmps15
          go_wp2_with (first
            | (go_at_call 23; refine HN.out.mono ?_; rintro e w' ⟨rfl, rfl⟩)
            | (go_at_call 33; refine HU.out.mono ?_; rintro e w' ⟨rfl, rfl⟩)
            | (go_at_call 25; refine (HDm.out _).mono ?_; rintro e w' ⟨rfl, rfl⟩)
            | (go_at_call 34; refine HJ.out.mono ?_; rintro e w2 ⟨rfl, hm2⟩; have HM2 := hid hm2; clear hm2)
            | (go_at_call 35; refine (HSL.out _).mono ?_; rintro e w' ⟨rfl, rfl⟩)
            | (go_at_call 36; refine (HMP.out _ (HS.out.mod0 HM2.out)).mono ?_; rintro e w3 ⟨rfl, hm3⟩; have HM3 := hid (HM2.out.andThen hm3); clear hm3)
            | (go_at_call 37; refine (HE.out _ HM3.out).mono ?_; rintro e w5 ⟨g, rfl, hg, hs5, hv5, hm5⟩
               obtain rfl := hg.trans HG.out
               have HS5 := hid hs5
               have HV5 := hid hv5
               have HM5 := hid ((HM3.out.mono (T := [fb, v]) (by simp)).andThen hm5)
               clear hs5 hv5 hm5 hg))
          go_ret2
          exact ⟨HF.out, SE.out _ _ _ HS5.out HV5.out HM5.out ((Mod.refl [] w5).alloc (.cells #[.int .i64 K, .bool true, .bool false, .int .i64 D, .int .i64 P, .int .i64 (gOff false O), .int .i64 (gLen false L)] 23)) (by simp)⟩
    · have HF := hid (show MaNo (.returned (.tuple #[.int .i64 0, .int .i64 61])) (mE K ro true D P wr) by unfold mE MaNo; rw [if_neg (by simpa using hKD), if_pos rfl])
      clear hKD he
      go_enter Try.func15, Try.ntmps15
      go_wp2_with (first
        | (go_at_call 23; refine HN.out.mono ?_; rintro e w' ⟨rfl, rfl⟩)
        | (go_at_call 33; refine HU.out.mono ?_; rintro e w' ⟨rfl, rfl⟩)
        | (go_at_call 25; refine (HDm.out _).mono ?_; rintro e w' ⟨rfl, rfl⟩)
        | (go_at_call 34; refine HJ.out.mono ?_; rintro e w2 ⟨rfl, hm2⟩; have HM2 := hid hm2; clear hm2)
        | (go_at_call 35; refine (HSL.out _).mono ?_; rintro e w' ⟨rfl, rfl⟩)
        | (go_at_call 36; refine (HMP.out _ (HS.out.mod0 HM2.out)).mono ?_; rintro e w3 ⟨rfl, hm3⟩; have HM3 := hid (HM2.out.andThen hm3); clear hm3)
        | (go_at_call 37; refine (HE.out _ HM3.out).mono ?_; rintro e w5 ⟨g, rfl, hg, hs5, hv5, hm5⟩
           obtain rfl := hg.trans HG.out
           have HS5 := hid hs5
           have HV5 := hid hv5
           have HM5 := hid ((HM3.out.mono (T := [fb, v]) (by simp)).andThen hm5)
           clear hs5 hv5 hm5 hg))
      go_ret2
      exact ⟨HF.out, SE.out _ _ _ HS5.out HV5.out HM5.out ((Mod.refl [] w5).alloc (.cells #[.int .i64 K, .bool ro, .bool true, .int .i64 D, .int .i64 P, .int .i64 (gOff true O), .int .i64 (gLen true L)] 23)) (by simp)⟩
  · have HG := hid (show (if K = 1 ∧ D = 0 then (0 : Int) else 60) = 60 by rw [if_neg hKD])
    have HF := hid (show MaNo (.returned (.tuple #[.int .i64 0, .int .i64 60])) (mE K ro sub D P wr) by unfold mE MaNo; rw [if_pos hKD])
    clear hKD he
    go_enter Try.func15, Try.ntmps15
    go_wp2_with (first
      | (go_at_call 23; refine HN.out.mono ?_; rintro e w' ⟨rfl, rfl⟩)
      | (go_at_call 33; refine HU.out.mono ?_; rintro e w' ⟨rfl, rfl⟩)
      | (go_at_call 25; refine (HDm.out _).mono ?_; rintro e w' ⟨rfl, rfl⟩)
      | (go_at_call 34; refine HJ.out.mono ?_; rintro e w2 ⟨rfl, hm2⟩; have HM2 := hid hm2; clear hm2)
      | (go_at_call 35; refine (HSL.out _).mono ?_; rintro e w' ⟨rfl, rfl⟩)
      | (go_at_call 36; refine (HMP.out _ (HS.out.mod0 HM2.out)).mono ?_; rintro e w3 ⟨rfl, hm3⟩; have HM3 := hid (HM2.out.andThen hm3); clear hm3)
      | (go_at_call 37; refine (HE.out _ HM3.out).mono ?_; rintro e w5 ⟨g, rfl, hg, hs5, hv5, hm5⟩
         obtain rfl := hg.trans HG.out
         have HS5 := hid hs5
         have HV5 := hid hv5
         have HM5 := hid ((HM3.out.mono (T := [fb, v]) (by simp)).andThen hm5)
         clear hs5 hv5 hm5 hg))
    go_ret2
    exact ⟨HF.out, SE.out _ _ _ HS5.out HV5.out HM5.out ((Mod.refl [] w5).alloc (.cells #[.int .i64 K, .bool ro, .bool sub, .int .i64 D, .int .i64 P, .int .i64 (gOff sub O), .int .i64 (gLen sub L)] 23)) (by simp)⟩

set_option maxRecDepth 100000 in
set_option maxHeartbeats 4000000 in
theorem map_w {len : Nat} {G : Nat → Int} (s : SG w m fb x mb kb p1 bf bp F f #[] c) (hv : VH w v m db r) (d : Due w v db r len G 0) (hl : len ≤ 256) (hfv : fb < v) (hr : r ≤ 100)
    (K : Int) (ro sub : Bool) (D P O L : Int) (ok : GOk K D P O L) (hb : Lies F K ro sub D P O L) (hro : ro = false) (hKD : K = 1 ∧ D = 0) (hsub : sub = false) (hP : P = 0 ∨ P = 1) (hdk : kb ≠ db) (ht : F (2 + P).toNat 1 = 0 ∨ F (2 + P).toNat 1 = 1) (hT : 0 ≤ F (2 + P).toNat 3) (hT2 : F (2 + P).toNat 3 ≤ 1000) (hC : 0 ≤ F (2 + P).toNat 2) (hC2 : F (2 + P).toNat 2 ≤ 1000) :
    Calls Try.prog 15 #[.pointer (some ⟨x, 0, none⟩), .pointer (some ⟨v, 0, none⟩), .int .i64 0, .int .i64 1, .int .i64 0, .bool true] w fun e w' => e = .returned (.tuple #[.int .i64 0, .int .i64 0]) ∧ VH w' v m db (r + 1) ∧ GH w' x m mb kb f (one (2 + P) true c) (c + 1) ∧ PH w' m fb (got1 F (2 + P).toNat) ∧ Tn.Mod [fb, v, kb] w w' := by
  subst hsub hro
  have hE : ∀ W, Tn.Mod [] w W → Calls Try.prog 37 #[.pointer (some ⟨x, 0, none⟩), .pointer (some ⟨v, 0, none⟩), .int .i64 0, .int .i64 1, .int .i64 0] W fun e w' => ∃ g : Int, e = .returned (.tuple #[.agg #[.int .i64 K, .bool false, .bool false, .int .i64 D, .int .i64 P, .int .i64 (gOff false O), .int .i64 (gLen false L)], .int .i64 g]) ∧ g = (if K = 1 ∧ D = 0 then 0 else 60) ∧ SG w' m fb x mb kb p1 bf bp F f #[] c ∧ VH w' v m db (r + 1) ∧ Tn.Mod [fb, v] W w' := fun W hW => by
    refine (permit_f (s.mod0 hW) (hv.mod0 hW) (d.mod hW (by simp) (by simp) hv.mm) hl hfv hr K false false D P O L ok hb).mono ?_
    rintro e w' ⟨⟨g, he, hg⟩, h⟩
    exact ⟨g, he, hg, h⟩
  have HE := hid hE
  have HN := hid (gnone_f s.gh)
  have HU := hid (unmade_f hv)
  have HDm : Hid (∀ W : World, Calls Try.prog 25 #[.int .i64 0] W fun e w' => e = .returned (.bool true) ∧ W = w') := hid fun W => gdomain_f 0 (by omega) W
  have HSL : Hid (∀ W : World, Calls Try.prog 35 #[.int .i64 0] W fun e w' => e = .returned (.bool true) ∧ W = w') := hid fun W => slot_f 0 (by omega) W
  have HJ := hid (show Calls Try.prog 34 #[.pointer (some ⟨x, 0, none⟩), .int .i64 1] w fun e w' => e = .returned (.bool true) ∧ Tn.Mod [] w w' from joined_yes s.gh 1 2 p1 s.fo)
  have HMP := hid (fun (W : World) (hs : SG W m fb x mb kb p1 bf bp F f #[] c) => maps_f hs.gh)
  have SE : Hid (∀ (w5 W : World) (T : List Nat), SG w5 m fb x mb kb p1 bf bp F f #[] c → VH w5 v m db (r + 1) → Tn.Mod [fb, v] w w5 → Tn.Mod T w5 W → (∀ t ∈ T, w.heap.size ≤ t) → SG W m fb x mb kb p1 bf bp F f #[] c ∧ VH W v m db (r + 1) ∧ Tn.Mod [fb, v] w W) := hid fun w5 W T hs hv5 h1 h3 hT => s.on hv hs hv5 h1 h3 hT
  have HS := hid s
  have HV := hid hv
  have p0 := ok.p0
  have p1' := ok.p1
  have hpi : ((((2 + P).toNat : Nat)) : Int) = 2 + P := by omega
  have ho : F (2 + P).toNat 0 = ((1 : Nat) : Int) := by rcases hP with rfl | rfl; exact s.o2; exact s.o3
  have HP : Hid (∀ W, PH W m fb F → Calls Try.prog 26 #[.pointer (some ⟨m, 0, none⟩), .int .i64 (2 + P), .int .i64 1, .int .i64 1] W fun e w' => e = .returned (.int .i64 0) ∧ PH w' m fb (got1 F (2 + P).toNat) ∧ Tn.Mod [fb] W w') := hid fun W hp => by
    have h := get_1 hp (2 + P).toNat 1 (by omega) ho ht hT hT2 hC hC2
    rw [hpi] at h
    exact h
  have HKI : Hid (∀ W, Calls Try.prog 39 #[.bool true] W fun e w' => e = .returned (.int .i64 1) ∧ W = w') := hid fun W => kind_f true W
  have HPP := hid hP
  have HG := hid (show (if K = 1 ∧ D = 0 then (0 : Int) else 60) = 0 by rw [if_pos hKD])
  have hkf := ne_mapC s.ph.fr s.gh.km
  have HKF := hid hkf
  have HNE := hid hdk
  clear s hv d hl hfv hr ok hb hE hKD ho hpi ht hT hT2 hC hC2 hkf hP hdk
  go_enter Try.func15, Try.ntmps15
  go_wp2_with (first
    | (go_at_call 23; refine HN.out.mono ?_; rintro e w' ⟨rfl, rfl⟩)
    | (go_at_call 33; refine HU.out.mono ?_; rintro e w' ⟨rfl, rfl⟩)
    | (go_at_call 25; refine (HDm.out _).mono ?_; rintro e w' ⟨rfl, rfl⟩)
    | (go_at_call 34; refine HJ.out.mono ?_; rintro e w2 ⟨rfl, hm2⟩; have HM2 := hid hm2; clear hm2)
    | (go_at_call 35; refine (HSL.out _).mono ?_; rintro e w' ⟨rfl, rfl⟩)
    | (go_at_call 36; refine (HMP.out _ (HS.out.mod0 HM2.out)).mono ?_; rintro e w3 ⟨rfl, hm3⟩; have HM3 := hid (HM2.out.andThen hm3); clear hm3)
    | (go_at_call 37; refine (HE.out _ HM3.out).mono ?_; rintro e w5 ⟨g, rfl, hg, hs5, hv5, hm5⟩
       obtain rfl := hg.trans HG.out
       have HS5 := hid hs5
       have HV5 := hid hv5
       have HM5 := hid ((HM3.out.mono (T := [fb, v]) (by simp)).andThen hm5)
       clear hs5 hv5 hm5 hg)
    | (go_at_call 38; refine (gframe_ok (HS5.out.mod0 ((Mod.refl [] w5).alloc _)) P HPP.out).mono ?_; rintro e w7 ⟨rfl, hm7⟩
       have hm57 := ((Mod.refl [] w5).alloc (.cells #[.int .i64 K, .bool false, .bool false, .int .i64 D, .int .i64 P, .int .i64 (gOff false O), .int .i64 (gLen false L)] 23)).andThen hm7
       have HM57 := hid hm57
       have HS7 := hid (HS5.out.mod0 hm57)
       have HV7 := hid (HV5.out.mod0 hm57)
       clear hm7 hm57))
  have HC0 := hid (show w7.drew.cell? ⟨x, 0, none⟩ = some (.pointer (some ⟨m, 0, none⟩)) from HS7.out.gh.c0)
  have HPC := hid (HP.out _ (HS7.out.ph.mod0 (Mod.refl [] w7).drew))
  go_region_held3 (fun w' => w'.cell? ⟨x, 0, none⟩ = some (.pointer (some ⟨m, 0, none⟩))) (first | exact HC0.out | exact HC8.out) (first
    | (go_at_call 39; refine (HKI.out _).mono ?_; rintro e w' ⟨rfl, rfl⟩)
    | (go_at_call 26; refine HPC.out.mono ?_; rintro e w8 ⟨rfl, hp8, hm8⟩
       have hm78 : Tn.Mod [fb] w7 w8 := (Mod.refl [fb] w7).drew.andThen hm8
       have HP8 := hid hp8
       have HM78 := hid hm78
       have HC8 := hid ((hm78.cell (p := ⟨x, 0, none⟩) HS7.out.gh.blk.lt (by simpa using HS7.out.gh.blk.ne_ HS7.out.ph.fr (by decide))).trans HS7.out.gh.c0)
       clear hp8 hm8 hm78))
  have hg8 := HS7.out.gh.mod HM78.out (by simpa using HS7.out.gh.blk.ne_ HS7.out.ph.fr (by decide)) (by simpa using fun e => HS7.out.ph.fr.ne_map HS7.out.gh.mm.imap e.symm) (by simpa using HKF.out)
  have hv8 := HV7.out.mod HM78.out (by simpa using HV7.out.blk.ne_ HS7.out.ph.fr (by decide)) (by simpa using fun e => HS7.out.ph.fr.ne_map HV7.out.mm.imap e.symm)
  have c2 := hg8.c2
  have km : KMn w8 kb := ⟨_, hg8.km⟩
  have HG8 := hid hg8
  have HV8 := hid hv8
  clear hg8 hv8
  go_wp2
  go_loopw [18] (fun h wr => h = .int .i64 0 ∧ wr = w8) (fun _ _ => 0)
  case atStart => exact ⟨rfl, rfl⟩
  case round =>
    obtain ⟨rfl, rfl⟩ := hrel
    go_wp2
    go_ret2
    have hmK : Tn.Mod [kb] wr (putK wr kb (.agg #[.int .i64 0, .int .i64 0, .int .i64 1, .int .i64 0, .int .i64 (2 + P), .bool true])) := putM_mod _ _ _
    refine ⟨rfl, HV8.out.mod hmK (by simpa using fun e => ne_mapC HV8.out.blk HG8.out.km e.symm) (by simpa using fun e => HNE.out e.symm), ?_, HP8.out.mod hmK (by simpa using fun e => ne_mapC HP8.out.blk HG8.out.km e.symm) (by simpa using fun e => HKF.out e.symm), ?_⟩
    · exact ⟨HG8.out.blk.mod hmK (by simpa using fun e => ne_mapC HG8.out.blk HG8.out.km e.symm), HG8.out.mm.of_heap (hmK.block _ HG8.out.mm.lt (by simpa using HG8.out.ne)), fun n => (mget_of_heap (hmK.block _ HG8.out.mm.lt (by simpa using HG8.out.ne)) n).trans (HG8.out.mg n), putK_at HG8.out.km _, HG8.out.ne⟩
    · exact (((HM5.out.mono (T := [fb, v, kb]) (by simp)).andThen (HM57.out.mono (by simp))).andThen (HM78.out.mono (by simp))).andThen (hmK.mono (by simp))

set_option maxRecDepth 100000 in
set_option maxHeartbeats 4000000 in
theorem map_r {len : Nat} {G : Nat → Int} (s : SG w m fb x mb kb p1 bf bp F f #[] c) (hv : VH w v m db r) (d : Due w v db r len G 0) (hl : len ≤ 256) (hfv : fb < v) (hr : r ≤ 100)
    (K : Int) (ro sub : Bool) (D P O L : Int) (ok : GOk K D P O L) (hb : Lies F K ro sub D P O L)  (hKD : K = 1 ∧ D = 0) (hsub : sub = false) (hP : P = 0 ∨ P = 1) (hdk : kb ≠ db) (hT : 0 ≤ F (2 + P).toNat 3) (hT2 : F (2 + P).toNat 3 ≤ 1000) :
    Calls Try.prog 15 #[.pointer (some ⟨x, 0, none⟩), .pointer (some ⟨v, 0, none⟩), .int .i64 0, .int .i64 1, .int .i64 0, .bool false] w fun e w' => e = .returned (.tuple #[.int .i64 0, .int .i64 0]) ∧ VH w' v m db (r + 1) ∧ GH w' x m mb kb f (one (2 + P) false c) (c + 1) ∧ PH w' m fb (upd F (2 + P).toNat 3 (F (2 + P).toNat 3 + 1)) ∧ Tn.Mod [fb, v, kb] w w' := by
  subst hsub
  have hE : ∀ W, Tn.Mod [] w W → Calls Try.prog 37 #[.pointer (some ⟨x, 0, none⟩), .pointer (some ⟨v, 0, none⟩), .int .i64 0, .int .i64 1, .int .i64 0] W fun e w' => ∃ g : Int, e = .returned (.tuple #[.agg #[.int .i64 K, .bool ro, .bool false, .int .i64 D, .int .i64 P, .int .i64 (gOff false O), .int .i64 (gLen false L)], .int .i64 g]) ∧ g = (if K = 1 ∧ D = 0 then 0 else 60) ∧ SG w' m fb x mb kb p1 bf bp F f #[] c ∧ VH w' v m db (r + 1) ∧ Tn.Mod [fb, v] W w' := fun W hW => by
    refine (permit_f (s.mod0 hW) (hv.mod0 hW) (d.mod hW (by simp) (by simp) hv.mm) hl hfv hr K ro false D P O L ok hb).mono ?_
    rintro e w' ⟨⟨g, he, hg⟩, h⟩
    exact ⟨g, he, hg, h⟩
  have HE := hid hE
  have HN := hid (gnone_f s.gh)
  have HU := hid (unmade_f hv)
  have HDm : Hid (∀ W : World, Calls Try.prog 25 #[.int .i64 0] W fun e w' => e = .returned (.bool true) ∧ W = w') := hid fun W => gdomain_f 0 (by omega) W
  have HSL : Hid (∀ W : World, Calls Try.prog 35 #[.int .i64 0] W fun e w' => e = .returned (.bool true) ∧ W = w') := hid fun W => slot_f 0 (by omega) W
  have HJ := hid (show Calls Try.prog 34 #[.pointer (some ⟨x, 0, none⟩), .int .i64 1] w fun e w' => e = .returned (.bool true) ∧ Tn.Mod [] w w' from joined_yes s.gh 1 2 p1 s.fo)
  have HMP := hid (fun (W : World) (hs : SG W m fb x mb kb p1 bf bp F f #[] c) => maps_f hs.gh)
  have SE : Hid (∀ (w5 W : World) (T : List Nat), SG w5 m fb x mb kb p1 bf bp F f #[] c → VH w5 v m db (r + 1) → Tn.Mod [fb, v] w w5 → Tn.Mod T w5 W → (∀ t ∈ T, w.heap.size ≤ t) → SG W m fb x mb kb p1 bf bp F f #[] c ∧ VH W v m db (r + 1) ∧ Tn.Mod [fb, v] w W) := hid fun w5 W T hs hv5 h1 h3 hT => s.on hv hs hv5 h1 h3 hT
  have HS := hid s
  have HV := hid hv
  have p0 := ok.p0
  have p1' := ok.p1
  have hpi : ((((2 + P).toNat : Nat)) : Int) = 2 + P := by omega
  have ho : F (2 + P).toNat 0 = ((1 : Nat) : Int) := by rcases hP with rfl | rfl; exact s.o2; exact s.o3
  have HP : Hid (∀ W, PH W m fb F → Calls Try.prog 26 #[.pointer (some ⟨m, 0, none⟩), .int .i64 (2 + P), .int .i64 1, .int .i64 0] W fun e w' => e = .returned (.int .i64 0) ∧ PH w' m fb (upd F (2 + P).toNat 3 (F (2 + P).toNat 3 + 1)) ∧ Tn.Mod [fb] W w') := hid fun W hp => by
    have h := get_0 hp (2 + P).toNat 1 (by omega) ho hT hT2
    rw [hpi] at h
    exact h
  have HKI : Hid (∀ W, Calls Try.prog 39 #[.bool false] W fun e w' => e = .returned (.int .i64 0) ∧ W = w') := hid fun W => kind_f false W
  have HPP := hid hP
  have HG := hid (show (if K = 1 ∧ D = 0 then (0 : Int) else 60) = 0 by rw [if_pos hKD])
  have hkf := ne_mapC s.ph.fr s.gh.km
  have HKF := hid hkf
  have HNE := hid hdk
  clear s hv d hl hfv hr ok hb hE hKD ho hpi hT hT2 hkf hP hdk
  go_enter Try.func15, Try.ntmps15
  go_wp2_with (first
    | (go_at_call 23; refine HN.out.mono ?_; rintro e w' ⟨rfl, rfl⟩)
    | (go_at_call 33; refine HU.out.mono ?_; rintro e w' ⟨rfl, rfl⟩)
    | (go_at_call 25; refine (HDm.out _).mono ?_; rintro e w' ⟨rfl, rfl⟩)
    | (go_at_call 34; refine HJ.out.mono ?_; rintro e w2 ⟨rfl, hm2⟩; have HM2 := hid hm2; clear hm2)
    | (go_at_call 35; refine (HSL.out _).mono ?_; rintro e w' ⟨rfl, rfl⟩)
    | (go_at_call 36; refine (HMP.out _ (HS.out.mod0 HM2.out)).mono ?_; rintro e w3 ⟨rfl, hm3⟩; have HM3 := hid (HM2.out.andThen hm3); clear hm3)
    | (go_at_call 37; refine (HE.out _ HM3.out).mono ?_; rintro e w5 ⟨g, rfl, hg, hs5, hv5, hm5⟩
       obtain rfl := hg.trans HG.out
       have HS5 := hid hs5
       have HV5 := hid hv5
       have HM5 := hid ((HM3.out.mono (T := [fb, v]) (by simp)).andThen hm5)
       clear hs5 hv5 hm5 hg)
    | (go_at_call 38; refine (gframe_ok (HS5.out.mod0 ((Mod.refl [] w5).alloc _)) P HPP.out).mono ?_; rintro e w7 ⟨rfl, hm7⟩
       have hm57 := ((Mod.refl [] w5).alloc (.cells #[.int .i64 K, .bool ro, .bool false, .int .i64 D, .int .i64 P, .int .i64 (gOff false O), .int .i64 (gLen false L)] 23)).andThen hm7
       have HM57 := hid hm57
       have HS7 := hid (HS5.out.mod0 hm57)
       have HV7 := hid (HV5.out.mod0 hm57)
       clear hm7 hm57))
  have HC0 := hid (show w7.drew.cell? ⟨x, 0, none⟩ = some (.pointer (some ⟨m, 0, none⟩)) from HS7.out.gh.c0)
  have HPC := hid (HP.out _ (HS7.out.ph.mod0 (Mod.refl [] w7).drew))
  go_region_held3 (fun w' => w'.cell? ⟨x, 0, none⟩ = some (.pointer (some ⟨m, 0, none⟩))) (first | exact HC0.out | exact HC8.out) (first
    | (go_at_call 39; refine (HKI.out _).mono ?_; rintro e w' ⟨rfl, rfl⟩)
    | (go_at_call 26; refine HPC.out.mono ?_; rintro e w8 ⟨rfl, hp8, hm8⟩
       have hm78 : Tn.Mod [fb] w7 w8 := (Mod.refl [fb] w7).drew.andThen hm8
       have HP8 := hid hp8
       have HM78 := hid hm78
       have HC8 := hid ((hm78.cell (p := ⟨x, 0, none⟩) HS7.out.gh.blk.lt (by simpa using HS7.out.gh.blk.ne_ HS7.out.ph.fr (by decide))).trans HS7.out.gh.c0)
       clear hp8 hm8 hm78))
  have hg8 := HS7.out.gh.mod HM78.out (by simpa using HS7.out.gh.blk.ne_ HS7.out.ph.fr (by decide)) (by simpa using fun e => HS7.out.ph.fr.ne_map HS7.out.gh.mm.imap e.symm) (by simpa using HKF.out)
  have hv8 := HV7.out.mod HM78.out (by simpa using HV7.out.blk.ne_ HS7.out.ph.fr (by decide)) (by simpa using fun e => HS7.out.ph.fr.ne_map HV7.out.mm.imap e.symm)
  have c2 := hg8.c2
  have km : KMn w8 kb := ⟨_, hg8.km⟩
  have HG8 := hid hg8
  have HV8 := hid hv8
  clear hg8 hv8
  go_wp2
  go_loopw [18] (fun h wr => h = .int .i64 0 ∧ wr = w8) (fun _ _ => 0)
  case atStart => exact ⟨rfl, rfl⟩
  case round =>
    obtain ⟨rfl, rfl⟩ := hrel
    go_wp2
    go_ret2
    have hmK : Tn.Mod [kb] wr (putK wr kb (.agg #[.int .i64 0, .int .i64 0, .int .i64 1, .int .i64 0, .int .i64 (2 + P), .bool false])) := putM_mod _ _ _
    refine ⟨rfl, HV8.out.mod hmK (by simpa using fun e => ne_mapC HV8.out.blk HG8.out.km e.symm) (by simpa using fun e => HNE.out e.symm), ?_, HP8.out.mod hmK (by simpa using fun e => ne_mapC HP8.out.blk HG8.out.km e.symm) (by simpa using fun e => HKF.out e.symm), ?_⟩
    · exact ⟨HG8.out.blk.mod hmK (by simpa using fun e => ne_mapC HG8.out.blk HG8.out.km e.symm), HG8.out.mm.of_heap (hmK.block _ HG8.out.mm.lt (by simpa using HG8.out.ne)), fun n => (mget_of_heap (hmK.block _ HG8.out.mm.lt (by simpa using HG8.out.ne)) n).trans (HG8.out.mg n), putK_at HG8.out.km _, HG8.out.ne⟩
    · exact (((HM5.out.mono (T := [fb, v, kb]) (by simp)).andThen (HM57.out.mono (by simp))).andThen (HM78.out.mono (by simp))).andThen (hmK.mono (by simp))
end
end Go.Proofs.Ythakplgehanopaa
